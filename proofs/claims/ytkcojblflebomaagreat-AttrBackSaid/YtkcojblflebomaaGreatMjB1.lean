/-
  AttrBack: for all attributes the law answers true. Conditions: none of its own.
-/
import Derived.Test.YtkcojblflebomaaGreatAdA
import Derived.OrdersHeld
import Derived.Test.YtkcojblflebomaaGreatAcV
import Derived.Test.YtkcojblflebomaaGreatAbL
import Derived.Test.YtkcojblflebomaaGreatAcD
import Derived.Test.YtkcojblflebomaaGreatAbM
import Derived.Test.YtkcojblflebomaaGreatAbN
import Derived.Test.YtkcojblflebomaaGreatAaO
import Derived.Test.YtkcojblflebomaaGreatAcC
import Derived.Test.YtkcojblflebomaaGreatAbH
import Derived.Test.YtkcojblflebomaaGreatAcJ
import Derived.Test.YtkcojblflebomaaGreatAcK
import Derived.Test.YtkcojblflebomaaGreatAcN
import Derived.Deep.MidRow
import Derived.BigQuiet
import Derived.Deep.QuietTactic
import Derived.Deep.DeepCutAuto
set_option linter.unusedVariables false
set_option linter.unusedSimpArgs false
namespace Go.Proofs.YtkcojblflebomaaGreat
open Go.RowKit Go.MapKept Go.Shelf
open Go.Lib hiding intOf

def LgC (w : World) (g o : Nat) (x : Lg) : Prop := w.cell? ⟨g, o, none⟩ = some (.int .u32 (x.g : Nat)) ∧ w.cell? ⟨g, o + 1, none⟩ = some (.int .u32 (x.a : Nat)) ∧ w.cell? ⟨g, o + 2, none⟩ = some (.int .u32 (x.b : Nat))
theorem own_lg {w : World} {base g n cap i : Nat} {cur : List Lg} {x : Lg} (h : OwnM w base 59 3 (.slice (some ⟨g, 0, none⟩) n cap) n (cur.flatMap Lg.cs)) (hn : 0 < n) (hx : cur[i]? = some x) : LgC w g (i * 3) x := by
  obtain ⟨g2, cap2, hv, _, _, _, _, hc, _⟩ := OwnM.cells h hn
  simp only [Value.slice.injEq, Option.some.injEq, Addr.mk.injEq] at hv
  obtain ⟨⟨rfl, _⟩, _, rfl⟩ := hv
  exact ⟨hc _ _ (flat_at Lg.cs_len cur i x 0 _ hx rfl), hc _ _ (flat_at Lg.cs_len cur i x 1 _ hx rfl), hc _ _ (flat_at Lg.cs_len cur i x 2 _ hx rfl)⟩
theorem own_there {w : World} {base g n cap : Nat} {xs : List Value} (h : OwnM w base 59 3 (.slice (some ⟨g, 0, none⟩) n cap) n xs) (hn : 0 < n) : w.there g 0 (n * 3) := by
  obtain ⟨g2, cap2, hv, _, _, _, _, ht⟩ := OwnM.there h hn
  simp only [Value.slice.injEq, Option.some.injEq, Addr.mk.injEq] at hv
  obtain ⟨⟨rfl, _⟩, _, rfl⟩ := hv
  exact ht
theorem zero_large : ∀ w, (zeroValue 59).run Tryz.prog w = .ok (.agg #[.int .u32 0, .int .u32 0, .int .u32 0]) w := Tryz.zeroValue59
theorem clear_L {w : World} {base g n cap k : Nat} {xs : List Value} (h : OwnM w base 59 3 (.slice (some ⟨g, 0, none⟩) n cap) n xs) (hk : k < n) (c : Nat) (ty : TypeId) :
    ∃ w', (Builtin.clear_ #[38] ty #[.slice (some ⟨g, k * 3, none⟩) (n - k) c]).run Tryz.prog w = .ok (.tuple #[]) w' ∧ OwnM w' base 59 3 (.slice (some ⟨g, 0, none⟩) k cap) k (xs.take (k * 3)) ∧ w.grownBy w' (some g) := by
  have ht := own_there h (by omega)
  refine ⟨_, run_clear_k (P := Tryz.prog) w 38 59 ty (.agg #[.int .u32 0, .int .u32 0, .int .u32 0]) Tryz.underlying38 zero_large (by simp [Value.cells, Value.oneCell']) (by decide) g (k * 3) (n - k) c (by omega) (fun j hj => ?_) (fun j hj => ?_), ?_, grown_setCells g _ _ w⟩
  · have := (ht (k * 3 + j) (by simp [Value.cells] at hj; omega)).1
    rwa [Nat.zero_add] at this
  · have := (ht (k * 3 + j) (by simp [Value.cells] at hj; omega)).2
    rwa [Nat.zero_add] at this
  · have h1 := OwnM.setMany (Builtin.zeroCells (Value.agg #[.int .u32 0, .int .u32 0, .int .u32 0]).cells (n - k)).toList (k * 3) w xs h (by simp [Builtin.zeroCells, Value.cells]; omega)
    have h2 := h1.cut (m := k) (by omega)
    rwa [setL_take _ _ _ _ (Nat.le_refl _)] at h2
/-- large ones compared: the fields -/
theorem lg_unlike {x y : Lg} (h : ¬ y = x) : ¬ (y.g = x.g ∧ y.a = x.a ∧ y.b = x.b) := fun e => h (Lg.eq_iff.1 e)
theorem grown_drewN {w w' : World} {row : Option Nat} (h : w.grownBy w' row) (n : Nat) : w.grownBy (w'.drewN n) row := ⟨h.os, h.tape, h.output, h.size, h.block⟩
set_option maxRecDepth 100000 in
set_option maxHeartbeats 16000000 in
theorem cut_L (w : World) (base : Nat) (v : Value) (l : List Lg) (h : OwnL w base 59 3 Lg.cs v l) (hl : l.length ≤ 4611686018427387904) :
    Calls Tryz.prog 130 #[v] w (CmpPost w base 59 3 Lg.cs v (dd l)) := by
  by_cases h1 : l.length < 2
  · have hdd : dd l = l := by
      match l, h1 with
      | [], _ => rfl
      | [a], _ => rfl
    rw [hdd]
    obtain ⟨A, c, rfl⟩ := h.form
    have HH := Lib.hid h
    have h1' : (l.length : Int) < 2 := by omega
    clear h hdd
    go_enter Tryz.func130, Tryz.ntmps130
    go_wp2_with fail
    go_ret
    exact ⟨_, rfl, HH.out, grown_refl _ _, rfl⟩
  obtain ⟨g, cap, rfl, hb, hg, hn, hc, _⟩ := OwnM.cells h (show 0 < l.length by omega)
  have HH : Hid (OwnM w base 59 3 (.slice (some ⟨g, 0, none⟩) l.length cap) l.length (l.flatMap Lg.cs)) := h
  have HRET : Hid (∀ (k : Nat) (W : World), Hid (∃ cur : List Lg, Cmp l cur l.length k ∧ OwnM W base 59 3 (.slice (some ⟨g, 0, none⟩) k cap) k ((cur.flatMap Lg.cs).take (k * 3)) ∧ w.grownBy W (some g)) → CmpPost w base 59 3 Lg.cs (.slice (some ⟨g, 0, none⟩) l.length cap) (dd l) (.returned (.slice (some ⟨g, 0, none⟩) k cap)) W) := fun k W hx => by
    obtain ⟨cur, h1, h2, h3⟩ := hx.out
    obtain ⟨f1, f2⟩ := h1.fin
    refine ⟨_, rfl, ?_, h3, rfl⟩
    unfold OwnL
    rw [f2, ← f1, ← flat_take Lg.cs_len]
    exact h2
  have HALL : Hid (∀ (W : World), dd l = l → OwnL W base 59 3 Lg.cs (.slice (some ⟨g, 0, none⟩) l.length cap) l → w.grownBy W (some g) → CmpPost w base 59 3 Lg.cs (.slice (some ⟨g, 0, none⟩) l.length cap) (dd l) (.returned (.slice (some ⟨g, 0, none⟩) l.length cap)) W) := fun W e h2 h3 => by
    rw [e]
    exact ⟨_, rfl, h2, h3, rfl⟩
  generalize CmpPost w base 59 3 Lg.cs (.slice (some ⟨g, 0, none⟩) l.length cap) (dd l) = POST at HRET HALL ⊢
  obtain ⟨n, hnn⟩ : ∃ n, n = l.length := ⟨_, rfl⟩
  rw [← hnn] at HH HALL HRET h1 hn hl ⊢
  have HN := Lib.hid hnn
  have h1' : ¬ ((n : Int) < 2) := by omega
  clear h hnn
  go_enter Tryz.func130, Tryz.ntmps130
  go_wp2_with fail
  go_loopw [3] (fun i wr => ∃ k : Nat, k + 1 ≤ n ∧ i = .int .i64 ((k : Int) + 1) ∧ Hid (dd (l.take (k + 1)) = l.take (k + 1)) ∧ Hid (OwnM wr base 59 3 (.slice (some ⟨g, 0, none⟩) n cap) n (l.flatMap Lg.cs)) ∧ Hid (w.grownBy wr (some g))) (fun i _ => n + 2 - (intOf i).toNat)
  case atStart => exact ⟨0, by omega, rfl, by
    cases l with
    | nil => rfl
    | cons a r => rfl, HH.out, grown_refl _ _⟩
  case round =>
    clear HH
    obtain ⟨k, hk, rfl, HD, HO, HG⟩ := hrel
    have hv1 : IntKind.i64.wrap ((k : Int) + 1 - 1) = k := by rw [show (k : Int) + 1 - 1 = k by omega]; exact IntWalk.i64_in _ (by omega)
    by_cases hlt : k + 1 < n
    · obtain ⟨x, hx⟩ : ∃ x, l[k]? = some x := ⟨l[k]'(by have := HN.out; omega), List.getElem?_eq_getElem _⟩
      obtain ⟨y, hy⟩ : ∃ y, l[k + 1]? = some y := ⟨l[k + 1]'(by have := HN.out; omega), List.getElem?_eq_getElem _⟩
      have HX := Lib.hid hx
      have HY := Lib.hid hy
      obtain ⟨p0, p1, p2⟩ := own_lg HO.out (by omega) hx
      obtain ⟨q0, q1, q2⟩ := own_lg HO.out (by omega) hy
      have hlt' : (k : Int) + 1 < (n : Int) := by omega
      clear hx hy
      by_cases hxy : y = x
      · subst hxy
        have hne0 : ((y.g : Int) != (y.g : Int)) = false := by simp
        have hne1 : ((y.a : Int) != (y.a : Int)) = false := by simp
        have hne2 : ((y.b : Int) != (y.b : Int)) = false := by simp
        have he0 : ((y.g : Int) == (y.g : Int)) = true := by simp
        have he1 : ((y.a : Int) == (y.a : Int)) = true := by simp
        have he2 : ((y.b : Int) == (y.b : Int)) = true := by simp
        go_wp2_with fail
        go_quiet (fail)
        go_wp2_with fail
        have HS0 : Hid (∃ cur : List Lg, Cmp l cur (k + 2) (k + 1) ∧ OwnM wr base 59 3 (.slice (some ⟨g, 0, none⟩) n cap) n (cur.flatMap Lg.cs)) := ⟨l, Cmp.start HD.out HX.out HY.out, HO.out⟩
        clear p0 p1 p2 q0 q1 q2 hne0 hne1 hne2 he0 he1 he2 HO HX HY HD
        go_loopw [3, 5] (fun i i2 wq => ∃ (m j : Nat), i = .int .i64 (m : Nat) ∧ i2 = .int .i64 ((j : Int) + 1) ∧ k + 1 + j + 1 ≤ n ∧ Hid (∃ cur : List Lg, Cmp l cur (k + 1 + j + 1) m ∧ OwnM wq base 59 3 (.slice (some ⟨g, 0, none⟩) n cap) n (cur.flatMap Lg.cs)) ∧ Hid (w.grownBy wq (some g))) (fun _ i2 _ => n + 2 - (intOf i2).toNat)
        case atStart => exact ⟨k + 1, 0, by go_num, rfl, by omega, HS0.out, grown_drewN HG.out _⟩
        case round =>
          clear HS0 HG
          obtain ⟨m, j, rfl, rfl, hj, HS, HG⟩ := hrel
          obtain ⟨cur, hcm, ho⟩ := HS.out
          have hmk := hcm.k1
          have hcl := hcm.len
          have hmn : m < n := by omega
          have HCM := Lib.hid hcm
          have HO := Lib.hid ho
          have HNN : Hid (cur.length = n) := hcl.trans HN.out.symm
          clear HS hcl
          by_cases hlt2 : k + 1 + j + 1 < n
          · obtain ⟨x, hx⟩ : ∃ x, cur[k + 1 + j]? = some x := ⟨cur[k + 1 + j]'(by have := HNN.out; omega), List.getElem?_eq_getElem _⟩
            obtain ⟨z, hz⟩ : ∃ z, cur[k + 1 + j + 1]? = some z := ⟨cur[k + 1 + j + 1]'(by have := HNN.out; omega), List.getElem?_eq_getElem _⟩
            have HX : Hid (l[k + 1 + j]? = some x) := by
              show _ = _
              rw [← hcm.rest _ (by omega)]
              exact hx
            have HZ : Hid (l[k + 1 + j + 1]? = some z) := by
              show _ = _
              rw [← hcm.rest _ (by omega)]
              exact hz
            have hpx := own_lg ho (by omega) hx
            have hpz := own_lg ho (by omega) hz
            rw [show (k + 1 + j) * 3 = (k + 1) * 3 + j * 3 by omega] at hpx
            rw [show (k + 1 + j + 1) * 3 = (k + 1) * 3 + (j + 1) * 3 by omega] at hpz
            obtain ⟨p0, p1, p2⟩ := hpx
            obtain ⟨q0, q1, q2⟩ := hpz
            have hjj : (j : Int) + 1 < ((n - (k + 1) : Nat) : Int) := by omega
            have hj0 : 0 ≤ (j : Int) := by omega
            have hj1 : (j : Int) < ((n - (k + 1) : Nat) : Int) := by omega
            have hv2 : IntKind.i64.wrap ((j : Int) + 1 - 1) = j := by rw [show (j : Int) + 1 - 1 = j by omega]; exact IntWalk.i64_in _ (by omega)
            clear hx hz hcm ho
            by_cases hxz : z = x
            · subst hxz
              have he0 : ((z.g : Int) == (z.g : Int)) = true := by simp
              have he1 : ((z.a : Int) == (z.a : Int)) = true := by simp
              have he2 : ((z.b : Int) == (z.b : Int)) = true := by simp
              go_wp2_with fail
              go_quiet (fail)
              go_wp2_with fail
              exact ⟨⟨m, j + 1, rfl, by go_num, by omega, ⟨cur, HCM.out.skip HX.out HZ.out, HO.out⟩, grown_drewN HG.out _⟩, by simp [intOf]; omega⟩
            · have HD : Hid (¬ (z.g = x.g ∧ z.a = x.a ∧ z.b = x.b)) := lg_unlike hxz
              have HNE := Lib.hid hxz
              clear hxz
              have HTH : Hid (∀ q, (wr.drewN q).there g (m * 3) (#[Value.int .u32 (z.g : Nat), .int .u32 (z.a : Nat), .int .u32 (z.b : Nat)] : Array Value).size) := fun q => there_part (own_there HO.out (by omega)) hmn
              have HST : Hid (∀ q, Hid (∃ cur : List Lg, Cmp l cur (k + 1 + (j + 1) + 1) (m + 1) ∧ OwnM ((wr.drewN q).setCells g (m * 3) [.int .u32 (z.g : Nat), .int .u32 (z.a : Nat), .int .u32 (z.b : Nat)]) base 59 3 (.slice (some ⟨g, 0, none⟩) n cap) n (cur.flatMap Lg.cs))) := fun q => by
                refine ⟨cur.set m z, HCM.out.keep HX.out HZ.out HNE.out, ?_⟩
                rw [← flat_setL (by decide) Lg.cs_len cur m z (by rw [HNN.out]; exact hmn)]
                exact OwnM.setMany (Lg.cs z) (m * 3) (wr.drewN q) _ HO.out (by rw [Lg.cs_len]; omega)
              have HSG : Hid (∀ q, Hid (w.grownBy ((wr.drewN q).setCells g (m * 3) [.int .u32 (z.g : Nat), .int .u32 (z.a : Nat), .int .u32 (z.b : Nat)]) (some g))) := fun q => grown_trans (grown_drewN HG.out q) (grown_setCells g _ _ _)
              by_cases d0 : z.g = x.g
              · have he0 : ((z.g : Int) == (x.g : Int)) = true := by simp [d0]
                by_cases d1 : z.a = x.a
                · have he1 : ((z.a : Int) == (x.a : Int)) = true := by simp [d1]
                  have d2 : ¬ z.b = x.b := fun e => HD.out ⟨d0, d1, e⟩
                  have he2 : ((z.b : Int) == (x.b : Int)) = false := beq_eq_false_iff_ne.2 (by omega)
                  clear d0 d1 d2
                  go_wp2_with fail
                  go_quiet (fail)
                  go_wp2_with (with_reducible show wpList _ _ _ (_ :: _) _ _; refine wpList_store_mid rfl 59 (.tmp 51) (.tmp 50) rfl g (m * 3) #[.int .u32 (z.g : Nat), .int .u32 (z.a : Nat), .int .u32 (z.b : Nat)] rfl rfl (HTH.out _) (by kernel_rfl) (by kernel_rfl) ?_)
                  exact ⟨⟨m + 1, j + 1, by go_num, by go_num, by omega, HST.out _, HSG.out _⟩, by simp [intOf]; omega⟩
                · have he1 : ((z.a : Int) == (x.a : Int)) = false := beq_eq_false_iff_ne.2 (by omega)
                  clear d0 d1
                  go_wp2_with fail
                  go_quiet (fail)
                  go_wp2_with (with_reducible show wpList _ _ _ (_ :: _) _ _; refine wpList_store_mid rfl 59 (.tmp 51) (.tmp 50) rfl g (m * 3) #[.int .u32 (z.g : Nat), .int .u32 (z.a : Nat), .int .u32 (z.b : Nat)] rfl rfl (HTH.out _) (by kernel_rfl) (by kernel_rfl) ?_)
                  exact ⟨⟨m + 1, j + 1, by go_num, by go_num, by omega, HST.out _, HSG.out _⟩, by simp [intOf]; omega⟩
              · have he0 : ((z.g : Int) == (x.g : Int)) = false := beq_eq_false_iff_ne.2 (by omega)
                clear d0
                go_wp2_with fail
                go_quiet (fail)
                go_wp2_with (with_reducible show wpList _ _ _ (_ :: _) _ _; refine wpList_store_mid rfl 59 (.tmp 51) (.tmp 50) rfl g (m * 3) #[.int .u32 (z.g : Nat), .int .u32 (z.a : Nat), .int .u32 (z.b : Nat)] rfl rfl (HTH.out _) (by kernel_rfl) (by kernel_rfl) ?_)
                exact ⟨⟨m + 1, j + 1, by go_num, by go_num, by omega, HST.out _, HSG.out _⟩, by simp [intOf]; omega⟩
          · have hjj : ¬ ((j : Int) + 1 < ((n - (k + 1) : Nat) : Int)) := by omega
            obtain ⟨W, hr, hW, hWG⟩ : ∃ W, (∀ ty, (Builtin.clear_ #[38] ty #[.slice (some ⟨g, m * 3, none⟩) (n - m) (cap - m)]).run Tryz.prog wr = .ok (.tuple #[]) W) ∧ Hid (OwnM W base 59 3 (.slice (some ⟨g, 0, none⟩) m cap) m ((cur.flatMap Lg.cs).take (m * 3))) ∧ Hid (wr.grownBy W (some g)) := by
              obtain ⟨W, h1, h2, h3⟩ := clear_L HO.out hmn (cap - m) 0
              exact ⟨W, fun ty => h1, h2, h3⟩
            have HR : Hid (∃ cur : List Lg, Cmp l cur n m ∧ OwnM W base 59 3 (.slice (some ⟨g, 0, none⟩) m cap) m ((cur.flatMap Lg.cs).take (m * 3)) ∧ w.grownBy W (some g)) := ⟨cur, by rw [← show k + 1 + j + 1 = n by omega]; exact HCM.out, hW.out, grown_trans HG.out hWG.out⟩
            clear hcm ho
            go_wp2_with fail
            exact HRET.out _ _ HR
      · have HNE : Hid (dd (l.take (k + 1 + 1)) = l.take (k + 1 + 1)) := by
          show _ = _
          rw [dd_take l k x y HX.out HY.out, if_neg hxy, HD.out, List.take_add_one (i := k + 1), HY.out]
          rfl
        have HD2 : Hid (¬ (y.g = x.g ∧ y.a = x.a ∧ y.b = x.b)) := lg_unlike hxy
        clear hxy
        by_cases d0 : y.g = x.g
        · have he0 : ((y.g : Int) == (x.g : Int)) = true := by simp [d0]
          by_cases d1 : y.a = x.a
          · have he1 : ((y.a : Int) == (x.a : Int)) = true := by simp [d1]
            have d2 : ¬ y.b = x.b := fun e => HD2.out ⟨d0, d1, e⟩
            have he2 : ((y.b : Int) == (x.b : Int)) = false := beq_eq_false_iff_ne.2 (by omega)
            clear d0 d1 d2
            go_wp2_with fail
            go_quiet (fail)
            go_wp2_with fail
            exact ⟨⟨k + 1, by omega, by go_num, HNE.out, HO.out, grown_drewN HG.out _⟩, by simp [intOf]; omega⟩
          · have he1 : ((y.a : Int) == (x.a : Int)) = false := beq_eq_false_iff_ne.2 (by omega)
            clear d0 d1
            go_wp2_with fail
            go_quiet (fail)
            go_wp2_with fail
            exact ⟨⟨k + 1, by omega, by go_num, HNE.out, HO.out, grown_drewN HG.out _⟩, by simp [intOf]; omega⟩
        · have he0 : ((y.g : Int) == (x.g : Int)) = false := beq_eq_false_iff_ne.2 (by omega)
          clear d0
          go_wp2_with fail
          go_quiet (fail)
          go_wp2_with fail
          exact ⟨⟨k + 1, by omega, by go_num, HNE.out, HO.out, grown_drewN HG.out _⟩, by simp [intOf]; omega⟩
    · have hge : ¬ ((k : Int) + 1 < (n : Int)) := by omega
      have HE : Hid (dd l = l) := by
        have h1 := HD.out
        rwa [List.take_of_length_le (by have := HN.out; omega)] at h1
      have HOL : Hid (OwnL wr base 59 3 Lg.cs (.slice (some ⟨g, 0, none⟩) n cap) l) := by
        show OwnL _ _ _ _ _ _ _
        unfold OwnL
        rw [← HN.out]
        exact HO.out
      go_wp2_with fail
      exact HALL.out _ HE.out HOL.out HG.out
end Go.Proofs.YtkcojblflebomaaGreat
set_option linter.unusedVariables false
set_option linter.unusedSimpArgs false
namespace Go.Proofs.YtkcojblflebomaaGreat
open Go.RowKit Go.MapKept Go.Shelf
open Go.Lib hiding intOf

def mRd (w : World) (b : Nat) : Nat := match w.heap[b]? with
  | some (.cells cs _ _) => match cs[1]? with
    | some (Value.string s) => s.size
    | _ => 0
  | _ => 0
theorem mRd_at {w : World} {b : Nat} {s : ByteArray} (h : RdAt w b s) : mRd w b = s.size := by
  unfold RdAt at h
  unfold mRd
  rw [h]
  rfl
theorem asN_fit (v : ByteArray) : ∀ k, ∀ n ∈ asN 4 k v, n < 4294967296
  | 0, n, h => by cases h
  | k + 1, n, h => by
    rw [asN_succ] at h
    rcases List.mem_append.1 h with h | h
    · exact asN_fit v k n h
    · rw [List.mem_singleton.1 h]
      exact hd_u32 _
def take10 (v : ByteArray) (c : AtC) : AtC × Bool := if v.size = 0 ∨ v.size % 4 ≠ 0 ∨ 128 < v.size then (c, false) else ({ c with clus := asN 4 (v.size / 4) v }, true)
set_option maxRecDepth 100000 in
set_option maxHeartbeats 8000000 in
theorem take10s : Takes0 85 (fun v _ c => take10 v c) := by
  intro b c v four w hcl h hm
  obtain ⟨a, hc, ho, hac⟩ := h.x
  have HH := Lib.hid h
  have HC := Lib.hid hc
  have HO := Lib.hid ho
  have HAC := Lib.hid hac
  have hlt := hc.lt
  have HLT := Lib.hid hlt
  have hac0 : a.clus = [] := by
    have h1 : a.c.clus = a.clus := rfl
    rw [← h1, hac.1]
    exact hcl
  obtain ⟨hka, hkc⟩ := hac.2 hac0
  have HKA : Hid (a.kA = none ∧ a.clus = [] ∧ a.kC = 0) := ⟨hka, hac0, hkc⟩
  have HNEW := Lib.hid new_any
  have HNU := Lib.hid number_nx
  have HLE := Lib.hid left_any
  obtain ⟨i0, hi, hz0, hz1, hz2⟩ := info_parts infoU32
  have HI := Lib.hid hi
  have HZ0 := Lib.hid hz0
  have HZ1 := Lib.hid hz1
  have HZ2 := Lib.hid hz2
  have z0 := bytes_none v
  obtain ⟨q0, hq0⟩ : ∃ q, q = (v.size == 0) := ⟨_, rfl⟩
  rw [← hq0] at z0
  clear h hc ho hac hlt hcl hka hkc hac0 hi hz0 hz1 hz2
  by_cases hb0 : v.size = 0
  · have HT : Hid (take10 v c = (c, false)) := if_pos (.inl hb0)
    obtain rfl : q0 = true := by rw [hq0, hb0]; rfl
    clear hq0 hb0
    go_enter Tryz.func85, Tryz.ntmps85
    go_wp2_with fail
    go_ret
    refine ⟨by rw [HT.out]; rfl, ?_, Tk.refl _ _⟩
    rw [HT.out]
    exact HH.out
  obtain rfl : q0 = false := by rw [hq0]; exact beq_eq_false_iff_ne.2 hb0
  clear hq0
  by_cases hb1 : v.size % 4 = 0
  case neg =>
    have HT : Hid (take10 v c = (c, false)) := if_pos (.inr (.inl hb1))
    have z1 : ((v.size : Int) % 4 != 0) = true := bne_iff_ne.2 (by omega)
    have z1' : ((v.size : Int) % 4 == 0) = false := beq_eq_false_iff_ne.2 (by omega)
    have z2 : ((v.size : Int).tmod 4 != 0) = true := by rw [Int.tmod_eq_emod_of_nonneg (by omega)]; exact z1
    have z2' : ((v.size : Int).tmod 4 == 0) = false := by rw [Int.tmod_eq_emod_of_nonneg (by omega)]; exact z1'
    clear hb1
    go_enter Tryz.func85, Tryz.ntmps85
    go_wp2_with fail
    go_ret
    refine ⟨by rw [HT.out]; rfl, ?_, Tk.refl _ _⟩
    rw [HT.out]
    exact HH.out
  have z1 : ((v.size : Int) % 4 != 0) = false := by
    have : (v.size : Int) % 4 = 0 := by omega
    rw [this]
    rfl
  have z1' : ((v.size : Int) % 4 == 0) = true := beq_iff_eq.2 (by omega)
  have z2 : ((v.size : Int).tmod 4 != 0) = false := by rw [Int.tmod_eq_emod_of_nonneg (by omega)]; exact z1
  have z2' : ((v.size : Int).tmod 4 == 0) = true := by rw [Int.tmod_eq_emod_of_nonneg (by omega)]; exact z1'
  have HB1 := Lib.hid hb1
  by_cases hb2 : 128 < v.size
  · have HT : Hid (take10 v c = (c, false)) := if_pos (.inr (.inr hb2))
    clear hb1
    go_enter Tryz.func85, Tryz.ntmps85
    go_wp2_with fail
    go_ret
    refine ⟨by rw [HT.out]; rfl, ?_, Tk.refl _ _⟩
    rw [HT.out]
    exact HH.out
  have HT : Hid (take10 v c = ({ c with clus := asN 4 (v.size / 4) v }, true)) := if_neg (by omega)
  clear hb1
  go_enter Tryz.func85, Tryz.ntmps85
  go_wp2_with fail
  refine (HNEW.out v w).mono ?_
  rintro e w1 ⟨rfl, hw1⟩
  have HR1 : Hid (RdAt w1 w.heap.size v) := by
    show RdAt _ _ _
    rw [hw1]
    exact heap_alloc_new w _
  have HBL1 : Hid (Below w.heap.size w w1) := by
    rw [hw1]
    exact (Below.refl _ _).alloc (Nat.le_refl _) _
  have HC1 : Hid (CellsAt w1 b (a.ar.setIfInBounds 15 (.slice none 0 0)) 40) := by
    have h := HC.out.below HBL1.out HLT.out
    have e : a.ar.setIfInBounds 15 (.slice none 0 0) = a.ar := by
      have h1 : a.ar = a.ar.setIfInBounds 15 (.slice a.kA a.clus.length a.kC) := rfl
      rw [h1, HKA.out.1, HKA.out.2.1, HKA.out.2.2]
      rfl
    show CellsAt _ _ _ _
    rw [e]
    exact h
  clear hw1
  go_wp2_with fail
  go_loopw [8] (fun _x wr => ∃ (k : Nat) (A : Option Addr) (cK : Nat), k * 4 ≤ v.size ∧ Hid (RdAt wr w.heap.size (nxN 4 k v)) ∧ Hid (CellsAt wr b (a.ar.setIfInBounds 15 (.slice A k cK)) 40) ∧ Hid (OwnL wr w.heap.size 35 1 u1 (.slice A k cK) (asN 4 k v)) ∧ Hid (∀ i, i < w.heap.size → i ≠ b → wr.heap[i]? = w.heap[i]?) ∧ Hid (Below b w wr)) (fun _x wr => mRd wr w.heap.size)
  case atStart => exact ⟨0, none, 0, by omega, HR1.out, HC1.out, OwnL.nil _ _ _ _ _, fun i h1 _ => HBL1.out.block i h1, HBL1.out.mono (Nat.le_of_lt HLT.out)⟩
  case round =>
    clear HR1 HBL1 HC1
    obtain ⟨k, A, cK, hk, HR, HC2, HOW, HKP, HBB⟩ := hrel
    have hrl := HR.out.lt
    have hts : (nxN 4 k v).size = v.size - k * 4 := nxN_size 4 k v
    have HNX := Lib.hid (nxN_succ 4 k v)
    have HAS := Lib.hid (asN_succ 4 k v)
    have HMR := Lib.hid (mRd_at HR.out)
    obtain ⟨t, ht⟩ : ∃ t, t = nxN 4 k v := ⟨_, rfl⟩
    rw [← ht] at HR hts HNX HAS HMR
    clear ht
    go_wp2_with fail
    refine (HLE.out w.heap.size t _ HR.out).mono ?_
    rintro e w2 ⟨rfl, rfl⟩
    by_cases hlt : k * 4 < v.size
    · have h4 : 4 ≤ t.size := by have := HB1.out; omega
      have h0 : 0 < t.size := by omega
      go_wp2_with fail
      refine (HNU.out w.heap.size t 4 _ HR.out (by decide) (by decide) h4 (by omega)).mono ?_
      rintro e w3 ⟨rfl, hr3, hg3⟩
      have HR3 : Hid (RdAt w3 w.heap.size (nx t 4)) := hr3
      have HC3 : Hid (CellsAt w3 b (a.ar.setIfInBounds 15 (.slice A k cK)) 40) := HC2.out.row hg3 (by have := HLT.out; omega)
      have HOW3 : Hid (OwnL w3 w.heap.size 35 1 u1 (.slice A k cK) (asN 4 k v)) := HOW.out.off hg3 (show CellsAt w2 w.heap.size #[.bool true, .string t] 110 from HR.out) (by decide)
      have HKP3 : Hid (∀ i, i < w.heap.size → i ≠ b → w3.heap[i]? = w.heap[i]?) := fun i h1 h2 => (hg3.block i (by omega) (fun e => by injection e with e; omega)).trans (HKP.out i h1 h2)
      have HBB3 : Hid (Below b w w3) := HBB.out.grown hg3 (by have := HLT.out; omega) (fun q hq => by cases hq; exact Nat.le_of_lt HLT.out)
      have hrl3 : w.heap.size < w3.heap.size := Nat.lt_of_lt_of_le hrl hg3.size
      have HTS : Hid ((nx t 4).size = t.size - 4) := nx_size t 4
      have HMEAS : Hid (mRd w2 w.heap.size = t.size) := HMR.out
      obtain ⟨n, hn⟩ : ∃ n, n = hd t 4 := ⟨_, rfl⟩
      have hn4 : n < 4294967296 := by rw [hn]; exact hd_u32 t
      rw [← hn] at HAS ⊢
      clear hr3 hg3 hn HR HC2 HOW HKP HBB HMR
      have zw : IntKind.u32.wrap ((n : Nat) : Int) = ((n : Nat) : Int) := by rw [IntKind.wrap_u32]; omega
      have c15 := (HC3.out.c 15).trans (show (a.ar.setIfInBounds 15 (Value.slice A k cK))[15]? = some (.slice A k cK) from rfl)
      have f15 := HC3.out.unfrozen 15
      have HCB : Hid (CellsAt (w3.alloc (.cells #[.int .u32 (n : Nat)] 35)) w3.heap.size #[.int .u32 (n : Nat)] 35) := CellsAt.new _ _ _
      have HS := Lib.hid (Src.block (P := Tryz.prog) (t2 := 36) (size := 1) (m := 1) (c := 1) Tryz.underlying36 HCB.out rfl (by simp [Value.oneCell']))
      have HOa := Lib.hid (HOW3.out.alloc (.cells #[.int .u32 (n : Nat)] 35))
      have HBS : Hid (w.heap.size ≤ (w3.alloc (.cells #[.int .u32 (n : Nat)] 35)).heap.size) := by show _ ≤ _; simp; omega
      have HM : Hid (k + 1 ≤ maxLen) := by show _ ≤ _; unfold maxLen; omega
      have HY : Hid ((k + 1) * 4 ≤ 140737488355328) := by show _ ≤ _; omega
      have HOB : Hid (OwnM (w3.alloc (.cells #[.int .u32 (n : Nat)] 35)) w.heap.size 35 1 (.slice A k cK) k ((asN 4 k v).flatMap u1)) := by
        have h := HOa.out
        unfold OwnL at h
        rwa [asN_len] at h
      have HCa : Hid (CellsAt (w3.alloc (.cells #[.int .u32 (n : Nat)] 35)) b (a.ar.setIfInBounds 15 (.slice A k cK)) 40) := HC3.out.alloc _
      have HRa : Hid (RdAt (w3.alloc (.cells #[.int .u32 (n : Nat)] 35)) w.heap.size (nx t 4)) := (Below.heap_alloc _ _ _ HR3.out.lt).trans HR3.out
      have HBa : Hid (Below b w (w3.alloc (.cells #[.int .u32 (n : Nat)] 35))) := HBB3.out.alloc (by have := HLT.out; omega) _
      go_wp2_with (at_builtin; refine wpList_append_m rfl (.tmp 37) (.tmp 40) 36 36 rfl w.heap.size 35 i0 _ 1 4 Tryz.underlying36 HI.out HZ0.out HZ1.out HZ2.out rfl (by decide) (.slice A k cK) k ((asN 4 k v).flatMap u1) rfl HOB.out _ 1 _ rfl HS.out HM.out HY.out HBS.out ?_)
      intro v' w5 hown hgr hat
      obtain ⟨A6, c6, rfl⟩ := hown.form
      have hob : ∀ q, (Value.slice A k cK).ownBlock = some q → w.heap.size ≤ q := fun q hq => (OwnM.lt HOB.out q hq).1
      have HN5 : Hid (OwnL w5 w.heap.size 35 1 u1 (.slice A6 (k + 1) c6) (asN 4 (k + 1) v)) := by
        show OwnL _ _ _ _ _ _ _
        rw [HAS.out]
        refine OwnL.snoc ?_
        rw [asN_len]
        exact hown
      have HC5 : Hid (CellsAt w5 b (a.ar.setIfInBounds 15 (.slice A k cK)) 40) := HCa.out.own hgr (fun e => by have h1 := hob _ e.symm; have h2 := HLT.out; omega)
      have HR5 : Hid (RdAt w5 w.heap.size (nx t 4)) := (hgr.block _ HRa.out.lt (fun e => by
        rcases HOB.out.2 with ⟨h1, _⟩ | ⟨g, cap, cur, fr, h1, _, hg, _⟩
        · rw [h1] at e
          simp [Value.ownBlock] at e
        · rw [h1] at e
          simp [Value.ownBlock] at e
          rw [← e] at hg
          have h2 : (w3.alloc (.cells #[.int .u32 (n : Nat)] 35)).heap[w.heap.size]? = some (.cells #[.bool true, .string (nx t 4)] 110 (0, 0)) := HRa.out
          rw [h2] at hg
          injection hg with hg
          injection hg with _ hg
          exact absurd hg (by decide))).trans HRa.out
      have hs5 : w3.heap.size ≤ w5.heap.size := by have := hgr.size; simp at this; omega
      have HKP5 : Hid (∀ i, i < w.heap.size → i ≠ b → w5.heap[i]? = w.heap[i]?) := fun i h1 h2 => (hgr.block i (by simp; omega) (fun e => by have := hob _ e.symm; omega)).trans ((Below.heap_alloc _ _ _ (by omega)).trans (HKP3.out i h1 h2))
      have HBB5 : Hid (Below b w w5) := HBa.out.grown hgr (by simp; have := HLT.out; omega) (fun q hq => by have := hob _ hq; have := HLT.out; omega)
      have d15 := (HC5.out.c 15).trans (show (a.ar.setIfInBounds 15 (Value.slice A k cK))[15]? = some (.slice A k cK) from rfl)
      have g15 := HC5.out.unfrozen 15
      clear hown hgr hat c15 f15 hob HOB HOa HCa HRa HBa
      go_wp2_with fail
      have HCF : Hid (CellsAt (w5.setCell ⟨b, 15, none⟩ (.slice A6 (k + 1) c6)) b (a.ar.setIfInBounds 15 (.slice A6 (k + 1) c6)) 40) := HC5.out.setAt 15 _
      have HRF : Hid (RdAt (w5.setCell ⟨b, 15, none⟩ (.slice A6 (k + 1) c6)) w.heap.size (nxN 4 (k + 1) v)) := by
        show RdAt _ _ _
        rw [HNX.out]
        exact HR5.out.setOther (by have := HLT.out; omega)
      refine ⟨⟨k + 1, A6, c6, by omega, HRF.out, HCF.out, OwnM.setCell HN5.out (p := ⟨b, 15, none⟩) (fun q hq => by have h1 := (OwnM.lt HN5.out q hq).1; have h2 := HLT.out; show q ≠ b; omega) _, fun i h1 h2 => (Below.heap_setCell w5 _ _ i (by show i ≠ b; exact h2)).trans (HKP5.out i h1 h2), HBB5.out.setCell (Nat.le_refl b) _⟩, ?_⟩
      show mRd _ _ < mRd _ _
      rw [mRd_at HRF.out, HMEAS.out, HNX.out, HTS.out]
      omega
    · have hke : v.size / 4 = k := by have := HB1.out; omega
      have ht0 : ¬ 0 < t.size := by omega
      have HKE := Lib.hid hke
      clear hke
      go_wp2_with fail
      go_ret
      refine ⟨by rw [HT.out]; rfl, ?_, HBB.out, fun i h1 h2 _ => HKP.out i h1 h2⟩
      rw [HT.out, HKE.out]
      have hcf : CellsAt w2 b ({ a with kA := A, clus := asN 4 k v, kC := cK } : Atr).ar 40 := by
        show CellsAt _ _ #[_, _, _, _, _, _, _, _, _, _, _, _, _, _, _, .slice A (asN 4 k v).length cK] _
        rw [asN_len]
        exact HC2.out
      have hkl : OwnL w2 (b + 1) 35 1 u1 (.slice A (asN 4 k v).length cK) (asN 4 k v) := by
        rw [asN_len]
        exact OwnM.lower HOW.out (by have := HLT.out; omega)
      exact ⟨⟨{ a with kA := A, clus := asN 4 k v, kC := cK }, hcf, { HO.out.keep (fun i h1 h2 => HKP.out i h2 (by omega)) with clus := hkl, kfit := asN_fit v k }, by rw [← HAC.out.1]; rfl, fun h => by
        have h1 := congrArg List.length h
        rw [asN_len] at h1
        have : k = 0 := h1
        omega⟩⟩
end Go.Proofs.YtkcojblflebomaaGreat
set_option linter.unusedVariables false
set_option linter.unusedSimpArgs false
namespace Go.Proofs.YtkcojblflebomaaGreat
open Go.RowKit Go.MapKept Go.Shelf
open Go.Lib hiding intOf

/-- what reads one thing of so many bytes -/
def OneRd {α : Type} (f : FuncId) (S : Nat) (E : α → Value) (one : ByteArray → α) : Prop :=
  ∀ (b : Nat) (s : ByteArray) (w : World), RdAt w b s → S ≤ s.size → (s.size : Int) ≤ 140737488351232 → Calls Tryz.prog f #[.pointer (some ⟨b, 0, none⟩)] w fun e w' => e = .returned (E (one s)) ∧ RdAt w' b (nx s S) ∧ w.grownBy w' (some b)
set_option maxHeartbeats 4000000 in
theorem one4 : OneRd 113 4 (fun n : Nat => Value.int .u32 (n : Nat)) (fun s => hd s 4) := by
  intro b s w h hs hm
  show Calls _ _ _ _ fun e w' => e = .returned (.int .u32 (hd s 4 : Nat)) ∧ RdAt w' b (nx s 4) ∧ w.grownBy w' (some b)
  have HNU := Lib.hid (number_nx b s 4 w h (by decide) (by decide) hs (by omega))
  have hlt := h.lt
  have hn4 : hd s 4 < 4294967296 := hd_u32 s
  generalize hd s 4 = n at HNU hn4 ⊢
  have zw : IntKind.u32.wrap ((n : Nat) : Int) = ((n : Nat) : Int) := by rw [IntKind.wrap_u32]; omega
  clear h
  go_enter Tryz.func113, Tryz.ntmps113
  go_wp2_with fail
  refine HNU.out.mono ?_
  rintro e w1 ⟨rfl, hr, hg⟩
  have HR := Lib.hid hr
  have HG := Lib.hid hg
  clear hr hg
  go_wp2_with fail
  go_ret
  exact ⟨rfl, HR.out, HG.out⟩
theorem or_join32 (v c : Int) (h0 : 0 ≤ v) (h1 : v < 4294967296) (c0 : 0 ≤ c) (c1 : c < 4294967296) : bits .or .u64 (v * 4294967296) c = v * 4294967296 + c := by
  rw [u64_or _ _ (by omega) (by omega) (by omega) (by omega), nat_join 32 _ _ (by omega) (by omega)]
  omega
theorem beVal_cat : ∀ (r l : List UInt8), beVal (l ++ r) = beVal l * 256 ^ r.length + beVal r := by
  intro r
  induction r with
  | nil => intro l; simp [beVal]
  | cons a r ih =>
    intro l
    have h1 := ih (l ++ [a])
    have h2 := ih [a]
    rw [List.append_assoc, beVal_snoc] at h1
    have e : beVal [a] = a.toNat := by simp [beVal]
    rw [e] at h2
    simp only [List.singleton_append] at h1 h2
    rw [h1, h2, List.length_cons, Nat.pow_succ, Nat.add_mul, Nat.mul_assoc, Nat.mul_comm 256]
    omega
theorem hd_eight (s : ByteArray) (h : 8 ≤ s.size) : hd s 8 = hd s 4 * 4294967296 + hd (nx s 4) 4 := by
  unfold hd
  rw [nx_list]
  have e : s.data.toList.take 8 = s.data.toList.take 4 ++ (s.data.toList.drop 4).take 4 := by rw [← List.take_add]
  have hl : ((s.data.toList.drop 4).take 4).length = 4 := by
    have : s.data.toList.length = s.size := Array.length_toList
    rw [List.length_take, List.length_drop]
    omega
  rw [e, beVal_cat, hl]
theorem rd4 (b : Nat) (s : ByteArray) (w : World) (h : RdAt w b s) (hs : 4 ≤ s.size) (hm : (s.size : Int) ≤ 140737488351232) : Calls Tryz.prog 113 #[.pointer (some ⟨b, 0, none⟩)] w fun e w' => e = .returned (.int .u32 (hd s 4 : Nat)) ∧ RdAt w' b (nx s 4) ∧ w.grownBy w' (some b) := one4 b s w h hs hm
set_option maxHeartbeats 4000000 in
theorem one8 : OneRd 115 8 (fun n : Nat => Value.int .u64 (n : Nat)) (fun s => hd s 8) := by
  intro b s w h hs hm
  show Calls _ _ _ _ fun e w' => e = .returned (.int .u64 (hd s 8 : Nat)) ∧ RdAt w' b (nx s 8) ∧ w.grownBy w' (some b)
  have HON := Lib.hid rd4
  have HR := Lib.hid h
  have HV := Lib.hid (hd_eight s hs)
  have HT : Hid (nx (nx s 4) 4 = nx s 8) := nx_nx s 4 4
  have HTS : Hid ((nx s 4).size = s.size - 4) := nx_size s 4
  have h1 : hd s 4 < 4294967296 := hd_u32 s
  have h2 : hd (nx s 4) 4 < 4294967296 := hd_u32 _
  clear h
  go_enter Tryz.func115, Tryz.ntmps115
  go_wp2_with fail
  refine (HON.out b s w HR.out (by omega) hm).mono ?_
  rintro e w1 ⟨rfl, hr1, hg1⟩
  have HR1 := Lib.hid hr1
  have HG1 := Lib.hid hg1
  clear hr1 hg1
  go_wp2_with fail
  refine (HON.out b _ w1 HR1.out (by rw [HTS.out]; omega) (by rw [HTS.out]; omega)).mono ?_
  rintro e w2 ⟨rfl, hr2, hg2⟩
  have HR2 := Lib.hid hr2
  have HG2 := Lib.hid hg2
  clear hr2 hg2
  go_wp2_with fail
  go_ret
  refine ⟨?_, by rw [← HT.out]; exact HR2.out, grown_trans HG1.out HG2.out⟩
  rw [HV.out, Int.natCast_add, Int.natCast_mul]
  show Ending.returned (Value.int .u64 (bits .or .u64 _ _)) = _
  rw [or_join32 _ _ (by omega) (by omega) (by omega) (by omega)]
  rfl
theorem lg_size : (Tryz.prog.info? 59).map (·.size) = some 3 := by kernel_rfl
set_option maxHeartbeats 4000000 in
theorem one12 : OneRd 117 12 (fun x : Lg => Value.agg x.cs.toArray) (fun s => ⟨hd s 4, hd (nx s 4) 4, hd (nx s 8) 4⟩) := by
  intro b s w h hs hm
  show Calls _ _ _ _ fun e w' => e = .returned (.agg #[.int .u32 (hd s 4 : Nat), .int .u32 (hd (nx s 4) 4 : Nat), .int .u32 (hd (nx s 8) 4 : Nat)]) ∧ RdAt w' b (nx s 12) ∧ w.grownBy w' (some b)
  have HON := Lib.hid rd4
  have HTS : Hid ((nx s 4).size = s.size - 4) := nx_size s 4
  have HTS2 : Hid ((nx s 8).size = s.size - 8) := nx_size s 8
  have hlt := h.lt
  obtain ⟨V, hV⟩ : ∃ V, V = w.alloc (.cells #[.int .u32 0, .int .u32 0, .int .u32 0] 59) := ⟨_, rfl⟩
  have HC0 : Hid (CellsAt V w.heap.size #[.int .u32 0, .int .u32 0, .int .u32 0] 59) := by rw [hV]; exact CellsAt.new _ _ _
  have HR0 : Hid (RdAt V b s) := by rw [hV]; exact (Below.heap_alloc _ _ _ h.lt).trans h
  have HG0 : Hid (w.grownBy V (some b)) := by rw [hV]; exact grown_of_below ((Below.refl _ _).alloc (Nat.le_refl _) _) _
  have HT : Hid (nx (nx s 4) 4 = nx s 8) := nx_nx s 4 4
  have HT2 : Hid (nx (nx s 8) 4 = nx s 12) := nx_nx s 8 4
  clear h
  go_enter Tryz.func117, Tryz.ntmps117
  go_wp2_with fail
  rw [← hV]
  clear hV
  refine (HON.out b s V HR0.out (by omega) hm).mono ?_
  rintro e w1 ⟨rfl, hr1, hg1⟩
  have HR1 := Lib.hid hr1
  have HC1 : Hid (CellsAt w1 w.heap.size #[.int .u32 0, .int .u32 0, .int .u32 0] 59) := HC0.out.row hg1 (by omega)
  have HG1 : Hid (w.grownBy w1 (some b)) := grown_trans HG0.out hg1
  obtain ⟨n1, hn1⟩ : ∃ n, n = hd s 4 := ⟨_, rfl⟩
  rw [← hn1]
  have HN1 := Lib.hid hn1
  clear hn1
  clear hr1 hg1 HC0 HR0 HG0
  have HD1 : Hid (CellsAt (w1.alloc (.cells #[.int .u32 0, .int .u32 0, .int .u32 0] 59)) w1.heap.size #[.int .u32 0, .int .u32 0, .int .u32 0] 59) := CellsAt.new _ _ _
  go_wp2_with (with_reducible show wpList _ _ _ (_ :: _) _ _; refine wpList_store_row rfl 59 (.tmp 3) (.tmp 6) rfl w1.heap.size #[.int .u32 (n1 : Nat), .int .u32 0, .int .u32 0] rfl rfl 59 #[.int .u32 0, .int .u32 0, .int .u32 0] HD1.out lg_size rfl rfl ?_)
  obtain ⟨V1, hV1⟩ : ∃ V1, V1 = w1.alloc (.cells #[.int .u32 (n1 : Nat), .int .u32 0, .int .u32 0] 59) := ⟨_, rfl⟩
  rw [← hV1]
  have hl1 : b < w1.heap.size := HR1.out.lt
  have hl0 : w.heap.size < w1.heap.size := HC1.out.lt
  have hs1 : V1.heap.size = w1.heap.size + 1 := by rw [hV1]; simp
  have HE1 : Hid (CellsAt V1 w1.heap.size #[.int .u32 (n1 : Nat), .int .u32 0, .int .u32 0] 59) := by rw [hV1]; exact CellsAt.new _ _ _
  have HRV : Hid (RdAt V1 b (nx s 4)) := by rw [hV1]; exact (Below.heap_alloc _ _ _ hl1).trans HR1.out
  have HCV : Hid (CellsAt V1 w.heap.size #[.int .u32 0, .int .u32 0, .int .u32 0] 59) := by rw [hV1]; exact HC1.out.alloc _
  have HGV : Hid (w.grownBy V1 (some b)) := by rw [hV1]; exact grown_trans HG1.out (grown_of_below ((Below.refl _ _).alloc (Nat.le_refl _) _) _)
  obtain ⟨g, hg⟩ : ∃ g, g = w1.heap.size := ⟨_, rfl⟩
  rw [← hg] at HE1 hl1 hl0 ⊢
  clear hV1 HR1 HC1 HG1 HD1 hs1 hg
  refine (HON.out b _ V1 HRV.out (by rw [HTS.out]; omega) (by rw [HTS.out]; omega)).mono ?_
  rintro e w2 ⟨rfl, hr2, hg2⟩
  have HR2 : Hid (RdAt w2 b (nx s 8)) := by rw [← HT.out]; exact hr2
  have HC2 : Hid (CellsAt w2 w.heap.size #[.int .u32 0, .int .u32 0, .int .u32 0] 59) := HCV.out.row hg2 (by omega)
  have HE2 : Hid (CellsAt w2 g #[.int .u32 (n1 : Nat), .int .u32 0, .int .u32 0] 59) := HE1.out.row hg2 (by omega)
  have HG2 : Hid (w.grownBy w2 (some b)) := grown_trans HGV.out hg2
  obtain ⟨n2, hn2⟩ : ∃ n, n = hd (nx s 4) 4 := ⟨_, rfl⟩
  rw [← hn2]
  have HN2 := Lib.hid hn2
  clear hn2
  clear hr2 hg2 HRV HCV HGV HE1
  have e0 := (HE2.out.c 1).trans (show (#[Value.int .u32 (n1 : Nat), .int .u32 0, .int .u32 0] : Array Value)[1]? = some (.int .u32 0) from rfl)
  have e1 := HE2.out.unfrozen 1
  go_wp2_with fail
  obtain ⟨V2, hV2⟩ : ∃ V2, V2 = w2.setCell ⟨g, 1, none⟩ (.int .u32 (n2 : Nat)) := ⟨_, rfl⟩
  rw [← hV2]
  have HE3 : Hid (CellsAt V2 g #[.int .u32 (n1 : Nat), .int .u32 (n2 : Nat), .int .u32 0] 59) := by rw [hV2]; exact HE2.out.setAt 1 _
  have HR3 : Hid (RdAt V2 b (nx s 8)) := by rw [hV2]; exact (Below.heap_setCell w2 _ _ b (show b ≠ g by omega)).trans HR2.out
  have HC3 : Hid (CellsAt V2 w.heap.size #[.int .u32 0, .int .u32 0, .int .u32 0] 59) := by rw [hV2]; exact (Below.heap_setCell w2 _ _ w.heap.size (show w.heap.size ≠ g by omega)).trans HC2.out
  have HG3 : Hid (w.grownBy V2 (some b)) := by
    rw [hV2]
    have h := grown_setCell w2 ⟨g, 1, none⟩ (.int .u32 (n2 : Nat))
    have h1 := HG2.out
    exact ⟨h.os.trans h1.os, h.tape.trans h1.tape, h.output.trans h1.output, Nat.le_trans h1.size h.size, fun i hi hx => (Below.heap_setCell w2 _ _ i (show i ≠ g by omega)).trans (h1.block i hi hx)⟩
  clear hV2 e0 e1 HE2 HR2 HC2 HG2
  refine (HON.out b _ V2 HR3.out (by rw [HTS2.out]; omega) (by rw [HTS2.out]; omega)).mono ?_
  rintro e w3 ⟨rfl, hr3, hg3⟩
  have HR4 : Hid (RdAt w3 b (nx s 12)) := by rw [← HT2.out]; exact hr3
  have HC4 : Hid (CellsAt w3 w.heap.size #[.int .u32 0, .int .u32 0, .int .u32 0] 59) := HC3.out.row hg3 (by omega)
  have HE4 : Hid (CellsAt w3 g #[.int .u32 (n1 : Nat), .int .u32 (n2 : Nat), .int .u32 0] 59) := HE3.out.row hg3 (by omega)
  have HG4 : Hid (w.grownBy w3 (some b)) := grown_trans HG3.out hg3
  obtain ⟨n3, hn3⟩ : ∃ n, n = hd (nx s 8) 4 := ⟨_, rfl⟩
  rw [← hn3]
  have HN3 := Lib.hid hn3
  clear hn3
  clear hr3 hg3 HR3 HC3 HG3 HE3
  have e0 := (HE4.out.c 2).trans (show (#[Value.int .u32 (n1 : Nat), .int .u32 (n2 : Nat), .int .u32 0] : Array Value)[2]? = some (.int .u32 0) from rfl)
  have e1 := HE4.out.unfrozen 2
  go_upto_region 4 with fail
  obtain ⟨V3, hV3⟩ : ∃ V3, V3 = w3.setCell ⟨g, 2, none⟩ (.int .u32 (n3 : Nat)) := ⟨_, rfl⟩
  rw [← hV3]
  have HE5 : Hid (CellsAt V3 g #[.int .u32 (n1 : Nat), .int .u32 (n2 : Nat), .int .u32 (n3 : Nat)] 59) := by rw [hV3]; exact HE4.out.setAt 2 _
  have HR5 : Hid (RdAt V3 b (nx s 12)) := by rw [hV3]; exact (Below.heap_setCell w3 _ _ b (show b ≠ g by omega)).trans HR4.out
  have HC5 : Hid (CellsAt V3 w.heap.size #[.int .u32 0, .int .u32 0, .int .u32 0] 59) := by rw [hV3]; exact (Below.heap_setCell w3 _ _ w.heap.size (show w.heap.size ≠ g by omega)).trans HC4.out
  have HG5 : Hid (w.grownBy V3 (some b)) := by
    rw [hV3]
    have h := grown_setCell w3 ⟨g, 2, none⟩ (.int .u32 (n3 : Nat))
    have h1 := HG4.out
    exact ⟨h.os.trans h1.os, h.tape.trans h1.tape, h.output.trans h1.output, Nat.le_trans h1.size h.size, fun i hi hx => (Below.heap_setCell w3 _ _ i (show i ≠ g by omega)).trans (h1.block i hi hx)⟩
  clear hV3 e0 e1 HE4 HR4 HC4 HG4
  obtain ⟨c0, c1, c2⟩ := HE5.out.c3
  go_wp2_with (with_reducible show wpList _ _ _ (⟨none, _, _, _, _, _⟩ :: _) _ _; have hstop : True := trivial; revert hstop)
  intro _
  refine wpList_store_row rfl 59 (.tmp 2) (.tmp 13) rfl w.heap.size #[.int .u32 (n1 : Nat), .int .u32 (n2 : Nat), .int .u32 (n3 : Nat)] rfl rfl 59 #[.int .u32 0, .int .u32 0, .int .u32 0] HC5.out (by kernel_rfl) (by kernel_rfl) (by kernel_rfl) ?_
  have HRF : Hid (RdAt (V3.setRow w.heap.size #[.int .u32 (n1 : Nat), .int .u32 (n2 : Nat), .int .u32 (n3 : Nat)]) b (nx s 12)) := (setRow_other V3 w.heap.size b _ (by omega)).trans HR5.out
  have HGF : Hid (w.grownBy (V3.setRow w.heap.size #[.int .u32 (n1 : Nat), .int .u32 (n2 : Nat), .int .u32 (n3 : Nat)]) (some b)) := by
    have h1 := HG5.out
    exact ⟨h1.os, h1.tape, h1.output, by rw [setRow_size]; exact h1.size, fun i hi hx => (setRow_other V3 w.heap.size i _ (by omega)).trans (h1.block i hi hx)⟩
  have HCG : Hid (CellsAt (V3.setRow w.heap.size #[.int .u32 (n1 : Nat), .int .u32 (n2 : Nat), .int .u32 (n3 : Nat)]) w.heap.size #[.int .u32 (n1 : Nat), .int .u32 (n2 : Nat), .int .u32 (n3 : Nat)] 59) := setRow_heap V3 w.heap.size _ _ _ _ HC5.out
  clear c0 c1 c2
  go_wp2_with fail
  exact bodyPost_ret (results_cell_row rfl _ _ w.heap.size 59 #[.int .u32 (n1 : Nat), .int .u32 (n2 : Nat), .int .u32 (n3 : Nat)] (0, 0) _ rfl HCG.out Tryz.underlying59 rfl lg_size) rfl ⟨by rw [HN1.out, HN2.out, HN3.out], HRF.out, HGF.out⟩
end Go.Proofs.YtkcojblflebomaaGreat
set_option linter.unusedVariables false
set_option linter.unusedSimpArgs false
namespace Go.Proofs.YtkcojblflebomaaGreat
open Go.RowKit Go.MapKept Go.Shelf
open Go.Lib hiding intOf
open Go.Sort hiding Below

/-- things of so many bytes each, one behind the other -/
def oneN {α : Type} (S : Nat) (one : ByteArray → α) : Nat → ByteArray → List α
  | 0, _ => []
  | k + 1, s => one s :: oneN S one k (nx s S)
theorem oneN_succ {α : Type} (S : Nat) (one : ByteArray → α) : ∀ (k : Nat) (s : ByteArray), oneN S one (k + 1) s = oneN S one k s ++ [one (nxN S k s)]
  | 0, s => rfl
  | k + 1, s => by
    show one s :: oneN S one (k + 1) (nx s S) = _
    rw [oneN_succ S one k]
    rfl
theorem oneN_len {α : Type} (S : Nat) (one : ByteArray → α) : ∀ (k : Nat) (s : ByteArray), (oneN S one k s).length = k
  | 0, s => rfl
  | k + 1, s => by
    show (oneN S one k (nx s S)).length + 1 = _
    rw [oneN_len S one k]
theorem oneN_all {α : Type} {S : Nat} {one : ByteArray → α} {p : α → Prop} (h : ∀ s, p (one s)) : ∀ (k : Nat) (s : ByteArray), ∀ x ∈ oneN S one k s, p x
  | 0, s, x, hx => by cases hx
  | k + 1, s, x, hx => by
    rcases List.mem_cons.1 hx with rfl | hx
    · exact h s
    · exact oneN_all h k _ x hx
/-- what is read of bytes: none where they are wrong -/
def readC {α : Type} [DecidableEq α] (S : Nat) (one : ByteArray → α) (lt : α → α → Bool) (v : ByteArray) : Option (List α) :=
  if v.size = 0 ∨ v.size % S ≠ 0 then none
  else if 64 < (dd (srt lt (oneN S one (v.size / S) v))).length then none
  else some (dd (srt lt (oneN S one (v.size / S) v)))
theorem srt_rise {α : Type} {lt : α → α → Bool} (hS : SWO lt) (l : List α) : ∀ i a b, (srt lt l)[i]? = some a → (srt lt l)[i + 1]? = some b → lt b a = false := by
  have h := List.pairwise_mergeSort (le := fun x y => !lt y x) (by
    intro a b c h1 h2
    simp only [Bool.not_eq_true'] at h1 h2 ⊢
    exact hS.ntrans c b a h2 h1) (by
    intro a b
    cases h : lt b a with
    | false => simp
    | true => simp [hS.asymmA h]) l
  intro i a b ha hb
  rw [List.pairwise_iff_getElem] at h
  obtain ⟨h1, e1⟩ := List.getElem?_eq_some_iff.1 ha
  obtain ⟨h2, e2⟩ := List.getElem?_eq_some_iff.1 hb
  have h3 := h i (i + 1) h1 h2 (Nat.lt_succ_self i)
  subst e1
  subst e2
  simp only [Bool.not_eq_true'] at h3
  exact h3
theorem readC_ok {α : Type} [DecidableEq α] {S : Nat} {one : ByteArray → α} {lt : α → α → Bool} {v : ByteArray} {l : List α} (hS : SWO lt) (ht : ∀ a b, lt b a = false → a = b ∨ lt a b = true) (h : readC S one lt v = some l) : riseB lt l = true ∧ l.length ≤ 64 := by
  unfold readC at h
  split at h
  · cases h
  · split at h
    · cases h
    · injection h with h
      subst h
      exact ⟨dd_rise lt ht _ (srt_rise hS _), by omega⟩
theorem srt_mem {α : Type} {lt : α → α → Bool} {l : List α} {x : α} : x ∈ srt lt l ↔ x ∈ l := List.mem_mergeSort
theorem readC_all {α : Type} [DecidableEq α] {S : Nat} {one : ByteArray → α} {lt : α → α → Bool} {v : ByteArray} {l : List α} {p : α → Prop} (hp : ∀ s, p (one s)) (h : readC S one lt v = some l) : ∀ x ∈ l, p x := by
  unfold readC at h
  split at h
  · cases h
  · split at h
    · cases h
    · injection h with h
      subst h
      exact fun x hx => oneN_all hp _ _ x (srt_mem.1 ((dd_mem _).1 hx))
def lg12 (s : ByteArray) : Lg := ⟨hd s 4, hd (nx s 4) 4, hd (nx s 8) 4⟩
def take8 (v : ByteArray) (c : AtC) : AtC × Bool := match readC 4 (fun s => hd s 4) ltN v with
  | none => ({ c with comms := [] }, false)
  | some l => ({ c with comms := l }, true)
def take16 (v : ByteArray) (c : AtC) : AtC × Bool := match readC 8 (fun s => hd s 8) ltN v with
  | none => ({ c with exts := [] }, false)
  | some l => ({ c with exts := l }, true)
def take32 (v : ByteArray) (c : AtC) : AtC × Bool := match readC 12 lg12 ltL v with
  | none => ({ c with larges := [] }, false)
  | some l => ({ c with larges := l }, true)
/-- what takes each type -/
def tab (n : Nat) (v : ByteArray) (four : Bool) (c : AtC) : AtC × Bool :=
  if n = 1 then take1 v c else
  if n = 2 then take2 v four c else
  if n = 3 then take3 v c else
  if n = 4 then take4 v c else
  if n = 5 then take5 v c else
  if n = 6 then take6 v c else
  if n = 7 then take7 v four c else
  if n = 8 then take8 v c else
  if n = 9 then take9 v c else
  if n = 10 then take10 v c else
  if n = 16 then take16 v c else take32 v c
/-- the types that are known -/
theorem row_known {t : Nat} {b wr : Int} {i : Bool} {f : FuncId} (h : rowF t = some (b, wr, i, f)) : t = 1 ∨ t = 2 ∨ t = 3 ∨ t = 4 ∨ t = 5 ∨ t = 6 ∨ t = 7 ∨ t = 8 ∨ t = 9 ∨ t = 10 ∨ t = 16 ∨ t = 32 := by
  unfold rowF at h
  by_cases h1 : t = 1
  · omega
  by_cases h2 : t = 2
  · omega
  by_cases h3 : t = 3
  · omega
  by_cases h4 : t = 4
  · omega
  by_cases h5 : t = 5
  · omega
  by_cases h6 : t = 6
  · omega
  by_cases h7 : t = 7
  · omega
  by_cases h8 : t = 8
  · omega
  by_cases h9 : t = 9
  · omega
  by_cases h10 : t = 10
  · omega
  by_cases h16 : t = 16
  · omega
  by_cases h32 : t = 32
  · omega
  rw [if_neg h1, if_neg h2, if_neg h3, if_neg h4, if_neg h5, if_neg h6, if_neg h7, if_neg h8, if_neg h9, if_neg h10, if_neg h16, if_neg h32] at h
  cases h
end Go.Proofs.YtkcojblflebomaaGreat
set_option linter.unusedVariables false
set_option linter.unusedSimpArgs false
namespace Go.Proofs.YtkcojblflebomaaGreat
open Go.RowKit Go.MapKept Go.Shelf
open Go.Lib hiding intOf
open Go.Sort hiding Below

/-- what a list read of bytes is answered as -/
def RcPost {α : Type} (base : Nat) (T : TypeId) (C : Nat) (F : α → List Value) : Option (List α) → World → Ending → Prop
  | none, w', e => ∃ n : Int, e = .returned (.tuple #[.slice none 0 0, .int .i64 n]) ∧ (n = 3 ∨ n = 4)
  | some l, w', e => ∃ v, e = .returned (.tuple #[v, .int .i64 0]) ∧ OwnL w' base T C F v l
theorem readC_none {α : Type} [DecidableEq α] {S : Nat} {one : ByteArray → α} {lt : α → α → Bool} {v : ByteArray} (h : v.size = 0 ∨ v.size % S ≠ 0) : readC S one lt v = none := if_pos h
theorem readC_long {α : Type} [DecidableEq α] {S : Nat} {one : ByteArray → α} {lt : α → α → Bool} {v : ByteArray} (h0 : v.size ≠ 0) (h1 : v.size % S = 0) (h : 64 < (dd (srt lt (oneN S one (v.size / S) v))).length) : readC S one lt v = none := by
  unfold readC
  rw [if_neg (by omega), if_pos h]
theorem readC_some {α : Type} [DecidableEq α] {S : Nat} {one : ByteArray → α} {lt : α → α → Bool} {v : ByteArray} (h0 : v.size ≠ 0) (h1 : v.size % S = 0) (h : ¬ 64 < (dd (srt lt (oneN S one (v.size / S) v))).length) : readC S one lt v = some (dd (srt lt (oneN S one (v.size / S) v))) := by
  unfold readC
  rw [if_neg (by omega), if_neg h]
set_option maxRecDepth 100000 in
set_option maxHeartbeats 16000000 in
theorem cread_u32 (s : ByteArray) (w : World) (hm : (s.size : Int) ≤ 140737488351232) :
    Calls Tryz.prog 112 #[.string s, .int .i64 4, .func (.func 57) #[] #[], .func (.func 113) #[] #[]] w fun e w' => RcPost (w.heap.size + 1) 35 1 u1 (readC 4 (fun s => hd s 4) ltN s) w' e ∧ Below w.heap.size w w' := by
  have HNEW := Lib.hid new_any
  have HLE := Lib.hid left_any
  have HON : Hid (∀ (b : Nat) (t : ByteArray) (W : World), RdAt W b t → 4 ≤ t.size → (t.size : Int) ≤ 140737488351232 → Calls Tryz.prog 113 #[.pointer (some ⟨b, 0, none⟩)] W fun e w' => e = .returned (.int .u32 (hd t 4 : Nat)) ∧ RdAt w' b (nx t 4) ∧ W.grownBy w' (some b)) := fun b t W h1 h2 h3 => one4 b t W h1 h2 h3
  have HSO := Lib.hid sort_u32
  have HCU := Lib.hid cut_u32
  obtain ⟨i0, hi, hz0, hz1, hz2⟩ := info_parts infoU32
  have HI := Lib.hid hi
  have HZ0 := Lib.hid hz0
  have HZ1 := Lib.hid hz1
  have HZ2 := Lib.hid hz2
  have z0 := bytes_none s
  obtain ⟨q0, hq0⟩ : ∃ q, q = (s.size == 0) := ⟨_, rfl⟩
  rw [← hq0] at z0
  clear hi hz0 hz1 hz2
  by_cases hb0 : s.size = 0
  · have HT : Hid (readC 4 (fun s => hd s 4) ltN s = none) := readC_none (.inl hb0)
    obtain rfl : q0 = true := by rw [hq0, hb0]; rfl
    clear hq0 hb0
    go_enter Tryz.func112, Tryz.ntmps112
    go_wp2_with fail
    go_ret2
    refine ⟨?_, Below.refl _ _⟩
    rw [HT.out]
    exact ⟨4, rfl, .inr rfl⟩
  obtain rfl : q0 = false := by rw [hq0]; exact beq_eq_false_iff_ne.2 hb0
  clear hq0
  by_cases hb1 : s.size % 4 = 0
  case neg =>
    have HT : Hid (readC 4 (fun s => hd s 4) ltN s = none) := readC_none (.inr hb1)
    have z1 : ((s.size : Int) % 4 != 0) = true := bne_iff_ne.2 (by omega)
    have z1' : ((s.size : Int) % 4 == 0) = false := beq_eq_false_iff_ne.2 (by omega)
    have z2 : ((s.size : Int).tmod 4 != 0) = true := by rw [Int.tmod_eq_emod_of_nonneg (by omega)]; exact z1
    have z2' : ((s.size : Int).tmod 4 == 0) = false := by rw [Int.tmod_eq_emod_of_nonneg (by omega)]; exact z1'
    clear hb1
    go_enter Tryz.func112, Tryz.ntmps112
    go_wp2_with fail
    go_ret2
    refine ⟨?_, Below.refl _ _⟩
    rw [HT.out]
    exact ⟨4, rfl, .inr rfl⟩
  have z1 : ((s.size : Int) % 4 != 0) = false := by
    have : (s.size : Int) % 4 = 0 := by omega
    rw [this]
    rfl
  have z1' : ((s.size : Int) % 4 == 0) = true := beq_iff_eq.2 (by omega)
  have z2 : ((s.size : Int).tmod 4 != 0) = false := by rw [Int.tmod_eq_emod_of_nonneg (by omega)]; exact z1
  have z2' : ((s.size : Int).tmod 4 == 0) = true := by rw [Int.tmod_eq_emod_of_nonneg (by omega)]; exact z1'
  have HB0 := Lib.hid hb0
  have HB1 := Lib.hid hb1
  have HTL : Hid (64 < (dd (srt ltN (oneN 4 (fun s => hd s 4) (s.size / 4) s))).length → readC 4 (fun s => hd s 4) ltN s = none) := fun h => readC_long hb0 hb1 h
  have HTS : Hid (¬ 64 < (dd (srt ltN (oneN 4 (fun s => hd s 4) (s.size / 4) s))).length → readC 4 (fun s => hd s 4) ltN s = some (dd (srt ltN (oneN 4 (fun s => hd s 4) (s.size / 4) s)))) := fun h => readC_some hb0 hb1 h
  generalize readC 4 (fun s => hd s 4) ltN s = RES at HTL HTS ⊢
  clear hb1 hb0
  go_enter Tryz.func112, Tryz.ntmps112
  go_wp2_with fail
  refine (HNEW.out s w).mono ?_
  rintro e w1 ⟨rfl, hw1⟩
  have HR1 : Hid (RdAt w1 w.heap.size s) := by
    show RdAt _ _ _
    rw [hw1]
    exact heap_alloc_new w _
  have HBL1 : Hid (Below w.heap.size w w1) := by
    rw [hw1]
    exact (Below.refl _ _).alloc (Nat.le_refl _) _
  clear hw1
  go_wp2_with fail
  go_loopw [11] (fun ov wr => ∃ (k : Nat) (A : Option Addr) (cK : Nat), ov = .slice A k cK ∧ k * 4 ≤ s.size ∧ Hid (RdAt wr w.heap.size (nxN 4 k s)) ∧ Hid (OwnL wr (w.heap.size + 1) 35 1 u1 (.slice A k cK) (oneN 4 (fun s => hd s 4) k s)) ∧ Hid (Below w.heap.size w wr)) (fun _x wr => mRd wr w.heap.size)
  case atStart => exact ⟨0, none, 0, rfl, by omega, HR1.out, OwnL.nil _ _ _ _ _, HBL1.out⟩
  case round =>
    clear HR1 HBL1
    obtain ⟨k, A, cK, rfl, hk, HR, HOW, HBB⟩ := hrel
    have hrl := HR.out.lt
    have hts : (nxN 4 k s).size = s.size - k * 4 := nxN_size 4 k s
    have HNX := Lib.hid (nxN_succ 4 k s)
    have HAS := Lib.hid (oneN_succ 4 (fun s => hd s 4) k s)
    have HMR := Lib.hid (mRd_at HR.out)
    obtain ⟨t, ht⟩ : ∃ t, t = nxN 4 k s := ⟨_, rfl⟩
    rw [← ht] at HR hts HNX HAS HMR
    clear ht
    go_wp2_with fail
    refine (HLE.out w.heap.size t _ HR.out).mono ?_
    rintro e w2 ⟨rfl, rfl⟩
    by_cases hlt : k * 4 < s.size
    · have h4 : 4 ≤ t.size := by have := HB1.out; omega
      have h0 : (4 : Int) ≤ (t.size : Int) := by omega
      go_wp2_with fail
      refine (HON.out w.heap.size t _ HR.out h4 (by omega)).mono ?_
      rintro e w3 ⟨rfl, hr3, hg3⟩
      have HR3 : Hid (RdAt w3 w.heap.size (nx t 4)) := hr3
      have HOW3 : Hid (OwnL w3 (w.heap.size + 1) 35 1 u1 (.slice A k cK) (oneN 4 (fun s => hd s 4) k s)) := HOW.out.off hg3 (show CellsAt w2 w.heap.size #[.bool true, .string t] 110 from HR.out) (by decide)
      have HBB3 : Hid (Below w.heap.size w w3) := HBB.out.grown hg3 (by have := HBB.out.size; omega) (fun q hq => by cases hq; exact Nat.le_refl _)
      have hrl3 : w.heap.size < w3.heap.size := Nat.lt_of_lt_of_le hrl hg3.size
      have HSZ : Hid ((nx t 4).size = t.size - 4) := nx_size t 4
      have HMEAS : Hid (mRd w2 w.heap.size = t.size) := HMR.out
      obtain ⟨x, hx⟩ : ∃ x, x = hd t 4 := ⟨_, rfl⟩
      rw [← hx] at HAS ⊢
      clear hr3 hg3 hx HR HOW HBB HMR
      have HCB : Hid (CellsAt (w3.alloc (.cells #[.int .u32 (x : Nat)] 35)) w3.heap.size #[.int .u32 (x : Nat)] 35) := CellsAt.new _ _ _
      have HS := Lib.hid (Src.block (P := Tryz.prog) (t2 := 36) (size := 1) (m := 1) (c := 1) Tryz.underlying36 HCB.out rfl (by simp [Value.oneCell']))
      have HOa := Lib.hid (HOW3.out.alloc (.cells #[.int .u32 (x : Nat)] 35))
      have HBS : Hid (w.heap.size + 1 ≤ (w3.alloc (.cells #[.int .u32 (x : Nat)] 35)).heap.size) := by show _ ≤ _; simp; omega
      have HM : Hid (k + 1 ≤ maxLen) := by show _ ≤ _; unfold maxLen; omega
      have HY : Hid ((k + 1) * 4 ≤ 140737488355328) := by show _ ≤ _; omega
      have HOB : Hid (OwnM (w3.alloc (.cells #[.int .u32 (x : Nat)] 35)) (w.heap.size + 1) 35 1 (.slice A k cK) k ((oneN 4 (fun s => hd s 4) k s).flatMap u1)) := by
        have h := HOa.out
        unfold OwnL at h
        rwa [oneN_len] at h
      have HRa : Hid (RdAt (w3.alloc (.cells #[.int .u32 (x : Nat)] 35)) w.heap.size (nx t 4)) := (Below.heap_alloc _ _ _ HR3.out.lt).trans HR3.out
      have HBa : Hid (Below w.heap.size w (w3.alloc (.cells #[.int .u32 (x : Nat)] 35))) := HBB3.out.alloc (by omega) _
      go_wp2_with (at_builtin; refine wpList_append_m rfl (.tmp 27) (.tmp 31) 36 36 rfl (w.heap.size + 1) 35 i0 _ 1 4 Tryz.underlying36 HI.out HZ0.out HZ1.out HZ2.out rfl (by decide) (.slice A k cK) k ((oneN 4 (fun s => hd s 4) k s).flatMap u1) rfl HOB.out _ 1 _ rfl HS.out HM.out HY.out HBS.out ?_)
      intro v' w5 hown hgr hat
      obtain ⟨A6, c6, rfl⟩ := hown.form
      have hob : ∀ q, (Value.slice A k cK).ownBlock = some q → w.heap.size + 1 ≤ q := fun q hq => (OwnM.lt HOB.out q hq).1
      have HN5 : Hid (OwnL w5 (w.heap.size + 1) 35 1 u1 (.slice A6 (k + 1) c6) (oneN 4 (fun s => hd s 4) (k + 1) s)) := by
        show OwnL _ _ _ _ _ _ _
        rw [HAS.out]
        refine OwnL.snoc ?_
        rw [oneN_len]
        exact hown
      have HR5 : Hid (RdAt w5 w.heap.size (nxN 4 (k + 1) s)) := by
        show RdAt _ _ _
        rw [HNX.out]
        exact (hgr.block _ HRa.out.lt (fun e => by have := hob _ e.symm; omega)).trans HRa.out
      have HBB5 : Hid (Below w.heap.size w w5) := HBa.out.grown hgr (by simp; omega) (fun q hq => by have := hob _ hq; omega)
      clear hown hgr hat hob HOB HOa HRa HBa
      go_wp2_with fail
      refine ⟨⟨k + 1, A6, c6, rfl, by omega, HR5.out, HN5.out, HBB5.out⟩, ?_⟩
      show mRd _ _ < mRd _ _
      rw [mRd_at HR5.out, HMEAS.out, HNX.out, HSZ.out]
      omega
    · have hke : s.size / 4 = k := by have := HB1.out; omega
      have ht0 : ¬ (4 : Int) ≤ (t.size : Int) := by omega
      have HOWk := HOW
      rw [← hke] at HOWk
      have HKS : Hid (k ≤ 140737488351232) := by show k ≤ _; omega
      have HL1 : Hid ((srt ltN (oneN 4 (fun s => hd s 4) (s.size / 4) s)).length = k) := by show _ = _; rw [srt_len, oneN_len, hke]
      have HLD : Hid ((dd (srt ltN (oneN 4 (fun s => hd s 4) (s.size / 4) s))).length ≤ k) := by have := dd_len (srt ltN (oneN 4 (fun s => hd s 4) (s.size / 4) s)); have h2 := HL1.out; show _ ≤ _; omega
      have HOL : Hid (∃ L, L = oneN 4 (fun s => hd s 4) (s.size / 4) s ∧ L.length = k ∧ OwnL w2 (w.heap.size + 1) 35 1 u1 (.slice A k cK) L) := ⟨_, rfl, by rw [oneN_len]; exact hke, by rw [hke]; exact HOW.out⟩
      clear HOWk HOW hke HAS HNX HMR HR
      obtain ⟨L, hLe, hLk, hLo⟩ := HOL.out
      rw [← hLe] at HTL HTS HL1 HLD
      have HLO := Lib.hid hLo
      have HLK := Lib.hid hLk
      clear hLe hLk hLo HOL
      go_wp2_with fail
      refine (HSO.out _ (w.heap.size + 1) (.slice A k cK) L HLO.out (by rw [HLK.out]; have := HKS.out; omega)).mono ?_
      rintro e w6 ⟨rfl, ho6, hg6⟩
      have HO6 := Lib.hid ho6
      have HB6 : Hid (Below w.heap.size w w6) := OwnM.below_grown HLO.out hg6 HBB.out (by have := HBB.out.size; exact this) (by omega)
      clear ho6 hg6 HBB HLO
      go_wp2_with fail
      refine (HCU.out _ (w.heap.size + 1) (.slice A k cK) (srt ltN L) HO6.out (by rw [HL1.out]; have := HKS.out; omega)).mono ?_
      rintro e w7 ⟨v7, rfl, ho7, hg7, hv7⟩
      have HB7 : Hid (Below w.heap.size w w7) := OwnM.below_grown HO6.out hg7 HB6.out (by have := HB6.out.size; exact this) (by omega)
      obtain ⟨A7, c7, rfl⟩ := ho7.form
      have HO7 := Lib.hid ho7
      clear ho7 hg7 hv7 HB6 HO6
      by_cases h64 : 64 < (dd (srt ltN L)).length
      · have HRN := Lib.hid (HTL.out h64)
        obtain ⟨m, hmm⟩ : ∃ m, m = (dd (srt ltN L)).length := ⟨_, rfl⟩
        rw [← hmm] at h64 ⊢
        have h64' : (64 : Int) < (m : Int) := by omega
        clear HTL HTS HLD HO7 hmm
        go_wp2_with fail
        go_ret2
        refine ⟨?_, HB7.out⟩
        rw [HRN.out]
        exact ⟨3, rfl, .inl rfl⟩
      · have HRN := Lib.hid (HTS.out h64)
        have HOF : Hid (RES = some (dd (srt ltN L)) ∧ OwnL w7 (w.heap.size + 1) 35 1 u1 (.slice A7 (dd (srt ltN L)).length c7) (dd (srt ltN L))) := ⟨HRN.out, HO7.out⟩
        clear HTL HTS HLD HRN HO7
        generalize dd (srt ltN L) = D at h64 HOF ⊢
        obtain ⟨m, hmm⟩ : ∃ m, m = D.length := ⟨_, rfl⟩
        rw [← hmm] at h64 HOF ⊢
        have h64' : ¬ (64 : Int) < (m : Int) := by omega
        clear hmm
        go_wp2_with fail
        go_ret2
        refine ⟨?_, HB7.out⟩
        rw [HOF.out.1]
        exact ⟨_, rfl, HOF.out.2⟩
set_option maxRecDepth 100000 in
set_option maxHeartbeats 16000000 in
theorem cread_u64 (s : ByteArray) (w : World) (hm : (s.size : Int) ≤ 140737488351232) :
    Calls Tryz.prog 114 #[.string s, .int .i64 8, .func (.func 59) #[] #[], .func (.func 115) #[] #[]] w fun e w' => RcPost (w.heap.size + 1) 57 1 x1 (readC 8 (fun s => hd s 8) ltN s) w' e ∧ Below w.heap.size w w' := by
  have HNEW := Lib.hid new_any
  have HLE := Lib.hid left_any
  have HON : Hid (∀ (b : Nat) (t : ByteArray) (W : World), RdAt W b t → 8 ≤ t.size → (t.size : Int) ≤ 140737488351232 → Calls Tryz.prog 115 #[.pointer (some ⟨b, 0, none⟩)] W fun e w' => e = .returned (.int .u64 (hd t 8 : Nat)) ∧ RdAt w' b (nx t 8) ∧ W.grownBy w' (some b)) := fun b t W h1 h2 h3 => one8 b t W h1 h2 h3
  have HSO := Lib.hid sort_u64
  have HCU := Lib.hid cut_u64
  obtain ⟨i0, hi, hz0, hz1, hz2⟩ := info_parts infoU64
  have HI := Lib.hid hi
  have HZ0 := Lib.hid hz0
  have HZ1 := Lib.hid hz1
  have HZ2 := Lib.hid hz2
  have z0 := bytes_none s
  obtain ⟨q0, hq0⟩ : ∃ q, q = (s.size == 0) := ⟨_, rfl⟩
  rw [← hq0] at z0
  clear hi hz0 hz1 hz2
  by_cases hb0 : s.size = 0
  · have HT : Hid (readC 8 (fun s => hd s 8) ltN s = none) := readC_none (.inl hb0)
    obtain rfl : q0 = true := by rw [hq0, hb0]; rfl
    clear hq0 hb0
    go_enter Tryz.func114, Tryz.ntmps114
    go_wp2_with fail
    go_ret2
    refine ⟨?_, Below.refl _ _⟩
    rw [HT.out]
    exact ⟨4, rfl, .inr rfl⟩
  obtain rfl : q0 = false := by rw [hq0]; exact beq_eq_false_iff_ne.2 hb0
  clear hq0
  by_cases hb1 : s.size % 8 = 0
  case neg =>
    have HT : Hid (readC 8 (fun s => hd s 8) ltN s = none) := readC_none (.inr hb1)
    have z1 : ((s.size : Int) % 8 != 0) = true := bne_iff_ne.2 (by omega)
    have z1' : ((s.size : Int) % 8 == 0) = false := beq_eq_false_iff_ne.2 (by omega)
    have z2 : ((s.size : Int).tmod 8 != 0) = true := by rw [Int.tmod_eq_emod_of_nonneg (by omega)]; exact z1
    have z2' : ((s.size : Int).tmod 8 == 0) = false := by rw [Int.tmod_eq_emod_of_nonneg (by omega)]; exact z1'
    clear hb1
    go_enter Tryz.func114, Tryz.ntmps114
    go_wp2_with fail
    go_ret2
    refine ⟨?_, Below.refl _ _⟩
    rw [HT.out]
    exact ⟨4, rfl, .inr rfl⟩
  have z1 : ((s.size : Int) % 8 != 0) = false := by
    have : (s.size : Int) % 8 = 0 := by omega
    rw [this]
    rfl
  have z1' : ((s.size : Int) % 8 == 0) = true := beq_iff_eq.2 (by omega)
  have z2 : ((s.size : Int).tmod 8 != 0) = false := by rw [Int.tmod_eq_emod_of_nonneg (by omega)]; exact z1
  have z2' : ((s.size : Int).tmod 8 == 0) = true := by rw [Int.tmod_eq_emod_of_nonneg (by omega)]; exact z1'
  have HB0 := Lib.hid hb0
  have HB1 := Lib.hid hb1
  have HTL : Hid (64 < (dd (srt ltN (oneN 8 (fun s => hd s 8) (s.size / 8) s))).length → readC 8 (fun s => hd s 8) ltN s = none) := fun h => readC_long hb0 hb1 h
  have HTS : Hid (¬ 64 < (dd (srt ltN (oneN 8 (fun s => hd s 8) (s.size / 8) s))).length → readC 8 (fun s => hd s 8) ltN s = some (dd (srt ltN (oneN 8 (fun s => hd s 8) (s.size / 8) s)))) := fun h => readC_some hb0 hb1 h
  generalize readC 8 (fun s => hd s 8) ltN s = RES at HTL HTS ⊢
  clear hb1 hb0
  go_enter Tryz.func114, Tryz.ntmps114
  go_wp2_with fail
  refine (HNEW.out s w).mono ?_
  rintro e w1 ⟨rfl, hw1⟩
  have HR1 : Hid (RdAt w1 w.heap.size s) := by
    show RdAt _ _ _
    rw [hw1]
    exact heap_alloc_new w _
  have HBL1 : Hid (Below w.heap.size w w1) := by
    rw [hw1]
    exact (Below.refl _ _).alloc (Nat.le_refl _) _
  clear hw1
  go_wp2_with fail
  go_loopw [11] (fun ov wr => ∃ (k : Nat) (A : Option Addr) (cK : Nat), ov = .slice A k cK ∧ k * 8 ≤ s.size ∧ Hid (RdAt wr w.heap.size (nxN 8 k s)) ∧ Hid (OwnL wr (w.heap.size + 1) 57 1 x1 (.slice A k cK) (oneN 8 (fun s => hd s 8) k s)) ∧ Hid (Below w.heap.size w wr)) (fun _x wr => mRd wr w.heap.size)
  case atStart => exact ⟨0, none, 0, rfl, by omega, HR1.out, OwnL.nil _ _ _ _ _, HBL1.out⟩
  case round =>
    clear HR1 HBL1
    obtain ⟨k, A, cK, rfl, hk, HR, HOW, HBB⟩ := hrel
    have hrl := HR.out.lt
    have hts : (nxN 8 k s).size = s.size - k * 8 := nxN_size 8 k s
    have HNX := Lib.hid (nxN_succ 8 k s)
    have HAS := Lib.hid (oneN_succ 8 (fun s => hd s 8) k s)
    have HMR := Lib.hid (mRd_at HR.out)
    obtain ⟨t, ht⟩ : ∃ t, t = nxN 8 k s := ⟨_, rfl⟩
    rw [← ht] at HR hts HNX HAS HMR
    clear ht
    go_wp2_with fail
    refine (HLE.out w.heap.size t _ HR.out).mono ?_
    rintro e w2 ⟨rfl, rfl⟩
    by_cases hlt : k * 8 < s.size
    · have h4 : 8 ≤ t.size := by have := HB1.out; omega
      have h0 : (8 : Int) ≤ (t.size : Int) := by omega
      go_wp2_with fail
      refine (HON.out w.heap.size t _ HR.out h4 (by omega)).mono ?_
      rintro e w3 ⟨rfl, hr3, hg3⟩
      have HR3 : Hid (RdAt w3 w.heap.size (nx t 8)) := hr3
      have HOW3 : Hid (OwnL w3 (w.heap.size + 1) 57 1 x1 (.slice A k cK) (oneN 8 (fun s => hd s 8) k s)) := HOW.out.off hg3 (show CellsAt w2 w.heap.size #[.bool true, .string t] 110 from HR.out) (by decide)
      have HBB3 : Hid (Below w.heap.size w w3) := HBB.out.grown hg3 (by have := HBB.out.size; omega) (fun q hq => by cases hq; exact Nat.le_refl _)
      have hrl3 : w.heap.size < w3.heap.size := Nat.lt_of_lt_of_le hrl hg3.size
      have HSZ : Hid ((nx t 8).size = t.size - 8) := nx_size t 8
      have HMEAS : Hid (mRd w2 w.heap.size = t.size) := HMR.out
      obtain ⟨x, hx⟩ : ∃ x, x = hd t 8 := ⟨_, rfl⟩
      rw [← hx] at HAS ⊢
      clear hr3 hg3 hx HR HOW HBB HMR
      have HCB : Hid (CellsAt (w3.alloc (.cells #[.int .u64 (x : Nat)] 57)) w3.heap.size #[.int .u64 (x : Nat)] 57) := CellsAt.new _ _ _
      have HS := Lib.hid (Src.block (P := Tryz.prog) (t2 := 37) (size := 1) (m := 1) (c := 1) Tryz.underlying37 HCB.out rfl (by simp [Value.oneCell']))
      have HOa := Lib.hid (HOW3.out.alloc (.cells #[.int .u64 (x : Nat)] 57))
      have HBS : Hid (w.heap.size + 1 ≤ (w3.alloc (.cells #[.int .u64 (x : Nat)] 57)).heap.size) := by show _ ≤ _; simp; omega
      have HM : Hid (k + 1 ≤ maxLen) := by show _ ≤ _; unfold maxLen; omega
      have HY : Hid ((k + 1) * 8 ≤ 140737488355328) := by show _ ≤ _; omega
      have HOB : Hid (OwnM (w3.alloc (.cells #[.int .u64 (x : Nat)] 57)) (w.heap.size + 1) 57 1 (.slice A k cK) k ((oneN 8 (fun s => hd s 8) k s).flatMap x1)) := by
        have h := HOa.out
        unfold OwnL at h
        rwa [oneN_len] at h
      have HRa : Hid (RdAt (w3.alloc (.cells #[.int .u64 (x : Nat)] 57)) w.heap.size (nx t 8)) := (Below.heap_alloc _ _ _ HR3.out.lt).trans HR3.out
      have HBa : Hid (Below w.heap.size w (w3.alloc (.cells #[.int .u64 (x : Nat)] 57))) := HBB3.out.alloc (by omega) _
      go_wp2_with (at_builtin; refine wpList_append_m rfl (.tmp 27) (.tmp 31) 37 37 rfl (w.heap.size + 1) 57 i0 _ 1 8 Tryz.underlying37 HI.out HZ0.out HZ1.out HZ2.out rfl (by decide) (.slice A k cK) k ((oneN 8 (fun s => hd s 8) k s).flatMap x1) rfl HOB.out _ 1 _ rfl HS.out HM.out HY.out HBS.out ?_)
      intro v' w5 hown hgr hat
      obtain ⟨A6, c6, rfl⟩ := hown.form
      have hob : ∀ q, (Value.slice A k cK).ownBlock = some q → w.heap.size + 1 ≤ q := fun q hq => (OwnM.lt HOB.out q hq).1
      have HN5 : Hid (OwnL w5 (w.heap.size + 1) 57 1 x1 (.slice A6 (k + 1) c6) (oneN 8 (fun s => hd s 8) (k + 1) s)) := by
        show OwnL _ _ _ _ _ _ _
        rw [HAS.out]
        refine OwnL.snoc ?_
        rw [oneN_len]
        exact hown
      have HR5 : Hid (RdAt w5 w.heap.size (nxN 8 (k + 1) s)) := by
        show RdAt _ _ _
        rw [HNX.out]
        exact (hgr.block _ HRa.out.lt (fun e => by have := hob _ e.symm; omega)).trans HRa.out
      have HBB5 : Hid (Below w.heap.size w w5) := HBa.out.grown hgr (by simp; omega) (fun q hq => by have := hob _ hq; omega)
      clear hown hgr hat hob HOB HOa HRa HBa
      go_wp2_with fail
      refine ⟨⟨k + 1, A6, c6, rfl, by omega, HR5.out, HN5.out, HBB5.out⟩, ?_⟩
      show mRd _ _ < mRd _ _
      rw [mRd_at HR5.out, HMEAS.out, HNX.out, HSZ.out]
      omega
    · have hke : s.size / 8 = k := by have := HB1.out; omega
      have ht0 : ¬ (8 : Int) ≤ (t.size : Int) := by omega
      have HOWk := HOW
      rw [← hke] at HOWk
      have HKS : Hid (k ≤ 140737488351232) := by show k ≤ _; omega
      have HL1 : Hid ((srt ltN (oneN 8 (fun s => hd s 8) (s.size / 8) s)).length = k) := by show _ = _; rw [srt_len, oneN_len, hke]
      have HLD : Hid ((dd (srt ltN (oneN 8 (fun s => hd s 8) (s.size / 8) s))).length ≤ k) := by have := dd_len (srt ltN (oneN 8 (fun s => hd s 8) (s.size / 8) s)); have h2 := HL1.out; show _ ≤ _; omega
      have HOL : Hid (∃ L, L = oneN 8 (fun s => hd s 8) (s.size / 8) s ∧ L.length = k ∧ OwnL w2 (w.heap.size + 1) 57 1 x1 (.slice A k cK) L) := ⟨_, rfl, by rw [oneN_len]; exact hke, by rw [hke]; exact HOW.out⟩
      clear HOWk HOW hke HAS HNX HMR HR
      obtain ⟨L, hLe, hLk, hLo⟩ := HOL.out
      rw [← hLe] at HTL HTS HL1 HLD
      have HLO := Lib.hid hLo
      have HLK := Lib.hid hLk
      clear hLe hLk hLo HOL
      go_wp2_with fail
      refine (HSO.out _ (w.heap.size + 1) (.slice A k cK) L HLO.out (by rw [HLK.out]; have := HKS.out; omega)).mono ?_
      rintro e w6 ⟨rfl, ho6, hg6⟩
      have HO6 := Lib.hid ho6
      have HB6 : Hid (Below w.heap.size w w6) := OwnM.below_grown HLO.out hg6 HBB.out (by have := HBB.out.size; exact this) (by omega)
      clear ho6 hg6 HBB HLO
      go_wp2_with fail
      refine (HCU.out _ (w.heap.size + 1) (.slice A k cK) (srt ltN L) HO6.out (by rw [HL1.out]; have := HKS.out; omega)).mono ?_
      rintro e w7 ⟨v7, rfl, ho7, hg7, hv7⟩
      have HB7 : Hid (Below w.heap.size w w7) := OwnM.below_grown HO6.out hg7 HB6.out (by have := HB6.out.size; exact this) (by omega)
      obtain ⟨A7, c7, rfl⟩ := ho7.form
      have HO7 := Lib.hid ho7
      clear ho7 hg7 hv7 HB6 HO6
      by_cases h64 : 64 < (dd (srt ltN L)).length
      · have HRN := Lib.hid (HTL.out h64)
        obtain ⟨m, hmm⟩ : ∃ m, m = (dd (srt ltN L)).length := ⟨_, rfl⟩
        rw [← hmm] at h64 ⊢
        have h64' : (64 : Int) < (m : Int) := by omega
        clear HTL HTS HLD HO7 hmm
        go_wp2_with fail
        go_ret2
        refine ⟨?_, HB7.out⟩
        rw [HRN.out]
        exact ⟨3, rfl, .inl rfl⟩
      · have HRN := Lib.hid (HTS.out h64)
        have HOF : Hid (RES = some (dd (srt ltN L)) ∧ OwnL w7 (w.heap.size + 1) 57 1 x1 (.slice A7 (dd (srt ltN L)).length c7) (dd (srt ltN L))) := ⟨HRN.out, HO7.out⟩
        clear HTL HTS HLD HRN HO7
        generalize dd (srt ltN L) = D at h64 HOF ⊢
        obtain ⟨m, hmm⟩ : ∃ m, m = D.length := ⟨_, rfl⟩
        rw [← hmm] at h64 HOF ⊢
        have h64' : ¬ (64 : Int) < (m : Int) := by omega
        clear hmm
        go_wp2_with fail
        go_ret2
        refine ⟨?_, HB7.out⟩
        rw [HOF.out.1]
        exact ⟨_, rfl, HOF.out.2⟩
set_option maxRecDepth 100000 in
set_option maxHeartbeats 16000000 in
theorem cread_L (s : ByteArray) (w : World) (hm : (s.size : Int) ≤ 140737488351232) :
    Calls Tryz.prog 116 #[.string s, .int .i64 12, .func (.func 104) #[] #[], .func (.func 117) #[] #[]] w fun e w' => RcPost (w.heap.size + 1) 59 3 Lg.cs (readC 12 lg12 ltL s) w' e ∧ Below w.heap.size w w' := by
  have HNEW := Lib.hid new_any
  have HLE := Lib.hid left_any
  have HON : Hid (∀ (b : Nat) (t : ByteArray) (W : World), RdAt W b t → 12 ≤ t.size → (t.size : Int) ≤ 140737488351232 → Calls Tryz.prog 117 #[.pointer (some ⟨b, 0, none⟩)] W fun e w' => e = .returned (.agg #[.int .u32 ((lg12 t).g : Nat), .int .u32 ((lg12 t).a : Nat), .int .u32 ((lg12 t).b : Nat)]) ∧ RdAt w' b (nx t 12) ∧ W.grownBy w' (some b)) := fun b t W h1 h2 h3 => one12 b t W h1 h2 h3
  have HSO := Lib.hid sort_L
  have HCU := Lib.hid cut_L
  obtain ⟨i0, hi, hz0, hz1, hz2⟩ := info_parts infoLg
  have HI := Lib.hid hi
  have HZ0 := Lib.hid hz0
  have HZ1 := Lib.hid hz1
  have HZ2 := Lib.hid hz2
  have z0 := bytes_none s
  obtain ⟨q0, hq0⟩ : ∃ q, q = (s.size == 0) := ⟨_, rfl⟩
  rw [← hq0] at z0
  clear hi hz0 hz1 hz2
  by_cases hb0 : s.size = 0
  · have HT : Hid (readC 12 lg12 ltL s = none) := readC_none (.inl hb0)
    obtain rfl : q0 = true := by rw [hq0, hb0]; rfl
    clear hq0 hb0
    go_enter Tryz.func116, Tryz.ntmps116
    go_wp2_with fail
    go_ret2
    refine ⟨?_, Below.refl _ _⟩
    rw [HT.out]
    exact ⟨4, rfl, .inr rfl⟩
  obtain rfl : q0 = false := by rw [hq0]; exact beq_eq_false_iff_ne.2 hb0
  clear hq0
  by_cases hb1 : s.size % 12 = 0
  case neg =>
    have HT : Hid (readC 12 lg12 ltL s = none) := readC_none (.inr hb1)
    have z1 : ((s.size : Int) % 12 != 0) = true := bne_iff_ne.2 (by omega)
    have z1' : ((s.size : Int) % 12 == 0) = false := beq_eq_false_iff_ne.2 (by omega)
    have z2 : ((s.size : Int).tmod 12 != 0) = true := by rw [Int.tmod_eq_emod_of_nonneg (by omega)]; exact z1
    have z2' : ((s.size : Int).tmod 12 == 0) = false := by rw [Int.tmod_eq_emod_of_nonneg (by omega)]; exact z1'
    clear hb1
    go_enter Tryz.func116, Tryz.ntmps116
    go_wp2_with fail
    go_ret2
    refine ⟨?_, Below.refl _ _⟩
    rw [HT.out]
    exact ⟨4, rfl, .inr rfl⟩
  have z1 : ((s.size : Int) % 12 != 0) = false := by
    have : (s.size : Int) % 12 = 0 := by omega
    rw [this]
    rfl
  have z1' : ((s.size : Int) % 12 == 0) = true := beq_iff_eq.2 (by omega)
  have z2 : ((s.size : Int).tmod 12 != 0) = false := by rw [Int.tmod_eq_emod_of_nonneg (by omega)]; exact z1
  have z2' : ((s.size : Int).tmod 12 == 0) = true := by rw [Int.tmod_eq_emod_of_nonneg (by omega)]; exact z1'
  have HB0 := Lib.hid hb0
  have HB1 := Lib.hid hb1
  have HTL : Hid (64 < (dd (srt ltL (oneN 12 lg12 (s.size / 12) s))).length → readC 12 lg12 ltL s = none) := fun h => readC_long hb0 hb1 h
  have HTS : Hid (¬ 64 < (dd (srt ltL (oneN 12 lg12 (s.size / 12) s))).length → readC 12 lg12 ltL s = some (dd (srt ltL (oneN 12 lg12 (s.size / 12) s)))) := fun h => readC_some hb0 hb1 h
  generalize readC 12 lg12 ltL s = RES at HTL HTS ⊢
  clear hb1 hb0
  go_enter Tryz.func116, Tryz.ntmps116
  go_wp2_with fail
  refine (HNEW.out s w).mono ?_
  rintro e w1 ⟨rfl, hw1⟩
  have HR1 : Hid (RdAt w1 w.heap.size s) := by
    show RdAt _ _ _
    rw [hw1]
    exact heap_alloc_new w _
  have HBL1 : Hid (Below w.heap.size w w1) := by
    rw [hw1]
    exact (Below.refl _ _).alloc (Nat.le_refl _) _
  clear hw1
  go_wp2_with fail
  go_loopw [11] (fun ov wr => ∃ (k : Nat) (A : Option Addr) (cK : Nat), ov = .slice A k cK ∧ k * 12 ≤ s.size ∧ Hid (RdAt wr w.heap.size (nxN 12 k s)) ∧ Hid (OwnL wr (w.heap.size + 1) 59 3 Lg.cs (.slice A k cK) (oneN 12 lg12 k s)) ∧ Hid (Below w.heap.size w wr)) (fun _x wr => mRd wr w.heap.size)
  case atStart => exact ⟨0, none, 0, rfl, by omega, HR1.out, OwnL.nil _ _ _ _ _, HBL1.out⟩
  case round =>
    clear HR1 HBL1
    obtain ⟨k, A, cK, rfl, hk, HR, HOW, HBB⟩ := hrel
    have hrl := HR.out.lt
    have hts : (nxN 12 k s).size = s.size - k * 12 := nxN_size 12 k s
    have HNX := Lib.hid (nxN_succ 12 k s)
    have HAS := Lib.hid (oneN_succ 12 lg12 k s)
    have HMR := Lib.hid (mRd_at HR.out)
    obtain ⟨t, ht⟩ : ∃ t, t = nxN 12 k s := ⟨_, rfl⟩
    rw [← ht] at HR hts HNX HAS HMR
    clear ht
    go_wp2_with fail
    refine (HLE.out w.heap.size t _ HR.out).mono ?_
    rintro e w2 ⟨rfl, rfl⟩
    by_cases hlt : k * 12 < s.size
    · have h4 : 12 ≤ t.size := by have := HB1.out; omega
      have h0 : (12 : Int) ≤ (t.size : Int) := by omega
      go_wp2_with fail
      refine (HON.out w.heap.size t _ HR.out h4 (by omega)).mono ?_
      rintro e w3 ⟨rfl, hr3, hg3⟩
      have HR3 : Hid (RdAt w3 w.heap.size (nx t 12)) := hr3
      have HOW3 : Hid (OwnL w3 (w.heap.size + 1) 59 3 Lg.cs (.slice A k cK) (oneN 12 lg12 k s)) := HOW.out.off hg3 (show CellsAt w2 w.heap.size #[.bool true, .string t] 110 from HR.out) (by decide)
      have HBB3 : Hid (Below w.heap.size w w3) := HBB.out.grown hg3 (by have := HBB.out.size; omega) (fun q hq => by cases hq; exact Nat.le_refl _)
      have hrl3 : w.heap.size < w3.heap.size := Nat.lt_of_lt_of_le hrl hg3.size
      have HSZ : Hid ((nx t 12).size = t.size - 12) := nx_size t 12
      have HMEAS : Hid (mRd w2 w.heap.size = t.size) := HMR.out
      obtain ⟨x, hx⟩ : ∃ x, x = lg12 t := ⟨_, rfl⟩
      rw [← hx] at HAS ⊢
      clear hr3 hg3 hx HR HOW HBB HMR
      have HCB : Hid (CellsAt (w3.alloc (.cells #[.int .u32 (x.g : Nat), .int .u32 (x.a : Nat), .int .u32 (x.b : Nat)] 59)) w3.heap.size #[.int .u32 (x.g : Nat), .int .u32 (x.a : Nat), .int .u32 (x.b : Nat)] 59) := CellsAt.new _ _ _
      have HS := Lib.hid (Src.block (P := Tryz.prog) (t2 := 38) (size := 3) (m := 1) (c := 1) Tryz.underlying38 HCB.out rfl (by simp [Value.oneCell']))
      have HOa := Lib.hid (HOW3.out.alloc (.cells #[.int .u32 (x.g : Nat), .int .u32 (x.a : Nat), .int .u32 (x.b : Nat)] 59))
      have HBS : Hid (w.heap.size + 1 ≤ (w3.alloc (.cells #[.int .u32 (x.g : Nat), .int .u32 (x.a : Nat), .int .u32 (x.b : Nat)] 59)).heap.size) := by show _ ≤ _; simp; omega
      have HM : Hid (k + 1 ≤ maxLen) := by show _ ≤ _; unfold maxLen; omega
      have HY : Hid ((k + 1) * 12 ≤ 140737488355328) := by show _ ≤ _; omega
      have HOB : Hid (OwnM (w3.alloc (.cells #[.int .u32 (x.g : Nat), .int .u32 (x.a : Nat), .int .u32 (x.b : Nat)] 59)) (w.heap.size + 1) 59 3 (.slice A k cK) k ((oneN 12 lg12 k s).flatMap Lg.cs)) := by
        have h := HOa.out
        unfold OwnL at h
        rwa [oneN_len] at h
      have HRa : Hid (RdAt (w3.alloc (.cells #[.int .u32 (x.g : Nat), .int .u32 (x.a : Nat), .int .u32 (x.b : Nat)] 59)) w.heap.size (nx t 12)) := (Below.heap_alloc _ _ _ HR3.out.lt).trans HR3.out
      have HBa : Hid (Below w.heap.size w (w3.alloc (.cells #[.int .u32 (x.g : Nat), .int .u32 (x.a : Nat), .int .u32 (x.b : Nat)] 59))) := HBB3.out.alloc (by omega) _
      go_wp2_with (at_builtin; refine wpList_append_m rfl (.tmp 27) (.tmp 31) 38 38 rfl (w.heap.size + 1) 59 i0 _ 3 12 Tryz.underlying38 HI.out HZ0.out HZ1.out HZ2.out rfl (by decide) (.slice A k cK) k ((oneN 12 lg12 k s).flatMap Lg.cs) rfl HOB.out _ 1 _ rfl HS.out HM.out HY.out HBS.out ?_)
      intro v' w5 hown hgr hat
      obtain ⟨A6, c6, rfl⟩ := hown.form
      have hob : ∀ q, (Value.slice A k cK).ownBlock = some q → w.heap.size + 1 ≤ q := fun q hq => (OwnM.lt HOB.out q hq).1
      have HN5 : Hid (OwnL w5 (w.heap.size + 1) 59 3 Lg.cs (.slice A6 (k + 1) c6) (oneN 12 lg12 (k + 1) s)) := by
        show OwnL _ _ _ _ _ _ _
        rw [HAS.out]
        refine OwnL.snoc ?_
        rw [oneN_len]
        exact hown
      have HR5 : Hid (RdAt w5 w.heap.size (nxN 12 (k + 1) s)) := by
        show RdAt _ _ _
        rw [HNX.out]
        exact (hgr.block _ HRa.out.lt (fun e => by have := hob _ e.symm; omega)).trans HRa.out
      have HBB5 : Hid (Below w.heap.size w w5) := HBa.out.grown hgr (by simp; omega) (fun q hq => by have := hob _ hq; omega)
      clear hown hgr hat hob HOB HOa HRa HBa
      go_wp2_with fail
      refine ⟨⟨k + 1, A6, c6, rfl, by omega, HR5.out, HN5.out, HBB5.out⟩, ?_⟩
      show mRd _ _ < mRd _ _
      rw [mRd_at HR5.out, HMEAS.out, HNX.out, HSZ.out]
      omega
    · have hke : s.size / 12 = k := by have := HB1.out; omega
      have ht0 : ¬ (12 : Int) ≤ (t.size : Int) := by omega
      have HOWk := HOW
      rw [← hke] at HOWk
      have HKS : Hid (k ≤ 140737488351232) := by show k ≤ _; omega
      have HL1 : Hid ((srt ltL (oneN 12 lg12 (s.size / 12) s)).length = k) := by show _ = _; rw [srt_len, oneN_len, hke]
      have HLD : Hid ((dd (srt ltL (oneN 12 lg12 (s.size / 12) s))).length ≤ k) := by have := dd_len (srt ltL (oneN 12 lg12 (s.size / 12) s)); have h2 := HL1.out; show _ ≤ _; omega
      have HOL : Hid (∃ L, L = oneN 12 lg12 (s.size / 12) s ∧ L.length = k ∧ OwnL w2 (w.heap.size + 1) 59 3 Lg.cs (.slice A k cK) L) := ⟨_, rfl, by rw [oneN_len]; exact hke, by rw [hke]; exact HOW.out⟩
      clear HOWk HOW hke HAS HNX HMR HR
      obtain ⟨L, hLe, hLk, hLo⟩ := HOL.out
      rw [← hLe] at HTL HTS HL1 HLD
      have HLO := Lib.hid hLo
      have HLK := Lib.hid hLk
      clear hLe hLk hLo HOL
      go_wp2_with fail
      refine (HSO.out _ (w.heap.size + 1) (.slice A k cK) L HLO.out (by rw [HLK.out]; have := HKS.out; omega)).mono ?_
      rintro e w6 ⟨rfl, ho6, hg6⟩
      have HO6 := Lib.hid ho6
      have HB6 : Hid (Below w.heap.size w w6) := OwnM.below_grown HLO.out hg6 HBB.out (by have := HBB.out.size; exact this) (by omega)
      clear ho6 hg6 HBB HLO
      go_wp2_with fail
      refine (HCU.out _ (w.heap.size + 1) (.slice A k cK) (srt ltL L) HO6.out (by rw [HL1.out]; have := HKS.out; omega)).mono ?_
      rintro e w7 ⟨v7, rfl, ho7, hg7, hv7⟩
      have HB7 : Hid (Below w.heap.size w w7) := OwnM.below_grown HO6.out hg7 HB6.out (by have := HB6.out.size; exact this) (by omega)
      obtain ⟨A7, c7, rfl⟩ := ho7.form
      have HO7 := Lib.hid ho7
      clear ho7 hg7 hv7 HB6 HO6
      by_cases h64 : 64 < (dd (srt ltL L)).length
      · have HRN := Lib.hid (HTL.out h64)
        obtain ⟨m, hmm⟩ : ∃ m, m = (dd (srt ltL L)).length := ⟨_, rfl⟩
        rw [← hmm] at h64 ⊢
        have h64' : (64 : Int) < (m : Int) := by omega
        clear HTL HTS HLD HO7 hmm
        go_wp2_with fail
        go_ret2
        refine ⟨?_, HB7.out⟩
        rw [HRN.out]
        exact ⟨3, rfl, .inl rfl⟩
      · have HRN := Lib.hid (HTS.out h64)
        have HOF : Hid (RES = some (dd (srt ltL L)) ∧ OwnL w7 (w.heap.size + 1) 59 3 Lg.cs (.slice A7 (dd (srt ltL L)).length c7) (dd (srt ltL L))) := ⟨HRN.out, HO7.out⟩
        clear HTL HTS HLD HRN HO7
        generalize dd (srt ltL L) = D at h64 HOF ⊢
        obtain ⟨m, hmm⟩ : ∃ m, m = D.length := ⟨_, rfl⟩
        rw [← hmm] at h64 HOF ⊢
        have h64' : ¬ (64 : Int) < (m : Int) := by omega
        clear hmm
        go_wp2_with fail
        go_ret2
        refine ⟨?_, HB7.out⟩
        rw [HOF.out.1]
        exact ⟨_, rfl, HOF.out.2⟩
end Go.Proofs.YtkcojblflebomaaGreat
set_option linter.unusedVariables false
set_option linter.unusedSimpArgs false
namespace Go.Proofs.YtkcojblflebomaaGreat
open Go.RowKit Go.MapKept Go.Shelf
open Go.Lib hiding intOf

theorem wpList_store_verdict {ops : Array Oper} {rest : List Oper} {op : Oper} {a : Act} {w : World} {Q : Exit → Act → World → Prop} (hgd : op.guard = none) (x y : Operand) (ho : op.op = .store 42 x y) (b : Nat) (hx : a.eval x = .pointer (some ⟨b, 0, none⟩)) (p : Vd) (hy : a.eval y = .agg #[.int .i64 p.act, .int .u8 p.code, .int .u8 p.sub]) (q : Vd) (hc : CellsAt w b #[.int .i64 q.act, .int .u8 q.code, .int .u8 q.sub] 42)
    (h : wpList Tryz.prog ops Q rest (a.put op.dst undef) (w.setRow b #[.int .i64 p.act, .int .u8 p.code, .int .u8 p.sub])) : wpList Tryz.prog ops Q (op :: rest) a w :=
  wpList_store_row hgd 42 x y ho b p.ar hx hy 42 q.ar hc (by rw [verdict_size]; rfl) rfl (Array.all_eq_true_iff_forall_mem.2 (fun u hu => by
    simp only [Vd.ar, List.mem_toArray, List.mem_cons, List.not_mem_nil, or_false] at hu
    rcases hu with rfl | rfl | rfl <;> rfl)) h
theorem OwnL.raws {w : World} {base : Nat} {v : Value} {L : List Rw} (h : OwnL w base 32 3 Rw.cs v L) (hf : ∀ r ∈ L, r.v.size ≤ 9223372036854775807) : ∃ A c, v = .slice A L.length c ∧ RwsOk w A c L := by
  obtain ⟨A, c, hv, hr, hl, hc⟩ := OwnL.rd Rw.cs_len h
  exact ⟨A, c, hv, hr, hl, hc, hf⟩
theorem one_fits : ∀ r ∈ oneRaws, r.v.size ≤ 140737488351232 := by
  intro r hr
  simp only [oneRaws, List.mem_cons, List.not_mem_nil, or_false] at hr
  rcases hr with rfl | rfl | rfl <;> decide
theorem one_own {w : World} {base : Nat} {v : Value} (h : OwnL w base 32 3 Rw.cs v oneRaws) : ∃ A c, v = .slice A 3 c ∧ RwsOk w A c oneRaws := h.raws (fun r hr => Nat.le_trans (one_fits r hr) (by decide))
theorem work_write (a : Atr) (w : World) (h : AtrOk w a) (hc : a.c = oneC) : Calls Tryz.prog 25 #[a.v, .bool true] w fun e w' => (∃ A c, e = .returned (.tuple #[.slice A 3 c, .int .i64 0]) ∧ RwsOk w' A c oneRaws) ∧ Below w.heap.size w w' := by
  refine (write_ok a true w h (by rw [hc]; exact one_ok) (enc_none (by show a.c.comms = []; rw [hc]; rfl) (by show a.c.exts = []; rw [hc]; rfl) (by show a.c.larges = []; rw [hc]; rfl))).mono ?_
  rintro e w' ⟨⟨v, rfl, ho⟩, hb⟩
  rw [hc, one_write] at ho
  obtain ⟨A, c, rfl, hr⟩ := one_own ho
  exact ⟨⟨A, c, rfl, hr⟩, hb⟩
theorem work_lay (A : Option Addr) (c : Nat) (w : World) (h : RwsOk w A c oneRaws) : Calls Tryz.prog 13 #[.slice A 3 c] w fun e w' => e = .returned (.tuple #[.string (ByteArray.mk #[64, 1, 1, 1, 64, 2, 6, 2, 1, 0, 0, 0, 1, 64, 3, 4, 10, 0, 0, 1]), .int .i64 0]) ∧ Below w.heap.size w w' := by
  have h2 := lay_any A c oneRaws w h
  rw [one_lay] at h2
  exact h2
theorem work_split (w : World) : Calls Tryz.prog 17 #[.string (ByteArray.mk #[64, 1, 1, 1, 64, 2, 6, 2, 1, 0, 0, 0, 1, 64, 3, 4, 10, 0, 0, 1])] w fun e w' => (∃ A c, e = .returned (.tuple #[.slice A 3 c, .bool true]) ∧ RwsOk w' A c oneRaws) ∧ Below w.heap.size w w' := by
  have h2 := split_any laidB w (by decide)
  rw [one_split] at h2
  refine h2.mono ?_
  rintro e w' ⟨⟨v, rfl, ho⟩, hb⟩
  obtain ⟨A, c, rfl, hr⟩ := one_own ho
  exact ⟨⟨A, c, rfl, hr⟩, hb⟩
theorem work_T : ∀ x ∈ oneRaws, ∀ b wr i f, rowF x.t.toNat = some (b, wr, i, f) → TakesT workT x.t.toNat f := by
  intro x hx b wr i f h
  simp only [oneRaws, List.mem_cons, List.not_mem_nil, or_false] at hx
  rcases hx with rfl | rfl | rfl
  · obtain ⟨rfl, rfl, rfl, rfl⟩ : (64 : Int) = b ∧ (2 : Int) = wr ∧ false = i ∧ 73 = f := by simpa [rowF] using h
    exact ⟨takes1, fun v four c => by show (take1 v c).1.clus = c.clus; unfold take1; split <;> rfl⟩
  · obtain ⟨rfl, rfl, rfl, rfl⟩ : (64 : Int) = b ∧ (2 : Int) = wr ∧ false = i ∧ 74 = f := by simpa [rowF] using h
    exact ⟨takes2, fun v four c => by show (take2 v four c).1.clus = c.clus; unfold take2; split <;> rfl⟩
  · obtain ⟨rfl, rfl, rfl, rfl⟩ : (64 : Int) = b ∧ (2 : Int) = wr ∧ false = i ∧ 76 = f := by simpa [rowF] using h
    exact ⟨takes3, fun v four c => by rfl⟩
theorem work_read (A : Option Addr) (c : Nat) (w : World) (h : RwsOk w A c oneRaws) : Calls Tryz.prog 19 #[.slice A 3 c, .bool true, .bool true] w fun e w' => (∃ a : Atr, e = .returned (.tuple #[.agg a.ar, .agg #[.int .i64 0, .int .u8 0, .int .u8 0]]) ∧ AtrOk w' a ∧ a.c = oneC) ∧ Below w.heap.size w w' := by
  refine (read_any workT A c oneRaws true true w h one_fits work_T).mono ?_
  rintro e w' ⟨hp, hb⟩
  rw [show readF workT true true [] noC ⟨0, 0, 0⟩ oneRaws = (oneC, ⟨0, 0, 0⟩) from one_read] at hp
  obtain ⟨a, rfl, ho, hc⟩ := hp
  exact ⟨⟨a, rfl, ho.ok, hc⟩, hb⟩
theorem work_same (a b : Atr) (w : World) (h1 : AtrOk w a) (h2 : AtrOk w b) (e1 : a.c = oneC) (e2 : b.c = oneC) : Calls Tryz.prog 23 #[a.v, b.v] w fun e w' => e = .returned (.bool true) ∧ Below w.heap.size w w' := by
  have h := same_any a b w h1 h2
  rw [decide_eq_true (show a.c = b.c by rw [e1, e2])] at h
  exact h
set_option maxRecDepth 100000 in
set_option maxHeartbeats 4000000 in
theorem works_any (w : World) : Calls Tryz.prog 16 #[] w fun e w' => e = .returned (.bool true) ∧ Below w.heap.size w w' := by
  have HONE := Lib.hid one_any
  have HWR := Lib.hid work_write
  have HLA := Lib.hid work_lay
  have HSP := Lib.hid work_split
  have HRE := Lib.hid work_read
  have HSA := Lib.hid work_same
  go_enter Tryz.func16, Tryz.ntmps16
  go_wp2_with fail
  refine (HONE.out _).mono ?_
  rintro e w1 ⟨⟨a0, rfl, ha0, hc0⟩, hb1⟩
  have HA0 := Lib.hid ha0
  have HC0 := Lib.hid hc0
  have HB1 := Lib.hid hb1
  clear ha0 hc0 hb1
  go_wp2_with fail
  refine (HWR.out a0 _ HA0.out HC0.out).mono ?_
  rintro e w2 ⟨⟨A, c, rfl, hr⟩, hb2⟩
  have HR := Lib.hid hr
  have HB2 := Lib.hid (HB1.out.trans (hb2.mono HB1.out.size))
  clear hr hb2 HB1 HA0 HC0
  go_wp2_with fail
  refine (HLA.out A c _ HR.out).mono ?_
  rintro e w3 ⟨rfl, hb3⟩
  have HB3 := Lib.hid (HB2.out.trans (hb3.mono HB2.out.size))
  clear hb3 HB2 HR
  go_wp2_with fail
  refine (HSP.out _).mono ?_
  rintro e w4 ⟨⟨B, d, rfl, hr⟩, hb4⟩
  have HR := Lib.hid hr
  have HB4 := Lib.hid (HB3.out.trans (hb4.mono HB3.out.size))
  clear hr hb4 HB3
  go_wp2_with fail
  refine (HRE.out B d _ HR.out).mono ?_
  rintro e w5 ⟨⟨a1, rfl, ha1, hc1⟩, hb5⟩
  have HA1 := Lib.hid ha1
  have HC1 := Lib.hid hc1
  have HB5 := Lib.hid (HB4.out.trans (hb5.mono HB4.out.size))
  clear ha1 hc1 hb5 HB4 HR
  have e5 : ∀ cs : Array Value, (w5.alloc (.cells cs 40)).heap.size = w5.heap.size + 1 := fun cs => by simp
  have HZ : Hid (∀ cs : Array Value, CellsAt ((w5.alloc (.cells cs 40)).alloc (.cells #[.int .i64 0, .int .u8 0, .int .u8 0] 42)) w5.heap.size cs 40) := fun cs => (CellsAt.new _ _ _).alloc _
  have HY : Hid (∀ cs : Array Value, CellsAt (((w5.alloc (.cells cs 40)).alloc (.cells #[.int .i64 0, .int .u8 0, .int .u8 0] 42)).setRow w5.heap.size a1.ar) (w5.heap.size + 1) #[.int .i64 0, .int .u8 0, .int .u8 0] 42) := fun cs => by
    have h := CellsAt.new (w5.alloc (.cells cs 40)) #[.int .i64 0, .int .u8 0, .int .u8 0] 42
    rw [e5] at h
    exact h.row (grown_setRow _ _ _) (by omega)
  have HV1 : Hid (∀ cs : Array Value, CellsAt ((((w5.alloc (.cells cs 40)).alloc (.cells #[.int .i64 0, .int .u8 0, .int .u8 0] 42)).setRow w5.heap.size a1.ar).setRow (w5.heap.size + 1) #[.int .i64 0, .int .u8 0, .int .u8 0]) w5.heap.size a1.ar 40) := fun cs => ((HZ.out cs).setRow _).row (grown_setRow _ _ _) (by omega)
  have HV2 : Hid (∀ cs : Array Value, CellsAt ((((w5.alloc (.cells cs 40)).alloc (.cells #[.int .i64 0, .int .u8 0, .int .u8 0] 42)).setRow w5.heap.size a1.ar).setRow (w5.heap.size + 1) #[.int .i64 0, .int .u8 0, .int .u8 0]) (w5.heap.size + 1) #[.int .i64 0, .int .u8 0, .int .u8 0] 42) := fun cs => (HY.out cs).setRow _
  have HV5 : Hid (∀ cs : Array Value, Below w5.heap.size w5 ((((w5.alloc (.cells cs 40)).alloc (.cells #[.int .i64 0, .int .u8 0, .int .u8 0] 42)).setRow w5.heap.size a1.ar).setRow (w5.heap.size + 1) #[.int .i64 0, .int .u8 0, .int .u8 0])) := fun cs => ((((Below.refl _ _).alloc (Nat.le_refl _) _).alloc (by simp) _).grown (grown_setRow _ _ _) (by simp; omega) (fun k hk => by cases hk; omega)).grown (grown_setRow _ _ _) (by simp [setRow_size]; omega) (fun k hk => by cases hk; omega)
  have HV3 : Hid (∀ cs : Array Value, AtrOk ((((w5.alloc (.cells cs 40)).alloc (.cells #[.int .i64 0, .int .u8 0, .int .u8 0] 42)).setRow w5.heap.size a1.ar).setRow (w5.heap.size + 1) #[.int .i64 0, .int .u8 0, .int .u8 0]) a1) := fun cs => HA1.out.below (HV5.out cs) (Nat.le_refl _)
  have hs5 := HB5.out.size
  have HV4 : Hid (∀ cs : Array Value, Below w.heap.size w ((((w5.alloc (.cells cs 40)).alloc (.cells #[.int .i64 0, .int .u8 0, .int .u8 0] 42)).setRow w5.heap.size a1.ar).setRow (w5.heap.size + 1) #[.int .i64 0, .int .u8 0, .int .u8 0])) := fun cs => HB5.out.trans ((HV5.out cs).mono hs5)
  clear HB5 HA1 hs5 HV5 e5
  go_upto_region 5 with (with_reducible show wpList _ _ _ (_ :: _) _ _; first | refine wpList_store_attrs rfl (.tmp 7) (.tmp 26) rfl w5.heap.size rfl a1 rfl noAtr (HZ.out _) ?_ | refine wpList_store_verdict rfl (.tmp 8) (.tmp 27) rfl (w5.heap.size + 1) rfl ⟨0, 0, 0⟩ rfl ⟨0, 0, 0⟩ (HY.out _) ?_)
  refine wp_region_held_drew (S := fun w' => CellsAt w' w5.heap.size a1.ar 40 ∧ CellsAt w' (w5.heap.size + 1) #[.int .i64 0, .int .u8 0, .int .u8 0] 42 ∧ AtrOk w' a1 ∧ Below w.heap.size w w') (by kernel_rfl) (⟨(HV1.out _).drew 1, (HV2.out _).drew 1, (HV3.out _).below (below_drewN (Below.refl _ _) 1) (Nat.le_refl _), below_drewN (HV4.out _) 1⟩) (fun hHeld => ?_)
  refine wpAnyH_take (i := 0) (oi := { dst := some 28, op := Op.move (Operand.tmp 2), type := 23, pos := "outright.go:23", after := #[], guard := none }) (v := ?_) rfl (by kernel_rfl) (by kernel_rfl) (by kernel_rfl) (fun _ _ _ h => h) (Or.inl ⟨by rfl, ?_⟩) hHeld ?_
  rotate_left
  · intro w hSw
    clear hSw
    go_simp
    try with_reducible rfl
  try simp only [Act.put, List.setIfInBounds_toArray, List.set_cons_zero, List.set_cons_succ]
  refine wpAnyH_take (i := 1) (oi := { dst := some 29, op := Op.binOp BinOp.eql 23 (Operand.tmp 28) (Operand.const (Value.int IntKind.i64 0)) 23, type := 4, pos := "outright.go:23", after := #[{ on := 0, ground := Ground.data }], guard := none }) (v := ?_) rfl (by kernel_rfl) (by kernel_rfl) (by kernel_rfl) (fun _ _ _ h => h) (Or.inl ⟨by rfl, ?_⟩) hHeld ?_
  rotate_left
  · intro w hSw
    clear hSw
    go_simp
    try with_reducible rfl
  try simp only [Act.put, List.setIfInBounds_toArray, List.set_cons_zero, List.set_cons_succ]
  refine wpAnyH_take (i := 2) (oi := { dst := some 30, op := Op.move (Operand.tmp 29), type := 4, pos := "outright.go:23", after := #[{ on := 1, ground := Ground.data }], guard := none }) (v := ?_) rfl (by kernel_rfl) (by kernel_rfl) (by kernel_rfl) (fun _ _ _ h => h) (Or.inl ⟨by rfl, ?_⟩) hHeld ?_
  rotate_left
  · intro w hSw
    clear hSw
    go_simp
    try with_reducible rfl
  try simp only [Act.put, List.setIfInBounds_toArray, List.set_cons_zero, List.set_cons_succ]
  refine wpAnyH_take (i := 3) (oi := { dst := some 31, op := Op.move (Operand.tmp 4), type := 23, pos := "outright.go:23", after := #[{ on := 2, ground := Ground.guard }], guard := some (2, true) }) (v := ?_) rfl (by kernel_rfl) (by kernel_rfl) (by kernel_rfl) (fun _ _ _ h => h) (Or.inl ⟨by rfl, ?_⟩) hHeld ?_
  rotate_left
  · intro w hSw
    clear hSw
    go_simp
    try with_reducible rfl
  try simp only [Act.put, List.setIfInBounds_toArray, List.set_cons_zero, List.set_cons_succ]
  refine wpAnyH_take (i := 4) (oi := { dst := some 32, op := Op.binOp BinOp.eql 23 (Operand.tmp 31) (Operand.const (Value.int IntKind.i64 0)) 23, type := 4, pos := "outright.go:23", after := #[{ on := 3, ground := Ground.data }, { on := 2, ground := Ground.guard }], guard := some (2, true) }) (v := ?_) rfl (by kernel_rfl) (by kernel_rfl) (by kernel_rfl) (fun _ _ _ h => h) (Or.inl ⟨by rfl, ?_⟩) hHeld ?_
  rotate_left
  · intro w hSw
    clear hSw
    go_simp
    try with_reducible rfl
  try simp only [Act.put, List.setIfInBounds_toArray, List.set_cons_zero, List.set_cons_succ]
  refine wpAnyH_take (i := 5) (oi := { dst := some 33, op := Op.pick (Operand.tmp 30) (Operand.tmp 32) (Operand.const (Value.bool false)), type := 4, pos := "outright.go:23", after := #[{ on := 2, ground := Ground.data }, { on := 4, ground := Ground.data }], guard := none }) (v := ?_) rfl (by kernel_rfl) (by kernel_rfl) (by kernel_rfl) (fun _ _ _ h => h) (Or.inl ⟨by rfl, ?_⟩) hHeld ?_
  rotate_left
  · intro w hSw
    clear hSw
    go_simp
    try with_reducible rfl
  try simp only [Act.put, List.setIfInBounds_toArray, List.set_cons_zero, List.set_cons_succ]
  refine wpAnyH_take (i := 6) (oi := { dst := some 34, op := Op.move (Operand.tmp 33), type := 4, pos := "outright.go:23", after := #[{ on := 5, ground := Ground.data }, { on := 2, ground := Ground.chain }], guard := none }) (v := ?_) rfl (by kernel_rfl) (by kernel_rfl) (by kernel_rfl) (fun _ _ _ h => h) (Or.inl ⟨by rfl, ?_⟩) hHeld ?_
  rotate_left
  · intro w hSw
    clear hSw
    go_simp
    try with_reducible rfl
  try simp only [Act.put, List.setIfInBounds_toArray, List.set_cons_zero, List.set_cons_succ]
  refine wpAnyH_take (i := 7) (oi := { dst := some 35, op := Op.move (Operand.tmp 3), type := 9, pos := "outright.go:23", after := #[{ on := 6, ground := Ground.guard }], guard := some (6, true) }) (v := ?_) rfl (by kernel_rfl) (by kernel_rfl) (by kernel_rfl) (fun _ _ _ h => h) (Or.inl ⟨by rfl, ?_⟩) hHeld ?_
  rotate_left
  · intro w hSw
    clear hSw
    go_simp
    try with_reducible rfl
  try simp only [Act.put, List.setIfInBounds_toArray, List.set_cons_zero, List.set_cons_succ]
  refine wpAnyH_take (i := 8) (oi := { dst := some 36, op := Op.binOp BinOp.eql 9 (Operand.tmp 35) (Operand.const (Value.string { data := #[64, 1, 1, 1, 64, 2, 6, 2, 1, 0, 0, 0, 1, 64, 3, 4, 10, 0, 0, 1] })) 9, type := 4, pos := "outright.go:23", after := #[{ on := 7, ground := Ground.data }, { on := 6, ground := Ground.guard }], guard := some (6, true) }) (v := ?_) rfl (by kernel_rfl) (by kernel_rfl) (by kernel_rfl) (fun _ _ _ h => h) (Or.inl ⟨by rfl, ?_⟩) hHeld ?_
  rotate_left
  · intro w hSw
    clear hSw
    go_simp
    try with_reducible rfl
  try simp only [Act.put, List.setIfInBounds_toArray, List.set_cons_zero, List.set_cons_succ]
  refine wpAnyH_take (i := 9) (oi := { dst := some 37, op := Op.pick (Operand.tmp 34) (Operand.tmp 36) (Operand.const (Value.bool false)), type := 4, pos := "outright.go:23", after := #[{ on := 6, ground := Ground.data }, { on := 8, ground := Ground.data }], guard := none }) (v := ?_) rfl (by kernel_rfl) (by kernel_rfl) (by kernel_rfl) (fun _ _ _ h => h) (Or.inl ⟨by rfl, ?_⟩) hHeld ?_
  rotate_left
  · intro w hSw
    clear hSw
    go_simp
    try with_reducible rfl
  try simp only [Act.put, List.setIfInBounds_toArray, List.set_cons_zero, List.set_cons_succ]
  refine wpAnyH_take (i := 10) (oi := { dst := some 38, op := Op.move (Operand.tmp 37), type := 4, pos := "outright.go:23", after := #[{ on := 9, ground := Ground.data }, { on := 6, ground := Ground.chain }], guard := none }) (v := ?_) rfl (by kernel_rfl) (by kernel_rfl) (by kernel_rfl) (fun _ _ _ h => h) (Or.inl ⟨by rfl, ?_⟩) hHeld ?_
  rotate_left
  · intro w hSw
    clear hSw
    go_simp
    try with_reducible rfl
  try simp only [Act.put, List.setIfInBounds_toArray, List.set_cons_zero, List.set_cons_succ]
  refine wpAnyH_take (i := 11) (oi := { dst := some 39, op := Op.move (Operand.tmp 6), type := 4, pos := "outright.go:23", after := #[{ on := 10, ground := Ground.guard }], guard := some (10, true) }) (v := ?_) rfl (by kernel_rfl) (by kernel_rfl) (by kernel_rfl) (fun _ _ _ h => h) (Or.inl ⟨by rfl, ?_⟩) hHeld ?_
  rotate_left
  · intro w hSw
    clear hSw
    go_simp
    try with_reducible rfl
  try simp only [Act.put, List.setIfInBounds_toArray, List.set_cons_zero, List.set_cons_succ]
  refine wpAnyH_take (i := 12) (oi := { dst := some 40, op := Op.pick (Operand.tmp 38) (Operand.tmp 39) (Operand.const (Value.bool false)), type := 4, pos := "outright.go:23", after := #[{ on := 10, ground := Ground.data }, { on := 11, ground := Ground.data }], guard := none }) (v := ?_) rfl (by kernel_rfl) (by kernel_rfl) (by kernel_rfl) (fun _ _ _ h => h) (Or.inl ⟨by rfl, ?_⟩) hHeld ?_
  rotate_left
  · intro w hSw
    clear hSw
    go_simp
    try with_reducible rfl
  try simp only [Act.put, List.setIfInBounds_toArray, List.set_cons_zero, List.set_cons_succ]
  refine wpAnyH_take (i := 13) (oi := { dst := some 41, op := Op.move (Operand.tmp 40), type := 4, pos := "outright.go:23", after := #[{ on := 12, ground := Ground.data }, { on := 10, ground := Ground.chain }], guard := none }) (v := ?_) rfl (by kernel_rfl) (by kernel_rfl) (by kernel_rfl) (fun _ _ _ h => h) (Or.inl ⟨by rfl, ?_⟩) hHeld ?_
  rotate_left
  · intro w hSw
    clear hSw
    go_simp
    try with_reducible rfl
  try simp only [Act.put, List.setIfInBounds_toArray, List.set_cons_zero, List.set_cons_succ]
  refine wpAnyH_take (i := 14) (oi := { dst := some 42, op := Op.move (Operand.tmp 5), type := 22, pos := "outright.go:23", after := #[{ on := 13, ground := Ground.guard }], guard := some (13, true) }) (v := ?_) rfl (by kernel_rfl) (by kernel_rfl) (by kernel_rfl) (fun _ _ _ h => h) (Or.inl ⟨by rfl, ?_⟩) hHeld ?_
  rotate_left
  · intro w hSw
    clear hSw
    go_simp
    try with_reducible rfl
  try simp only [Act.put, List.setIfInBounds_toArray, List.set_cons_zero, List.set_cons_succ]
  refine wpAnyH_take (i := 15) (oi := { dst := some 43, op := Op.call { callee := Callee.builtin Builtin.len, args := #[Operand.tmp 42], argTypes := #[22] }, type := 3, pos := "outright.go:23", after := #[{ on := 14, ground := Ground.data }, { on := 13, ground := Ground.guard }], guard := some (13, true) }) (v := ?_) rfl (by kernel_rfl) (by kernel_rfl) (by kernel_rfl) (fun _ _ _ h => h) (Or.inl ⟨by rfl, ?_⟩) hHeld ?_
  rotate_left
  · intro w hSw
    clear hSw
    go_simp
    try with_reducible rfl
  try simp only [Act.put, List.setIfInBounds_toArray, List.set_cons_zero, List.set_cons_succ]
  refine wpAnyH_take (i := 16) (oi := { dst := some 44, op := Op.binOp BinOp.eql 3 (Operand.tmp 43) (Operand.const (Value.int IntKind.i64 3)) 3, type := 4, pos := "outright.go:23", after := #[{ on := 15, ground := Ground.data }, { on := 13, ground := Ground.guard }], guard := some (13, true) }) (v := ?_) rfl (by kernel_rfl) (by kernel_rfl) (by kernel_rfl) (fun _ _ _ h => h) (Or.inl ⟨by rfl, ?_⟩) hHeld ?_
  rotate_left
  · intro w hSw
    clear hSw
    go_simp
    try with_reducible rfl
  try simp only [Act.put, List.setIfInBounds_toArray, List.set_cons_zero, List.set_cons_succ]
  refine wpAnyH_take (i := 17) (oi := { dst := some 45, op := Op.pick (Operand.tmp 41) (Operand.tmp 44) (Operand.const (Value.bool false)), type := 4, pos := "outright.go:23", after := #[{ on := 13, ground := Ground.data }, { on := 16, ground := Ground.data }], guard := none }) (v := ?_) rfl (by kernel_rfl) (by kernel_rfl) (by kernel_rfl) (fun _ _ _ h => h) (Or.inl ⟨by rfl, ?_⟩) hHeld ?_
  rotate_left
  · intro w hSw
    clear hSw
    go_simp
    try with_reducible rfl
  try simp only [Act.put, List.setIfInBounds_toArray, List.set_cons_zero, List.set_cons_succ]
  refine wpAnyH_take (i := 18) (oi := { dst := some 46, op := Op.move (Operand.tmp 45), type := 4, pos := "outright.go:23", after := #[{ on := 17, ground := Ground.data }, { on := 13, ground := Ground.chain }], guard := none }) (v := ?_) rfl (by kernel_rfl) (by kernel_rfl) (by kernel_rfl) (fun _ _ _ h => h) (Or.inl ⟨by rfl, ?_⟩) hHeld ?_
  rotate_left
  · intro w hSw
    clear hSw
    go_simp
    try with_reducible rfl
  try simp only [Act.put, List.setIfInBounds_toArray, List.set_cons_zero, List.set_cons_succ]
  refine wpAnyH_take (i := 19) (oi := { dst := some 47, op := Op.load 42 (Operand.tmp 8), type := 42, pos := "outright.go:23", after := #[{ on := 18, ground := Ground.guard }], guard := some (18, true) }) (v := .agg #[.int .i64 0, .int .u8 0, .int .u8 0]) rfl (by kernel_rfl) (by kernel_rfl) (by kernel_rfl) (fun _ _ _ h => h) (yields_verdict (by rfl) _ rfl (w5.heap.size + 1) (by rfl) ⟨0, 0, 0⟩ (fun w h => h.2.1)) hHeld ?_
  try simp only [Act.put, List.setIfInBounds_toArray, List.set_cons_zero, List.set_cons_succ]
  refine wpAnyH_take (i := 20) (oi := { dst := some 48, op := Op.build 42 #[], type := 42, pos := "outright.go:23", after := #[{ on := 18, ground := Ground.guard }], guard := some (18, true) }) (v := ?_) rfl (by kernel_rfl) (by kernel_rfl) (by kernel_rfl) (fun _ _ _ h => h) (Or.inl ⟨by rfl, ?_⟩) hHeld ?_
  rotate_left
  · intro w hSw
    clear hSw
    go_simp
    try with_reducible rfl
  try simp only [Act.put, List.setIfInBounds_toArray, List.set_cons_zero, List.set_cons_succ]
  refine wpAnyH_take (i := 21) (oi := { dst := some 49, op := Op.binOp BinOp.eql 42 (Operand.tmp 47) (Operand.tmp 48) 42, type := 4, pos := "outright.go:23", after := #[{ on := 19, ground := Ground.data }, { on := 20, ground := Ground.data }, { on := 18, ground := Ground.guard }], guard := some (18, true) }) (v := .bool true) rfl (by kernel_rfl) (by kernel_rfl) (by kernel_rfl) (fun _ _ _ h => h) (Or.inl ⟨by rfl, ?_⟩) hHeld ?_
  · intro w hSw
    clear hSw
    go_simp
    skip
  try simp only [Act.put, List.setIfInBounds_toArray, List.set_cons_zero, List.set_cons_succ]
  refine wpAnyH_take (i := 22) (oi := { dst := some 50, op := Op.pick (Operand.tmp 46) (Operand.tmp 49) (Operand.const (Value.bool false)), type := 4, pos := "outright.go:23", after := #[{ on := 18, ground := Ground.data }, { on := 21, ground := Ground.data }], guard := none }) (v := ?_) rfl (by kernel_rfl) (by kernel_rfl) (by kernel_rfl) (fun _ _ _ h => h) (Or.inl ⟨by rfl, ?_⟩) hHeld ?_
  rotate_left
  · intro w hSw
    clear hSw
    go_simp
    try with_reducible rfl
  try simp only [Act.put, List.setIfInBounds_toArray, List.set_cons_zero, List.set_cons_succ]
  refine wpAnyH_take (i := 23) (oi := { dst := some 51, op := Op.move (Operand.tmp 50), type := 4, pos := "outright.go:23", after := #[{ on := 22, ground := Ground.data }, { on := 18, ground := Ground.chain }], guard := none }) (v := ?_) rfl (by kernel_rfl) (by kernel_rfl) (by kernel_rfl) (fun _ _ _ h => h) (Or.inl ⟨by rfl, ?_⟩) hHeld ?_
  rotate_left
  · intro w hSw
    clear hSw
    go_simp
    try with_reducible rfl
  try simp only [Act.put, List.setIfInBounds_toArray, List.set_cons_zero, List.set_cons_succ]
  refine wpAnyH_take (i := 24) (oi := { dst := some 52, op := Op.load 40 (Operand.tmp 7), type := 40, pos := "outright.go:23", after := #[{ on := 23, ground := Ground.guard }], guard := some (23, true) }) (v := .agg a1.ar) rfl (by kernel_rfl) (by kernel_rfl) (by kernel_rfl) (fun _ _ _ h => h) (yields_attrs (by rfl) _ rfl w5.heap.size (by rfl) a1 (fun w h => h.1)) hHeld ?_
  try simp only [Act.put, List.setIfInBounds_toArray, List.set_cons_zero, List.set_cons_succ]
  refine wpAnyH_ready (rs := [25]) (by kernel_rfl) (by simp) ?_
  refine AllReadyH.cons (o := { dst := some 53, op := Op.call { callee := Callee.value (Operand.func 32), args := #[], argTypes := #[] }, type := 40, pos := "outright.go:23", after := #[{ on := 23, ground := Ground.chain }, { on := 23, ground := Ground.guard }], guard := some (23, true) }) rfl (fun K hK => ?_) AllReadyH.nil
  go_simp
  refine (HONE.out _).mono ?_
  rintro e w6 ⟨⟨a2, rfl, ha2, hc2⟩, hb6⟩
  have HS6 := Lib.hid hHeld
  have HA2 := Lib.hid ha2
  have HC2 := Lib.hid hc2
  refine hK.out _ _ (⟨HS6.out.1.below hb6 HS6.out.1.lt, HS6.out.2.1.below hb6 HS6.out.2.1.lt, HS6.out.2.2.1.below hb6 (Nat.le_refl _), HS6.out.2.2.2.trans (hb6.mono HS6.out.2.2.2.size)⟩) (fun hHeld => ?_)
  clear hK K
  try simp only [Act.put, List.setIfInBounds_toArray, List.set_cons_zero, List.set_cons_succ]
  refine wpAnyH_ready (rs := [26]) (by kernel_rfl) (by simp) ?_
  refine AllReadyH.cons (o := { dst := some 54, op := Op.call { callee := Callee.value (Operand.func 23), args := #[Operand.tmp 52, Operand.tmp 53], argTypes := #[40, 40] }, type := 4, pos := "outright.go:23", after := #[{ on := 24, ground := Ground.data }, { on := 25, ground := Ground.data }, { on := 25, ground := Ground.chain }, { on := 23, ground := Ground.guard }], guard := some (23, true) }) rfl (fun K hK => ?_) AllReadyH.nil
  go_simp
  refine (HSA.out a1 a2 _ hHeld.2.2.1 HA2.out HC1.out HC2.out).mono ?_
  rintro e w7 ⟨rfl, hb7⟩
  have HS7 := Lib.hid hHeld
  refine hK.out _ _ (⟨HS7.out.1.below hb7 HS7.out.1.lt, HS7.out.2.1.below hb7 HS7.out.2.1.lt, HS7.out.2.2.1.below hb7 (Nat.le_refl _), HS7.out.2.2.2.trans (hb7.mono HS7.out.2.2.2.size)⟩) (fun hHeld => ?_)
  clear hK K
  try simp only [Act.put, List.setIfInBounds_toArray, List.set_cons_zero, List.set_cons_succ]
  refine wpAnyH_take (i := 27) (oi := { dst := some 55, op := Op.pick (Operand.tmp 51) (Operand.tmp 54) (Operand.const (Value.bool false)), type := 4, pos := "outright.go:23", after := #[{ on := 23, ground := Ground.data }, { on := 26, ground := Ground.data }], guard := none }) (v := ?_) rfl (by kernel_rfl) (by kernel_rfl) (by kernel_rfl) (fun _ _ _ h => h) (Or.inl ⟨by rfl, ?_⟩) hHeld ?_
  rotate_left
  · intro w hSw
    clear hSw
    go_simp
    try with_reducible rfl
  try simp only [Act.put, List.setIfInBounds_toArray, List.set_cons_zero, List.set_cons_succ]
  refine wpAnyH_take (i := 28) (oi := { dst := some 0, op := Op.assign (Operand.tmp 55), type := 4, pos := "outright.go:23", after := #[{ on := 27, ground := Ground.data }, { on := 26, ground := Ground.chain }, { on := 0, ground := Ground.phase }, { on := 1, ground := Ground.phase }, { on := 2, ground := Ground.phase }, { on := 3, ground := Ground.phase }, { on := 4, ground := Ground.phase }, { on := 5, ground := Ground.phase }, { on := 6, ground := Ground.phase }, { on := 7, ground := Ground.phase }, { on := 8, ground := Ground.phase }, { on := 9, ground := Ground.phase }, { on := 10, ground := Ground.phase }, { on := 11, ground := Ground.phase }, { on := 12, ground := Ground.phase }, { on := 13, ground := Ground.phase }, { on := 14, ground := Ground.phase }, { on := 15, ground := Ground.phase }, { on := 16, ground := Ground.phase }, { on := 17, ground := Ground.phase }, { on := 18, ground := Ground.phase }, { on := 19, ground := Ground.phase }, { on := 20, ground := Ground.phase }, { on := 21, ground := Ground.phase }, { on := 22, ground := Ground.phase }, { on := 23, ground := Ground.phase }, { on := 24, ground := Ground.phase }, { on := 25, ground := Ground.phase }, { on := 26, ground := Ground.phase }, { on := 27, ground := Ground.phase }], guard := none }) (v := ?_) rfl (by kernel_rfl) (by kernel_rfl) (by kernel_rfl) (fun _ _ _ h => h) (Or.inl ⟨by rfl, ?_⟩) hHeld ?_
  rotate_left
  · intro w hSw
    clear hSw
    go_simp
    try with_reducible rfl
  try simp only [Act.put, List.setIfInBounds_toArray, List.set_cons_zero, List.set_cons_succ]
  refine wpAnyH_done (by kernel_rfl) ?_ _
  have HE := Lib.hid hHeld
  clear hHeld
  go_wp2_with fail
  go_ret
  exact ⟨rfl, HE.out.2.2.2⟩
end Go.Proofs.YtkcojblflebomaaGreat
set_option linter.unusedVariables false
set_option linter.unusedSimpArgs false
namespace Go.Proofs.YtkcojblflebomaaGreat
open Go.RowKit Go.MapKept Go.Shelf
open Go.Lib hiding intOf
open Go.Sort hiding Below

theorem atOk_iff (c : AtC) : atOk c = true ↔ (0 ≤ c.origin ∧ c.origin ≤ 2) ∧ pathOk c.path = true ∧ nextOk c.next = true ∧ spareOk c = true ∧ listsOk c = true := by
  unfold atOk
  simp only [Bool.and_eq_true, decide_eq_true_eq, and_assoc]
theorem lists_iff (c : AtC) : listsOk c = true ↔ c.clus.length ≤ 32 ∧ (riseB ltN c.comms = true ∧ c.comms.length ≤ 64) ∧ (riseB ltN c.exts = true ∧ c.exts.length ≤ 64) ∧ (riseB ltL c.larges = true ∧ c.larges.length ≤ 64) := by
  unfold listsOk
  simp only [Bool.and_eq_true, decide_eq_true_eq, and_assoc]
theorem spare_iff (c : AtC) : spareOk c = true ↔ (c.hasMed = true ∨ c.med = 0) ∧ (c.hasPref = true ∨ c.pref = 0) ∧ (c.hasOrig = true ∨ c.orig = 0) ∧ (c.aggAs ≠ 0 ∨ c.aggId = 0) := by
  unfold spareOk
  simp only [Bool.and_eq_true, Bool.or_eq_true, beq_iff_eq, Bool.not_eq_true', beq_eq_false_iff_ne, ne_eq, and_assoc]
theorem tab_1 (v : ByteArray) (four : Bool) (c : AtC) : tab 1 v four c = take1 v c := rfl
theorem tab_2 (v : ByteArray) (four : Bool) (c : AtC) : tab 2 v four c = take2 v four c := rfl
theorem tab_3 (v : ByteArray) (four : Bool) (c : AtC) : tab 3 v four c = take3 v c := rfl
theorem tab_4 (v : ByteArray) (four : Bool) (c : AtC) : tab 4 v four c = take4 v c := rfl
theorem tab_5 (v : ByteArray) (four : Bool) (c : AtC) : tab 5 v four c = take5 v c := rfl
theorem tab_6 (v : ByteArray) (four : Bool) (c : AtC) : tab 6 v four c = take6 v c := rfl
theorem tab_7 (v : ByteArray) (four : Bool) (c : AtC) : tab 7 v four c = take7 v four c := rfl
theorem tab_8 (v : ByteArray) (four : Bool) (c : AtC) : tab 8 v four c = take8 v c := rfl
theorem tab_9 (v : ByteArray) (four : Bool) (c : AtC) : tab 9 v four c = take9 v c := rfl
theorem tab_10 (v : ByteArray) (four : Bool) (c : AtC) : tab 10 v four c = take10 v c := rfl
theorem tab_16 (v : ByteArray) (four : Bool) (c : AtC) : tab 16 v four c = take16 v c := rfl
theorem tab_32 (v : ByteArray) (four : Bool) (c : AtC) : tab 32 v four c = take32 v c := rfl
theorem decP_ok {four : Bool} {s : ByteArray} {l : List (Int × List Nat)} (h : decP four s = some l) : pathOk l = true := by
  unfold decP at h
  split at h
  · cases h
  · split at h
    · rename_i h2
      injection h with h
      subst h
      exact h2
    · cases h
/-- what a type's value leaves may be, where it is none of the wrong ones -/
theorem tab_keeps {t : Nat} {b wr : Int} {i : Bool} {f : FuncId} (h : rowF t = some (b, wr, i, f)) (v : ByteArray) (four : Bool) (c : AtC) (hc : atOk c = true) : (atOk (tab t v four c).1 = true ∨ (tab t v four c).2 = false ∧ wr = 2) ∧ (wr = 1 ∨ wr = 2) := by
  obtain ⟨h1, h2, h3, h4, h5⟩ := (atOk_iff c).1 hc
  obtain ⟨l1, l2, l3, l4⟩ := (lists_iff c).1 h5
  obtain ⟨s1, s2, s3, s4⟩ := (spare_iff c).1 h4
  have hk := row_known h
  rcases hk with rfl | rfl | rfl | rfl | rfl | rfl | rfl | rfl | rfl | rfl | rfl | rfl
  · obtain ⟨-, rfl, -⟩ : b = 64 ∧ wr = 2 ∧ True := by
      have h' : (64, (2 : Int), _, _) = (b, wr, i, f) := Option.some.inj h
      simp only [Prod.mk.injEq] at h'
      exact ⟨h'.1.symm, h'.2.1.symm, trivial⟩
    refine ⟨?_, .inr rfl⟩
    rw [tab_1]
    unfold take1
    split
    · exact .inl ((atOk_iff _).2 ⟨⟨by show (0 : Int) ≤ (hd v 1 : Nat); omega, by rename_i hq; show ((hd v 1 : Nat) : Int) ≤ 2; omega⟩, h2, h3, h4, h5⟩)
    · exact .inl hc
  · obtain rfl : wr = 2 := by
      have h' : (64, (2 : Int), _, _) = (b, wr, i, f) := Option.some.inj h
      simp only [Prod.mk.injEq] at h'
      exact h'.2.1.symm
    refine ⟨?_, .inr rfl⟩
    rw [tab_2]
    unfold take2
    split
    · exact .inr ⟨rfl, rfl⟩
    · rename_i l hl
      exact .inl ((atOk_iff _).2 ⟨h1, decP_ok hl, h3, h4, h5⟩)
  · obtain rfl : wr = 2 := by
      have h' : (64, (2 : Int), _, _) = (b, wr, i, f) := Option.some.inj h
      simp only [Prod.mk.injEq] at h'
      exact h'.2.1.symm
    refine ⟨?_, .inr rfl⟩
    rw [tab_3]
    unfold take3
    cases hv : v.size == 4
    · exact .inr ⟨rfl, rfl⟩
    · exact .inl ((atOk_iff _).2 ⟨h1, h2, by show nextOk v = true; unfold nextOk; rw [hv]; simp, h4, h5⟩)
  · obtain rfl : wr = 2 := by
      have h' : (128, (2 : Int), _, _) = (b, wr, i, f) := Option.some.inj h
      simp only [Prod.mk.injEq] at h'
      exact h'.2.1.symm
    refine ⟨?_, .inr rfl⟩
    rw [tab_4]
    unfold take4
    split
    · exact .inl ((atOk_iff _).2 ⟨h1, h2, h3, (spare_iff _).2 ⟨.inl rfl, s2, s3, s4⟩, h5⟩)
    · exact .inl hc
  · obtain rfl : wr = 2 := by
      have h' : (64, (2 : Int), _, _) = (b, wr, i, f) := Option.some.inj h
      simp only [Prod.mk.injEq] at h'
      exact h'.2.1.symm
    refine ⟨?_, .inr rfl⟩
    rw [tab_5]
    unfold take5
    split
    · exact .inl ((atOk_iff _).2 ⟨h1, h2, h3, (spare_iff _).2 ⟨s1, .inl rfl, s3, s4⟩, h5⟩)
    · exact .inl hc
  · obtain rfl : wr = 1 := by
      have h' : (64, (1 : Int), _, _) = (b, wr, i, f) := Option.some.inj h
      simp only [Prod.mk.injEq] at h'
      exact h'.2.1.symm
    exact ⟨.inl ((atOk_iff _).2 ⟨h1, h2, h3, h4, h5⟩), .inl rfl⟩
  · obtain rfl : wr = 1 := by
      have h' : (192, (1 : Int), _, _) = (b, wr, i, f) := Option.some.inj h
      simp only [Prod.mk.injEq] at h'
      exact h'.2.1.symm
    refine ⟨?_, .inl rfl⟩
    rw [tab_7]
    unfold take7
    split
    · rename_i hq
      exact .inl ((atOk_iff _).2 ⟨h1, h2, h3, (spare_iff _).2 ⟨s1, s2, s3, .inl hq.2⟩, h5⟩)
    · exact .inl hc
  · obtain rfl : wr = 2 := by
      have h' : (192, (2 : Int), _, _) = (b, wr, i, f) := Option.some.inj h
      simp only [Prod.mk.injEq] at h'
      exact h'.2.1.symm
    refine ⟨?_, .inr rfl⟩
    rw [tab_8]
    unfold take8
    split
    · exact .inr ⟨rfl, rfl⟩
    · rename_i l hl
      exact .inl ((atOk_iff _).2 ⟨h1, h2, h3, h4, (lists_iff _).2 ⟨l1, readC_ok swoN ltN_total hl, l3, l4⟩⟩)
  · obtain rfl : wr = 2 := by
      have h' : (128, (2 : Int), _, _) = (b, wr, i, f) := Option.some.inj h
      simp only [Prod.mk.injEq] at h'
      exact h'.2.1.symm
    refine ⟨?_, .inr rfl⟩
    rw [tab_9]
    unfold take9
    split
    · exact .inl ((atOk_iff _).2 ⟨h1, h2, h3, (spare_iff _).2 ⟨s1, s2, .inl rfl, s4⟩, h5⟩)
    · exact .inl hc
  · obtain rfl : wr = 2 := by
      have h' : (128, (2 : Int), _, _) = (b, wr, i, f) := Option.some.inj h
      simp only [Prod.mk.injEq] at h'
      exact h'.2.1.symm
    refine ⟨?_, .inr rfl⟩
    rw [tab_10]
    unfold take10
    split
    · exact .inl hc
    · rename_i hq
      refine .inl ((atOk_iff _).2 ⟨h1, h2, h3, h4, (lists_iff _).2 ⟨?_, l2, l3, l4⟩⟩)
      show (asN 4 (v.size / 4) v).length ≤ 32
      rw [asN_len]
      omega
  · obtain rfl : wr = 2 := by
      have h' : (192, (2 : Int), _, _) = (b, wr, i, f) := Option.some.inj h
      simp only [Prod.mk.injEq] at h'
      exact h'.2.1.symm
    refine ⟨?_, .inr rfl⟩
    rw [tab_16]
    unfold take16
    split
    · exact .inr ⟨rfl, rfl⟩
    · rename_i l hl
      exact .inl ((atOk_iff _).2 ⟨h1, h2, h3, h4, (lists_iff _).2 ⟨l1, l2, readC_ok swoN ltN_total hl, l4⟩⟩)
  · obtain rfl : wr = 2 := by
      have h' : (192, (2 : Int), _, _) = (b, wr, i, f) := Option.some.inj h
      simp only [Prod.mk.injEq] at h'
      exact h'.2.1.symm
    refine ⟨?_, .inr rfl⟩
    rw [tab_32]
    unfold take32
    split
    · exact .inr ⟨rfl, rfl⟩
    · rename_i l hl
      exact .inl ((atOk_iff _).2 ⟨h1, h2, h3, h4, (lists_iff _).2 ⟨l1, l2, l3, readC_ok swoL ltL_total hl⟩⟩)
/-- what of an external neighbour is never taken -/
def outOk (c : AtC) : Prop := c.hasPref = false ∧ c.hasOrig = false ∧ c.clus = []
theorem tab_out {t : Nat} {b wr : Int} {f : FuncId} (h : rowF t = some (b, wr, false, f)) (v : ByteArray) (four : Bool) (c : AtC) (hc : outOk c) : outOk (tab t v four c).1 := by
  rcases row_known h with rfl | rfl | rfl | rfl | rfl | rfl | rfl | rfl | rfl | rfl | rfl | rfl
  · rw [tab_1]; unfold take1; split <;> exact hc
  · rw [tab_2]; unfold take2; split <;> exact hc
  · exact hc
  · rw [tab_4]; unfold take4; split <;> exact hc
  · have h' : ((64 : Int), (2 : Int), true, _) = (b, wr, false, f) := Option.some.inj h
    simp at h'
  · exact hc
  · rw [tab_7]; unfold take7; split <;> exact hc
  · rw [tab_8]; unfold take8; split <;> exact hc
  · have h' : ((128 : Int), (2 : Int), true, _) = (b, wr, false, f) := Option.some.inj h
    simp at h'
  · have h' : ((128 : Int), (2 : Int), true, _) = (b, wr, false, f) := Option.some.inj h
    simp at h'
  · rw [tab_16]; unfold take16; split <;> exact hc
  · rw [tab_32]; unfold take32; split <;> exact hc
/-- what Read has in hand, judged -/
structure JI (internal : Bool) (c : AtC) (v : Vd) : Prop where
  ok : v.act < 2 → atOk c = true
  a0 : 0 ≤ v.act
  a3 : v.act ≤ 3
  code : v.act = 3 → v.code = 3 ∧ (v.sub = 1 ∨ v.sub = 2)
  none : v.act ≠ 3 → v.code = 0 ∧ v.sub = 0
  out : internal = false → outOk c
theorem JI.judge {internal : Bool} {c c' : AtC} {v : Vd} (h : JI internal c v) (x : Vd) (hx : (x.act = 1 ∨ x.act = 2) ∧ x.code = 0 ∧ x.sub = 0 ∨ x.act = 3 ∧ x.code = 3 ∧ (x.sub = 1 ∨ x.sub = 2)) (hok : v.act < 2 → x.act < 2 → atOk c' = true) (ho : internal = false → outOk c') : JI internal c' (judgeF v x) := by
  unfold judgeF
  split
  · rename_i hlt
    exact ⟨fun h1 => hok (by omega) h1, by omega, by omega, fun e => by omega, fun e => by omega, ho⟩
  · rename_i hge
    exact ⟨fun h1 => hok h1 (by omega), h.a0, h.a3, h.code, h.none, ho⟩
theorem JI.step {four internal : Bool} {met : List UInt8} {c : AtC} {v : Vd} (h : JI internal c v) (x : Rw) : JI internal (readStep tab four internal met c v x).1 (readStep tab four internal met c v x).2 := by
  unfold readStep
  split
  · split
    · exact h.judge ⟨3, 3, 1⟩ (.inr ⟨rfl, rfl, .inl rfl⟩) (fun h1 _ => h.ok h1) h.out
    · exact h
  · split
    · exact h
    · split
      · split
        · exact h.judge ⟨3, 3, 2⟩ (.inr ⟨rfl, rfl, .inr rfl⟩) (fun h1 _ => h.ok h1) h.out
        · exact h
      · rename_i b wr i f hrow
        split
        · exact h.judge ⟨1, 0, 0⟩ (.inl ⟨.inl rfl, rfl, rfl⟩) (fun h1 _ => h.ok h1) h.out
        · rename_i hin
          split
          · exact h.judge ⟨2, 0, 0⟩ (.inl ⟨.inr rfl, rfl, rfl⟩) (fun h1 _ => h.ok h1) h.out
          · have hout : internal = false → outOk (tab x.t.toNat x.v four c).1 := fun e => by
              subst e
              have hi : i = false := by cases i <;> simp at hin ⊢
              subst hi
              exact tab_out hrow _ _ _ (h.out rfl)
            have hk := tab_keeps hrow x.v four c
            split
            · rename_i hT
              exact ⟨fun h1 => ((hk (h.ok h1)).1).elim id (fun q => by rw [hT] at q; cases q.1), h.a0, h.a3, h.code, h.none, hout⟩
            · have hwr : wr = 1 ∨ wr = 2 := by
                rcases row_known hrow with e | e | e | e | e | e | e | e | e | e | e | e
                all_goals
                  rw [e] at hrow
                  have h' := Option.some.inj hrow
                  simp only [Prod.mk.injEq] at h'
                  have := h'.2.1
                  omega
              refine h.judge ⟨wr, 0, 0⟩ (.inl ⟨hwr, rfl, rfl⟩) (fun h1 h2 => ?_) hout
              rcases (hk (h.ok h1)).1 with q | q
              · exact q
              · have : wr < 2 := h2
                omega
theorem JI.all {four internal : Bool} : ∀ (L : List Rw) (met : List UInt8) (c : AtC) (v : Vd), JI internal c v → JI internal (readF tab four internal met c v L).1 (readF tab four internal met c v L).2
  | [], _, _, _, h => h
  | x :: r, met, c, v, h => JI.all r (x.t :: met) _ _ (h.step x)
theorem noC_ok : atOk noC = true := by decide
theorem JI.start (internal : Bool) : JI internal noC ⟨0, 0, 0⟩ := ⟨fun _ => noC_ok, by decide, by decide, fun h => absurd h (by decide), fun _ => ⟨rfl, rfl⟩, fun _ => ⟨rfl, rfl, rfl⟩⟩
end Go.Proofs.YtkcojblflebomaaGreat
set_option linter.unusedVariables false
set_option linter.unusedSimpArgs false
namespace Go.Proofs.YtkcojblflebomaaGreat
open Go.RowKit Go.MapKept Go.Shelf
open Go.Lib hiding intOf
open Go.Sort hiding Below

/-- what of attributes belongs to a type -/
def grp (t : Nat) (c : AtC) : AtC :=
  if t = 1 then { noC with origin := c.origin } else
  if t = 2 then { noC with path := c.path } else
  if t = 3 then { noC with next := c.next } else
  if t = 4 then { noC with hasMed := c.hasMed, med := c.med } else
  if t = 5 then { noC with hasPref := c.hasPref, pref := c.pref } else
  if t = 6 then { noC with atomic := c.atomic } else
  if t = 7 then { noC with aggAs := c.aggAs, aggId := c.aggId } else
  if t = 8 then { noC with comms := c.comms } else
  if t = 9 then { noC with hasOrig := c.hasOrig, orig := c.orig } else
  if t = 10 then { noC with clus := c.clus } else
  if t = 16 then { noC with exts := c.exts } else
  if t = 32 then { noC with larges := c.larges } else noC
def knownT (t : Nat) : Prop := t = 1 ∨ t = 2 ∨ t = 3 ∨ t = 4 ∨ t = 5 ∨ t = 6 ∨ t = 7 ∨ t = 8 ∨ t = 9 ∨ t = 10 ∨ t = 16 ∨ t = 32
theorem grp_no {t : Nat} (h : ¬ knownT t) (c : AtC) : grp t c = noC := by
  unfold knownT at h
  unfold grp
  rw [if_neg (by omega), if_neg (by omega), if_neg (by omega), if_neg (by omega), if_neg (by omega), if_neg (by omega), if_neg (by omega), if_neg (by omega), if_neg (by omega), if_neg (by omega), if_neg (by omega), if_neg (by omega)]
theorem grp_ext {c d : AtC} (h : ∀ t, grp t c = grp t d) : c = d := by
  have e1 : c.origin = d.origin := (by have q := congrArg AtC.origin (h 1); exact q)
  have e2 : c.path = d.path := (by have q := congrArg AtC.path (h 2); exact q)
  have e3 : c.next = d.next := (by have q := congrArg AtC.next (h 3); exact q)
  have e4 : c.hasMed = d.hasMed := (by have q := congrArg AtC.hasMed (h 4); exact q)
  have e5 : c.med = d.med := (by have q := congrArg AtC.med (h 4); exact q)
  have e6 : c.hasPref = d.hasPref := (by have q := congrArg AtC.hasPref (h 5); exact q)
  have e7 : c.pref = d.pref := (by have q := congrArg AtC.pref (h 5); exact q)
  have e8 : c.atomic = d.atomic := (by have q := congrArg AtC.atomic (h 6); exact q)
  have e9 : c.aggAs = d.aggAs := (by have q := congrArg AtC.aggAs (h 7); exact q)
  have e10 : c.aggId = d.aggId := (by have q := congrArg AtC.aggId (h 7); exact q)
  have e11 : c.comms = d.comms := (by have q := congrArg AtC.comms (h 8); exact q)
  have e12 : c.exts = d.exts := (by have q := congrArg AtC.exts (h 16); exact q)
  have e13 : c.larges = d.larges := (by have q := congrArg AtC.larges (h 32); exact q)
  have e14 : c.hasOrig = d.hasOrig := (by have q := congrArg AtC.hasOrig (h 9); exact q)
  have e15 : c.orig = d.orig := (by have q := congrArg AtC.orig (h 9); exact q)
  have e16 : c.clus = d.clus := (by have q := congrArg AtC.clus (h 10); exact q)
  cases c
  cases d
  simp only at e1 e2 e3 e4 e5 e6 e7 e8 e9 e10 e11 e12 e13 e14 e15 e16
  subst e1 e2 e3 e4 e5 e6 e7 e8 e9 e10 e11 e12 e13 e14 e15 e16
  rfl
theorem tab_is {t : Nat} (h : knownT t) (v : ByteArray) (four : Bool) (c d : AtC) : (tab t v four c).2 = (tab t v four d).2 := by
  rcases h with rfl | rfl | rfl | rfl | rfl | rfl | rfl | rfl | rfl | rfl | rfl | rfl
  · rw [tab_1, tab_1]; unfold take1; split <;> rfl
  · rw [tab_2, tab_2]; unfold take2; split <;> rfl
  · rfl
  · rw [tab_4, tab_4]; unfold take4; split <;> rfl
  · rw [tab_5, tab_5]; unfold take5; split <;> rfl
  · rfl
  · rw [tab_7, tab_7]; unfold take7; split <;> rfl
  · rw [tab_8, tab_8]; unfold take8; split <;> rfl
  · rw [tab_9, tab_9]; unfold take9; split <;> rfl
  · rw [tab_10, tab_10]; unfold take10; split <;> rfl
  · rw [tab_16, tab_16]; unfold take16; split <;> rfl
  · rw [tab_32, tab_32]; unfold take32; split <;> rfl
theorem tab_same {t : Nat} (h : knownT t) (v : ByteArray) (four : Bool) (c d : AtC) (hg : grp t c = grp t d) : grp t (tab t v four c).1 = grp t (tab t v four d).1 := by
  rcases h with rfl | rfl | rfl | rfl | rfl | rfl | rfl | rfl | rfl | rfl | rfl | rfl
  · rw [tab_1, tab_1]; unfold take1; split; rfl; exact hg
  · rw [tab_2, tab_2]; unfold take2; split <;> rfl
  · rfl
  · rw [tab_4, tab_4]; unfold take4; split; rfl; exact hg
  · rw [tab_5, tab_5]; unfold take5; split; rfl; exact hg
  · rfl
  · rw [tab_7, tab_7]; unfold take7; split; rfl; exact hg
  · rw [tab_8, tab_8]; unfold take8; split <;> rfl
  · rw [tab_9, tab_9]; unfold take9; split; rfl; exact hg
  · rw [tab_10, tab_10]; unfold take10; split; exact hg; rfl
  · rw [tab_16, tab_16]; unfold take16; split <;> rfl
  · rw [tab_32, tab_32]; unfold take32; split <;> rfl
theorem grp_cases (P : Nat → Prop) (h1 : P 1) (h2 : P 2) (h3 : P 3) (h4 : P 4) (h5 : P 5) (h6 : P 6) (h7 : P 7) (h8 : P 8) (h9 : P 9) (h10 : P 10) (h16 : P 16) (h32 : P 32) (h0 : ∀ s, ¬ knownT s → P s) (s : Nat) : P s := by
  by_cases h : knownT s
  · rcases h with rfl | rfl | rfl | rfl | rfl | rfl | rfl | rfl | rfl | rfl | rfl | rfl <;> assumption
  · exact h0 s h
theorem tab_other {t : Nat} (h : knownT t) (v : ByteArray) (four : Bool) (c : AtC) (s : Nat) (hs : s ≠ t) : grp s (tab t v four c).1 = grp s c := by
  rcases h with rfl | rfl | rfl | rfl | rfl | rfl | rfl | rfl | rfl | rfl | rfl | rfl
  · rw [tab_1]; unfold take1; split
    · revert hs; refine grp_cases (fun s => s ≠ 1 → grp s _ = grp s c) ?_ ?_ ?_ ?_ ?_ ?_ ?_ ?_ ?_ ?_ ?_ ?_ (fun s hn _ => by rw [grp_no hn, grp_no hn]) s <;> intro hs <;> first | exact absurd rfl hs | rfl
    · rfl
  · rw [tab_2]; unfold take2; split <;> (revert hs; refine grp_cases (fun s => s ≠ 2 → grp s _ = grp s c) ?_ ?_ ?_ ?_ ?_ ?_ ?_ ?_ ?_ ?_ ?_ ?_ (fun s hn _ => by rw [grp_no hn, grp_no hn]) s <;> intro hs <;> first | exact absurd rfl hs | rfl)
  · rw [tab_3]; unfold take3; revert hs; refine grp_cases (fun s => s ≠ 3 → grp s _ = grp s c) ?_ ?_ ?_ ?_ ?_ ?_ ?_ ?_ ?_ ?_ ?_ ?_ (fun s hn _ => by rw [grp_no hn, grp_no hn]) s <;> intro hs <;> first | exact absurd rfl hs | rfl
  · rw [tab_4]; unfold take4; split
    · revert hs; refine grp_cases (fun s => s ≠ 4 → grp s _ = grp s c) ?_ ?_ ?_ ?_ ?_ ?_ ?_ ?_ ?_ ?_ ?_ ?_ (fun s hn _ => by rw [grp_no hn, grp_no hn]) s <;> intro hs <;> first | exact absurd rfl hs | rfl
    · rfl
  · rw [tab_5]; unfold take5; split
    · revert hs; refine grp_cases (fun s => s ≠ 5 → grp s _ = grp s c) ?_ ?_ ?_ ?_ ?_ ?_ ?_ ?_ ?_ ?_ ?_ ?_ (fun s hn _ => by rw [grp_no hn, grp_no hn]) s <;> intro hs <;> first | exact absurd rfl hs | rfl
    · rfl
  · rw [tab_6]; unfold take6; revert hs; refine grp_cases (fun s => s ≠ 6 → grp s _ = grp s c) ?_ ?_ ?_ ?_ ?_ ?_ ?_ ?_ ?_ ?_ ?_ ?_ (fun s hn _ => by rw [grp_no hn, grp_no hn]) s <;> intro hs <;> first | exact absurd rfl hs | rfl
  · rw [tab_7]; unfold take7; split
    · revert hs; refine grp_cases (fun s => s ≠ 7 → grp s _ = grp s c) ?_ ?_ ?_ ?_ ?_ ?_ ?_ ?_ ?_ ?_ ?_ ?_ (fun s hn _ => by rw [grp_no hn, grp_no hn]) s <;> intro hs <;> first | exact absurd rfl hs | rfl
    · rfl
  · rw [tab_8]; unfold take8; split <;> (revert hs; refine grp_cases (fun s => s ≠ 8 → grp s _ = grp s c) ?_ ?_ ?_ ?_ ?_ ?_ ?_ ?_ ?_ ?_ ?_ ?_ (fun s hn _ => by rw [grp_no hn, grp_no hn]) s <;> intro hs <;> first | exact absurd rfl hs | rfl)
  · rw [tab_9]; unfold take9; split
    · revert hs; refine grp_cases (fun s => s ≠ 9 → grp s _ = grp s c) ?_ ?_ ?_ ?_ ?_ ?_ ?_ ?_ ?_ ?_ ?_ ?_ (fun s hn _ => by rw [grp_no hn, grp_no hn]) s <;> intro hs <;> first | exact absurd rfl hs | rfl
    · rfl
  · rw [tab_10]; unfold take10; split
    · rfl
    · revert hs; refine grp_cases (fun s => s ≠ 10 → grp s _ = grp s c) ?_ ?_ ?_ ?_ ?_ ?_ ?_ ?_ ?_ ?_ ?_ ?_ (fun s hn _ => by rw [grp_no hn, grp_no hn]) s <;> intro hs <;> first | exact absurd rfl hs | rfl
  · rw [tab_16]; unfold take16; split <;> (revert hs; refine grp_cases (fun s => s ≠ 16 → grp s _ = grp s c) ?_ ?_ ?_ ?_ ?_ ?_ ?_ ?_ ?_ ?_ ?_ ?_ (fun s hn _ => by rw [grp_no hn, grp_no hn]) s <;> intro hs <;> first | exact absurd rfl hs | rfl)
  · rw [tab_32]; unfold take32; split <;> (revert hs; refine grp_cases (fun s => s ≠ 32 → grp s _ = grp s c) ?_ ?_ ?_ ?_ ?_ ?_ ?_ ?_ ?_ ?_ ?_ ?_ (fun s hn _ => by rw [grp_no hn, grp_no hn]) s <;> intro hs <;> first | exact absurd rfl hs | rfl)
/-- what a raw attribute does to attributes, where none ahead has its type -/
def effC (four internal : Bool) (x : Rw) (c : AtC) : AtC :=
  if x.t.toNat = 14 ∨ x.t.toNat = 15 then c
  else match rowF x.t.toNat with
    | none => c
    | some (b, wrong, inside, _) => if (inside && !internal) = true then c
      else if ((x.f &&& 192).toNat : Int) ≠ b then c
      else (tab x.t.toNat x.v four c).1
/-- what it adds to the verdict -/
def effV (four internal : Bool) (x : Rw) : Option Vd :=
  if x.t.toNat = 14 ∨ x.t.toNat = 15 then none
  else match rowF x.t.toNat with
    | none => if x.f &&& 128 = 0 then some ⟨3, 3, 2⟩ else none
    | some (b, wrong, inside, _) => if (inside && !internal) = true then some ⟨1, 0, 0⟩
      else if ((x.f &&& 192).toNat : Int) ≠ b then some ⟨2, 0, 0⟩
      else if (tab x.t.toNat x.v four noC).2 = true then none else some ⟨wrong, 0, 0⟩
def jo (v : Vd) : Option Vd → Vd
  | none => v
  | some x => judgeF v x
theorem step_unmet {four internal : Bool} {met : List UInt8} {c : AtC} {v : Vd} {x : Rw} (h : met.contains x.t = false) : readStep tab four internal met c v x = (effC four internal x c, jo v (effV four internal x)) := by
  unfold readStep effC effV
  by_cases h1 : x.t.toNat = 14 ∨ x.t.toNat = 15
  · rw [if_pos h1, if_pos h1, if_pos h1, h]
    rfl
  · rw [if_neg h1, if_neg h1, if_neg h1, h]
    rw [if_neg (by simp)]
    cases hr : rowF x.t.toNat with
    | none =>
      dsimp only
      split <;> rfl
    | some p =>
      obtain ⟨b, wr, i, f⟩ := p
      dsimp only
      split
      · rfl
      · split
        · rfl
        · rw [tab_is (row_known hr) x.v four c noC]
          split <;> rfl
theorem step_met {four internal : Bool} {met : List UInt8} {c : AtC} {v : Vd} {x : Rw} (h : met.contains x.t = true) (h1 : ¬ (x.t.toNat = 14 ∨ x.t.toNat = 15)) : readStep tab four internal met c v x = (c, v) := by
  unfold readStep
  rw [if_neg h1, if_pos h]
theorem eff_other {four internal : Bool} {x : Rw} {c : AtC} {s : Nat} (hs : s ≠ x.t.toNat) : grp s (effC four internal x c) = grp s c := by
  unfold effC
  split
  · rfl
  · cases hr : rowF x.t.toNat with
    | none => rfl
    | some p =>
      obtain ⟨b, wr, i, f⟩ := p
      dsimp only
      split
      · rfl
      · split
        · rfl
        · exact tab_other (row_known hr) _ _ _ _ hs
theorem eff_same {four internal : Bool} {x : Rw} {c d : AtC} (h : grp x.t.toNat c = grp x.t.toNat d) : grp x.t.toNat (effC four internal x c) = grp x.t.toNat (effC four internal x d) := by
  unfold effC
  split
  · exact h
  · cases hr : rowF x.t.toNat with
    | none => exact h
    | some p =>
      obtain ⟨b, wr, i, f⟩ := p
      dsimp only
      split
      · exact h
      · split
        · exact h
        · exact tab_same (row_known hr) _ _ _ _ h
/-- of unlike types, and none that is laid elsewhere -/
def Unlike : List Rw → Prop
  | [] => True
  | x :: r => ¬ (x.t.toNat = 14 ∨ x.t.toNat = 15) ∧ (∀ y ∈ r, y.t ≠ x.t) ∧ Unlike r
theorem Unlike.some {L : List Rw} (h : Unlike L) : ∀ x ∈ L, ¬ (x.t.toNat = 14 ∨ x.t.toNat = 15) := by
  induction L with
  | nil => intro x hx; cases hx
  | cons a r ih =>
    intro x hx
    rcases List.mem_cons.1 hx with rfl | hx
    · exact h.1
    · exact ih h.2.2 x hx
theorem unlike_snoc : ∀ {L : List Rw} {x : Rw}, Unlike L → ¬ (x.t.toNat = 14 ∨ x.t.toNat = 15) → (∀ y ∈ L, x.t ≠ y.t) → Unlike (L ++ [x])
  | [], x, _, h1, _ => ⟨h1, (fun y hy => by cases hy), trivial⟩
  | a :: r, x, h, h1, h2 => ⟨h.1, fun y hy => by
      rcases List.mem_append.1 hy with hy | hy
      · exact h.2.1 y hy
      · rw [List.mem_singleton.1 hy]; exact h2 a (List.mem_cons_self ..), unlike_snoc h.2.2 h1 (fun y hy => h2 y (List.mem_cons_of_mem _ hy))⟩
theorem unlike_rev : ∀ {L : List Rw}, Unlike L → Unlike L.reverse
  | [], _ => trivial
  | a :: r, h => by
    rw [List.reverse_cons]
    exact unlike_snoc (unlike_rev h.2.2) h.1 (fun y hy e => h.2.1 y (List.mem_reverse.1 hy) e.symm)
theorem tnat_ne {a b : UInt8} (h : a ≠ b) : a.toNat ≠ b.toNat := fun e => h (UInt8.toNat_inj.1 e)
theorem read_grp {four internal : Bool} : ∀ (L : List Rw) (met : List UInt8) (c : AtC) (v : Vd), Unlike L → (∀ x ∈ L, met.contains x.t = false) → (∀ x ∈ L, grp x.t.toNat c = grp x.t.toNat noC) → ∀ s, grp s (readF tab four internal met c v L).1 = (match L.find? (fun x => x.t.toNat == s) with
    | some x => grp s (effC four internal x noC)
    | none => grp s c)
  | [], met, c, v, _, _, _, s => rfl
  | x :: r, met, c, v, hU, hm, hg, s => by
    have hst := step_unmet (four := four) (internal := internal) (c := c) (v := v) (hm x (List.mem_cons_self ..))
    have ih := read_grp (four := four) (internal := internal) r (x.t :: met) (effC four internal x c) (jo v (effV four internal x)) hU.2.2 (fun y hy => by
      rw [List.contains_cons, hm y (List.mem_cons_of_mem _ hy), Bool.or_false, beq_eq_false_iff_ne]
      exact hU.2.1 y hy) (fun y hy => by
      rw [eff_other (tnat_ne (hU.2.1 y hy))]
      exact hg y (List.mem_cons_of_mem _ hy)) s
    show grp s (readF tab four internal (x.t :: met) (readStep tab four internal met c v x).1 (readStep tab four internal met c v x).2 r).1 = _
    rw [hst, ih, List.find?_cons]
    by_cases e : x.t.toNat = s
    · have e2 : (x.t.toNat == s) = true := beq_iff_eq.2 e
      rw [e2]
      have hn : r.find? (fun x => x.t.toNat == s) = none := by
        rw [List.find?_eq_none]
        intro y hy h2
        exact tnat_ne (hU.2.1 y hy) ((beq_iff_eq.1 h2).trans e.symm)
      rw [hn]
      dsimp only
      rw [← e]
      exact eff_same (hg x (List.mem_cons_self ..))
    · have e2 : (x.t.toNat == s) = false := beq_eq_false_iff_ne.2 e
      rw [e2]
      cases hf : r.find? (fun x => x.t.toNat == s) with
      | none =>
        dsimp only
        exact eff_other (fun q => e q.symm)
      | some y => rfl
theorem find_rev {L : List Rw} (h : Unlike L) (s : Nat) : L.reverse.find? (fun x => x.t.toNat == s) = L.find? (fun x => x.t.toNat == s) := by
  induction L with
  | nil => rfl
  | cons a r ih =>
    rw [List.reverse_cons, List.find?_append, List.find?_cons, ih h.2.2]
    by_cases e : a.t.toNat = s
    · have e2 : (a.t.toNat == s) = true := beq_iff_eq.2 e
      have hn : r.find? (fun x => x.t.toNat == s) = none := by
        rw [List.find?_eq_none]
        intro y hy h2
        exact tnat_ne (h.2.1 y hy) ((beq_iff_eq.1 h2).trans e.symm)
      rw [hn, e2]
      simp [List.find?_cons, e2]
    · have e2 : (a.t.toNat == s) = false := beq_eq_false_iff_ne.2 e
      rw [e2]
      simp [List.find?_cons, e2]
theorem turned_c {four internal : Bool} {L : List Rw} (h : Unlike L) : (readF tab four internal [] noC ⟨0, 0, 0⟩ L.reverse).1 = (readF tab four internal [] noC ⟨0, 0, 0⟩ L).1 :=
  grp_ext fun s => by
    rw [read_grp L.reverse [] noC _ (unlike_rev h) (fun _ _ => rfl) (fun _ _ => rfl) s, read_grp L [] noC _ h (fun _ _ => rfl) (fun _ _ => rfl) s, find_rev h]
def actO : Option Vd → Int
  | none => 0
  | some x => x.act
theorem jo_act (v : Vd) (o : Option Vd) (h : 0 ≤ v.act) : (jo v o).act = max v.act (actO o) := by
  cases o with
  | none => show v.act = max v.act 0; omega
  | some x =>
    show (judgeF v x).act = max v.act x.act
    unfold judgeF
    split <;> omega
def supA (four internal : Bool) : List Rw → Int
  | [] => 0
  | x :: r => max (actO (effV four internal x)) (supA four internal r)
theorem supA_nonneg (four internal : Bool) : ∀ L, 0 ≤ supA four internal L
  | [] => Int.le_refl _
  | x :: r => by
    have := supA_nonneg four internal r
    show 0 ≤ max _ _
    omega
theorem supA_snoc (four internal : Bool) (x : Rw) : ∀ L, supA four internal (L ++ [x]) = max (actO (effV four internal x)) (supA four internal L)
  | [] => rfl
  | y :: r => by
    have := supA_snoc four internal x r
    show max _ (supA four internal (r ++ [x])) = max _ (max _ _)
    rw [this]
    omega
theorem supA_rev (four internal : Bool) : ∀ L, supA four internal L.reverse = supA four internal L
  | [] => rfl
  | y :: r => by
    rw [List.reverse_cons, supA_snoc, supA_rev four internal r]
    rfl
theorem read_act {four internal : Bool} : ∀ (L : List Rw) (met : List UInt8) (c : AtC) (v : Vd), Unlike L → (∀ x ∈ L, met.contains x.t = false) → 0 ≤ v.act → (readF tab four internal met c v L).2.act = max v.act (supA four internal L)
  | [], met, c, v, _, _, h0 => by
    show v.act = max v.act 0
    omega
  | x :: r, met, c, v, hU, hm, h0 => by
    have hst := step_unmet (four := four) (internal := internal) (c := c) (v := v) (hm x (List.mem_cons_self ..))
    have hj := jo_act v (effV four internal x) h0
    have ih := read_act (four := four) (internal := internal) r (x.t :: met) (effC four internal x c) (jo v (effV four internal x)) hU.2.2 (fun y hy => by
      rw [List.contains_cons, hm y (List.mem_cons_of_mem _ hy), Bool.or_false, beq_eq_false_iff_ne]
      exact hU.2.1 y hy) (by rw [hj]; omega)
    show (readF tab four internal (x.t :: met) (readStep tab four internal met c v x).1 (readStep tab four internal met c v x).2 r).2.act = max _ (max _ _)
    rw [hst, ih, hj]
    omega
theorem turned_act {four internal : Bool} {L : List Rw} (h : Unlike L) : (readF tab four internal [] noC ⟨0, 0, 0⟩ L.reverse).2.act = (readF tab four internal [] noC ⟨0, 0, 0⟩ L).2.act := by
  rw [read_act L.reverse [] noC _ (unlike_rev h) (fun _ _ => rfl) (Int.le_refl _), read_act L [] noC _ h (fun _ _ => rfl) (Int.le_refl _), supA_rev]
theorem read_app {T : Nat → ByteArray → Bool → AtC → AtC × Bool} {four internal : Bool} : ∀ (A B : List Rw) (met : List UInt8) (c : AtC) (v : Vd), readF T four internal met c v (A ++ B) = readF T four internal ((A.map (·.t)).reverse ++ met) (readF T four internal met c v A).1 (readF T four internal met c v A).2 B
  | [], B, met, c, v => rfl
  | x :: r, B, met, c, v => by
    show readF T four internal (x.t :: met) _ _ (r ++ B) = _
    rw [read_app r B, List.map_cons, List.reverse_cons, List.append_assoc]
    rfl
theorem read_met {four internal : Bool} : ∀ (L : List Rw) (met : List UInt8) (c : AtC) (v : Vd), (∀ x ∈ L, met.contains x.t = true ∧ ¬ (x.t.toNat = 14 ∨ x.t.toNat = 15)) → readF tab four internal met c v L = (c, v)
  | [], met, c, v, _ => rfl
  | x :: r, met, c, v, h => by
    obtain ⟨h1, h2⟩ := h x (List.mem_cons_self ..)
    show readF tab four internal (x.t :: met) (readStep tab four internal met c v x).1 (readStep tab four internal met c v x).2 r = _
    rw [step_met h1 h2]
    exact read_met r _ _ _ (fun y hy => by
      obtain ⟨q1, q2⟩ := h y (List.mem_cons_of_mem _ hy)
      exact ⟨by rw [List.contains_cons, q1, Bool.or_true], q2⟩)
/-- each, and behind it all so far once more -/
def twN (L : List Rw) : Nat → List Rw
  | 0 => []
  | k + 1 => twN L k ++ ((L.drop k).take 1 ++ L.take (k + 1))
theorem twN_mem {L : List Rw} {x : Rw} : ∀ k, x ∈ twN L k ↔ x ∈ L.take k
  | 0 => by simp [twN]
  | k + 1 => by
    have ih := twN_mem (x := x) (L := L) k
    have e : L.take (k + 1) = L.take k ++ (L.drop k).take 1 := by rw [← List.take_add]
    unfold twN
    rw [List.mem_append, List.mem_append, ih, e, List.mem_append]
    constructor
    · rintro (h | h | h | h)
      · exact .inl h
      · exact .inr h
      · exact .inl h
      · exact .inr h
    · rintro (h | h)
      · exact .inl h
      · exact .inr (.inl h)
theorem unlike_at : ∀ {L : List Rw} {k : Nat} {x y : Rw}, Unlike L → L[k]? = some x → y ∈ L.take k → y.t ≠ x.t
  | [], k, x, y, _, h, _ => by simp at h
  | a :: r, 0, x, y, hU, h, hy => by cases hy
  | a :: r, k + 1, x, y, hU, h, hy => by
    rw [List.getElem?_cons_succ] at h
    rw [List.take_succ_cons] at hy
    rcases List.mem_cons.1 hy with rfl | hy
    · exact fun e => hU.2.1 x (List.mem_of_getElem? h) e.symm
    · exact unlike_at hU.2.2 h hy
theorem types_has {A : List Rw} {t : UInt8} : ((A.map (·.t)).reverse ++ ([] : List UInt8)).contains t = true ↔ ∃ x ∈ A, x.t = t := by
  simp [List.contains_iff_mem]
theorem read_twice {four internal : Bool} {L : List Rw} (h : Unlike L) : ∀ k, readF tab four internal [] noC ⟨0, 0, 0⟩ (twN L k) = readF tab four internal [] noC ⟨0, 0, 0⟩ (L.take k)
  | 0 => rfl
  | k + 1 => by
    have ih := read_twice (four := four) (internal := internal) h k
    have e : L.take (k + 1) = L.take k ++ (L.drop k).take 1 := by rw [← List.take_add]
    have eR : readF tab four internal [] noC ⟨0, 0, 0⟩ (L.take (k + 1)) = readF tab four internal (((L.take k).map (·.t)).reverse ++ []) (readF tab four internal [] noC ⟨0, 0, 0⟩ (L.take k)).1 (readF tab four internal [] noC ⟨0, 0, 0⟩ (L.take k)).2 ((L.drop k).take 1) := by
      rw [e, read_app]
    rw [eR, ← ih]
    show readF tab four internal [] noC ⟨0, 0, 0⟩ (twN L k ++ ((L.drop k).take 1 ++ L.take (k + 1))) = _
    rw [read_app, read_app]
    generalize (readF tab four internal [] noC ⟨0, 0, 0⟩ (twN L k)).1 = c
    generalize (readF tab four internal [] noC ⟨0, 0, 0⟩ (twN L k)).2 = v
    rw [read_met]
    · by_cases hk : k < L.length
      · obtain ⟨x, hx⟩ : ∃ x, L[k]? = some x := ⟨L[k], List.getElem?_eq_getElem hk⟩
        have e1 : (L.drop k).take 1 = [x] := by
          rw [List.drop_eq_getElem_cons hk]
          rw [List.getElem?_eq_getElem hk] at hx
          injection hx with hx
          rw [hx]
          rfl
        rw [e1]
        have m1 : (((twN L k).map (·.t)).reverse ++ ([] : List UInt8)).contains x.t = false := by
          rw [Bool.eq_false_iff]
          intro q
          obtain ⟨y, hy, e2⟩ := types_has.1 q
          exact unlike_at h hx ((twN_mem k).1 hy) e2
        have m2 : (((L.take k).map (·.t)).reverse ++ ([] : List UInt8)).contains x.t = false := by
          rw [Bool.eq_false_iff]
          intro q
          obtain ⟨y, hy, e2⟩ := types_has.1 q
          exact unlike_at h hx hy e2
        show readStep tab four internal _ c v x = readStep tab four internal _ c v x
        rw [step_unmet m1, step_unmet m2]
      · have e1 : (L.drop k).take 1 = [] := by rw [List.drop_eq_nil_of_le (by omega)]; rfl
        rw [e1]
        rfl
    · intro x hx
      exact ⟨by
        have hx2 : x ∈ twN L (k + 1) := (twN_mem (k + 1)).2 hx
        rw [List.contains_iff_mem]
        have hx3 : x ∈ twN L k ∨ x ∈ (L.drop k).take 1 := by
          rw [e] at hx
          rcases List.mem_append.1 hx with q | q
          · exact .inl ((twN_mem k).2 q)
          · exact .inr q
        rw [List.mem_append]
        rcases hx3 with q | q
        · exact .inr (List.mem_append_left _ (List.mem_reverse.2 (List.mem_map_of_mem q)))
        · exact .inl (List.mem_reverse.2 (List.mem_map_of_mem q)), h.some x (List.mem_of_mem_take hx)⟩
end Go.Proofs.YtkcojblflebomaaGreat
set_option linter.unusedVariables false
set_option linter.unusedSimpArgs false
namespace Go.Proofs.YtkcojblflebomaaGreat
open Go.RowKit Go.MapKept Go.Shelf
open Go.Lib hiding intOf

/-- a raw attribute as it comes back -/
def normR (r : Rw) : Rw := ⟨if 255 < r.v.size then set8 r.f else clr8 r.f, r.t, r.v⟩
theorem bit_set (f : UInt8) : bit8 (set8 f).toNat = true := by
  have h : ∀ x : Fin 256, bit8 (set8 (UInt8.ofNat x.val)).toNat = true := by decide +kernel
  have := h ⟨f.toNat, f.toNat_lt⟩
  simpa using this
theorem bit_clr (f : UInt8) : bit8 (clr8 f).toNat = false := by
  have h : ∀ x : Fin 256, bit8 (clr8 (UInt8.ofNat x.val)).toNat = false := by decide +kernel
  have := h ⟨f.toNat, f.toNat_lt⟩
  simpa using this
theorem clr_set (f : UInt8) : clr8 (set8 f) = clr8 f := by
  have h : ∀ x : Fin 256, clr8 (set8 (UInt8.ofNat x.val)) = clr8 (UInt8.ofNat x.val) := by decide +kernel
  have := h ⟨f.toNat, f.toNat_lt⟩
  simpa using this
theorem clr_clr (f : UInt8) : clr8 (clr8 f) = clr8 f := by
  have h : ∀ x : Fin 256, clr8 (clr8 (UInt8.ofNat x.val)) = clr8 (UInt8.ofNat x.val) := by decide +kernel
  have := h ⟨f.toNat, f.toNat_lt⟩
  simpa using this
theorem bts_at (l : List UInt8) (i : Nat) (h : i < (bts l).size) : (bts l)[i] = l[i]'(by rw [← bts_size l]; exact h) := by
  show (bts l).data[i] = _
  exact List.getElem_toArray h
theorem bts_ext (l : List UInt8) (a b : Nat) : (bts l).extract a b = bts ((l.drop a).take (b - a)) := bytes_ext (by rw [ext_list, bts_list, bts_list])
theorem two_val (n : Nat) (h : n < 65536) : beVal [UInt8.ofNat (n / 256), UInt8.ofNat n] = n := by
  simp [beVal]
  omega
theorem one_val (n : Nat) (h : n < 256) : beVal [UInt8.ofNat n] = n := by
  simp [beVal]
  omega
theorem step_raw (r : Rw) (R : List UInt8) (h : r.v.size < 65536) : splitStep (bts (rawB r ++ R)) = some (normR r, bts R) := by
  have hv : r.v.data.toList.length = r.v.size := rfl
  by_cases hl : 255 < r.v.size
  · have hb : rawB r ++ R = set8 r.f :: r.t :: UInt8.ofNat (r.v.size / 256) :: UInt8.ofNat r.v.size :: (r.v.data.toList ++ R) := by rw [rawB_long hl]; simp
    rw [hb]
    have hsz : (bts (set8 r.f :: r.t :: UInt8.ofNat (r.v.size / 256) :: UInt8.ofNat r.v.size :: (r.v.data.toList ++ R))).size = 4 + r.v.size + R.length := by
      rw [bts_size]
      simp [hv]
      omega
    rw [split_flat (sz := 2) (n := r.v.size) (by omega) (by rw [hd_byte0 _ (by omega), bts_at]; show lenSize (set8 r.f).toNat = 2; unfold lenSize; rw [bit_set]; rfl) (by omega) (by
      rw [bts_ext, bts_list]
      exact (two_val _ h).symm), if_neg (by omega)]
    simp only [Option.some.injEq, Prod.mk.injEq]
    refine ⟨?_, ?_⟩
    · unfold normR
      rw [if_pos hl]
      refine Rw.eq_iff.1 ⟨?_, ?_, ?_⟩
      · show (bts _)[0] = _
        rw [bts_at]
        rfl
      · show (bts _)[1] = _
        rw [bts_at]
        rfl
      · show (bts _).extract _ _ = r.v
        rw [bts_ext]
        rw [show 2 + 2 + r.v.size - (2 + 2) = r.v.size by omega]
        show bts ((r.v.data.toList ++ R).take r.v.size) = r.v
        rw [List.take_append_of_le_length (Nat.le_of_eq hv.symm), List.take_of_length_le (Nat.le_of_eq hv), bts_self]
    · rw [hsz, bts_ext]
      congr 1
      rw [show 4 + r.v.size + R.length - (2 + 2 + r.v.size) = R.length by omega, show 2 + 2 + r.v.size = r.v.size + 4 by omega]
      show ((r.v.data.toList ++ R).drop r.v.size).take R.length = R
      rw [← hv, List.drop_left, List.take_length]
  · have hb : rawB r ++ R = clr8 r.f :: r.t :: UInt8.ofNat r.v.size :: (r.v.data.toList ++ R) := by rw [rawB_short hl]; simp
    rw [hb]
    have hsz : (bts (clr8 r.f :: r.t :: UInt8.ofNat r.v.size :: (r.v.data.toList ++ R))).size = 3 + r.v.size + R.length := by
      rw [bts_size]
      simp [hv]
      omega
    rw [split_flat (sz := 1) (n := r.v.size) (by omega) (by rw [hd_byte0 _ (by omega), bts_at]; show lenSize (clr8 r.f).toNat = 1; unfold lenSize; rw [bit_clr]; rfl) (by omega) (by
      rw [bts_ext, bts_list]
      exact (one_val _ (by omega)).symm), if_neg (by omega)]
    simp only [Option.some.injEq, Prod.mk.injEq]
    refine ⟨?_, ?_⟩
    · unfold normR
      rw [if_neg hl]
      refine Rw.eq_iff.1 ⟨?_, ?_, ?_⟩
      · show (bts _)[0] = _
        rw [bts_at]
        rfl
      · show (bts _)[1] = _
        rw [bts_at]
        rfl
      · show (bts _).extract _ _ = r.v
        rw [bts_ext]
        rw [show 2 + 1 + r.v.size - (2 + 1) = r.v.size by omega]
        show bts ((r.v.data.toList ++ R).take r.v.size) = r.v
        rw [List.take_append_of_le_length (Nat.le_of_eq hv.symm), List.take_of_length_le (Nat.le_of_eq hv), bts_self]
    · rw [hsz, bts_ext]
      congr 1
      rw [show 3 + r.v.size + R.length - (2 + 1 + r.v.size) = R.length by omega, show 2 + 1 + r.v.size = r.v.size + 3 by omega]
      show ((r.v.data.toList ++ R).drop r.v.size).take R.length = R
      rw [← hv, List.drop_left, List.take_length]
theorem rawB_pos (r : Rw) : 3 ≤ (rawB r).length := by
  by_cases hl : 255 < r.v.size
  · rw [rawB_long hl]; simp
  · rw [rawB_short hl]; simp
theorem rawB_len (r : Rw) : r.v.size + 3 ≤ (rawB r).length := by
  have hv : r.v.data.toList.length = r.v.size := rfl
  by_cases hl : 255 < r.v.size
  · rw [rawB_long hl, List.length_append, hv]; simp; omega
  · rw [rawB_short hl, List.length_append, hv]; simp; omega
theorem split_lays : ∀ (L : List Rw) (R : List UInt8), (∀ r ∈ L, r.v.size < 65536) → splitA (bts (laysB L ++ R)) = (splitA (bts R)).map (L.map normR ++ ·)
  | [], R, _ => by simp [laysB]
  | r :: L, R, h => by
    have e : laysB (r :: L) ++ R = rawB r ++ (laysB L ++ R) := by simp [laysB]
    rw [e, splitA_step (by rw [bts_size, List.length_append]; have := rawB_pos r; omega) (step_raw r _ (h r (List.mem_cons_self ..))), split_lays L R (fun q hq => h q (List.mem_cons_of_mem _ hq)), Option.map_map]
    congr 1
theorem lays_each {L : List Rw} (h : (laysB L).length ≤ 4077) : ∀ r ∈ L, r.v.size < 65536 := by
  intro r hr
  have h1 : (rawB r).length ≤ (laysB L).length := by
    unfold laysB
    induction L with
    | nil => cases hr
    | cons q M ih =>
      rw [List.flatMap_cons, List.length_append]
      rcases List.mem_cons.1 hr with rfl | hr
      · omega
      · have := ih (by have h2 : (laysB (q :: M)).length = (rawB q).length + (laysB M).length := by unfold laysB; rw [List.flatMap_cons, List.length_append]
                       omega) hr
        omega
  have := rawB_len r
  omega
theorem split_back {L : List Rw} (h : (laysB L).length ≤ 4077) : splitA (bts (laysB L)) = some (L.map normR) := by
  have h2 := split_lays L [] (lays_each h)
  have h3 : splitA (bts []) = some [] := splitA_end (by rw [bts_size]; rfl)
  rw [List.append_nil, h3] at h2
  simpa using h2
theorem split_more {L : List Rw} (h : (laysB L).length ≤ 4077) : splitA (bts (laysB L) ++ ⟨#[64]⟩) = none := by
  rw [show (⟨#[64]⟩ : ByteArray) = bts [64] from rfl, bts_app, split_lays L [64] (lays_each h), splitA_no (by rw [bts_size]; decide) (split_tiny (by rw [bts_size]; decide))]
  rfl
end Go.Proofs.YtkcojblflebomaaGreat
set_option linter.unusedVariables false
set_option linter.unusedSimpArgs false
namespace Go.Proofs.YtkcojblflebomaaGreat
open Go.RowKit Go.MapKept Go.Shelf
open Go.Lib hiding intOf

theorem beVal_part (v size : Nat) (h : v < 256 ^ size) : ∀ k, k ≤ size → beVal (beB v size k) = v / 256 ^ (size - k)
  | 0, _ => by
    show 0 = _
    rw [Nat.sub_zero, Nat.div_eq_of_lt h]
  | k + 1, hk => by
    rw [beB_succ, beVal_snoc, beVal_part v size h k (by omega), UInt8.toNat_ofNat']
    have e1 : size - k = (size - (k + 1)) + 1 := by omega
    have e2 : (2 : Nat) ^ (8 * (size - 1 - k)) = 256 ^ (size - (k + 1)) := by
      rw [show (256 : Nat) = 2 ^ 8 from rfl, ← Nat.pow_mul, show size - (k + 1) = size - 1 - k by omega]
    rw [e1, e2, Nat.pow_succ, ← Nat.div_div_eq_div_mul]
    generalize v / 256 ^ (size - (k + 1)) = q
    omega
theorem beVal_beB (v k : Nat) (h : v < 256 ^ k) : beVal (beB v k k) = v := by
  rw [beVal_part v k h k (Nat.le_refl _), Nat.sub_self, Nat.pow_zero, Nat.div_one]
theorem hd_cat (v k : Nat) (R : List UInt8) (h : v < 256 ^ k) : hd (bts (beB v k k ++ R)) k = v := by
  unfold hd
  rw [bts_list, List.take_append_of_le_length (by rw [beB_len]; exact Nat.le_refl _), List.take_of_length_le (by rw [beB_len]; exact Nat.le_refl _), beVal_beB v k h]
theorem nx_cat (l R : List UInt8) (k : Nat) (h : l.length = k) : nx (bts (l ++ R)) k = bts R := bytes_ext (by rw [nx_list, bts_list, bts_list, ← h, List.drop_left])
theorem asN_words : ∀ (l : List Nat) (R : List UInt8), (∀ n ∈ l, n < 4294967296) → asN 4 l.length (bts (wordsB l ++ R)) = l ∧ nxN 4 l.length (bts (wordsB l ++ R)) = bts R
  | [], R, _ => ⟨rfl, by simp [wordsB]; rfl⟩
  | n :: r, R, h => by
    have e : wordsB (n :: r) ++ R = beB n 4 4 ++ (wordsB r ++ R) := by simp [wordsB]
    have ih := asN_words r R (fun m hm => h m (List.mem_cons_of_mem _ hm))
    have h1 : hd (bts (beB n 4 4 ++ (wordsB r ++ R))) 4 = n := hd_cat n 4 _ (Nat.lt_of_lt_of_le (h n (List.mem_cons_self ..)) (by decide))
    have h2 : nx (bts (beB n 4 4 ++ (wordsB r ++ R))) 4 = bts (wordsB r ++ R) := nx_cat _ _ 4 (beB_len ..)
    rw [e]
    refine ⟨?_, ?_⟩
    · show hd _ 4 :: asN 4 r.length (nx _ 4) = _
      rw [h1, h2, ih.1]
    · show nxN 4 r.length (nx _ 4) = _
      rw [h2, ih.2]
theorem as_words (l : List Nat) : l.flatMap (asB true) = wordsB l := by
  unfold wordsB
  congr 1
theorem pd_seg (s : Int × List Nat) (R : List UInt8) (hs : segOk s = true) (hf : ∀ n ∈ s.2, n < 4294967296) : pdStep 4 (bts (segB true s ++ R)) = some (s, bts R) := by
  obtain ⟨h1, h2, h3, h4⟩ := segOk_parts hs
  have e : segB true s ++ R = beB s.1.toNat 1 1 ++ (beB s.2.length 1 1 ++ (wordsB s.2 ++ R)) := by
    unfold segB
    rw [as_words]
    simp [List.append_assoc]
  have hk : s.1.toNat < 256 ^ 1 := by omega
  have hl : s.2.length < 256 ^ 1 := by omega
  have a1 := hd_cat s.1.toNat 1 (beB s.2.length 1 1 ++ (wordsB s.2 ++ R)) hk
  have a2 : nx (bts (beB s.1.toNat 1 1 ++ (beB s.2.length 1 1 ++ (wordsB s.2 ++ R)))) 1 = bts (beB s.2.length 1 1 ++ (wordsB s.2 ++ R)) := nx_cat _ _ 1 (beB_len ..)
  have a3 := hd_cat s.2.length 1 (wordsB s.2 ++ R) hl
  have a4 : nx (bts (beB s.2.length 1 1 ++ (wordsB s.2 ++ R))) 1 = bts (wordsB s.2 ++ R) := nx_cat _ _ 1 (beB_len ..)
  have a5 := asN_words s.2 R hf
  have a6 : (bts (wordsB s.2 ++ R)).size = 4 * s.2.length + R.length := by rw [bts_size, List.length_append, words_len]
  have a7 : (bts (beB s.1.toNat 1 1 ++ (beB s.2.length 1 1 ++ (wordsB s.2 ++ R)))).size = 2 + (4 * s.2.length + R.length) := by
    rw [bts_size, List.length_append, List.length_append, List.length_append, beB_len, beB_len, words_len]
    omega
  rw [e]
  unfold pdStep
  rw [if_neg (by omega), a2, a3, a4, a6, if_neg (by omega), a1, a5.1, a5.2]
  have a8 : ((s.1.toNat : Nat) : Int) = s.1 := Int.toNat_of_nonneg (by omega)
  rw [a8]
theorem pd_path : ∀ (l : List (Int × List Nat)) (R : List UInt8), (∀ s ∈ l, segOk s = true) → (∀ s ∈ l, ∀ n ∈ s.2, n < 4294967296) → pdA 4 (bts (pathB true l ++ R)) = (pdA 4 (bts R)).map (l ++ ·)
  | [], R, _, _ => by simp [pathB]
  | s :: r, R, h, hf => by
    have e : pathB true (s :: r) ++ R = segB true s ++ (pathB true r ++ R) := by simp [pathB]
    have hsz : 0 < (bts (segB true s ++ (pathB true r ++ R))).size := by
      rw [bts_size, List.length_append]
      unfold segB
      rw [List.length_append, List.length_append, beB_len]
      omega
    rw [e, pdA_step hsz (pd_seg s _ (h s (List.mem_cons_self ..)) (hf s (List.mem_cons_self ..))), pd_path r R (fun q hq => h q (List.mem_cons_of_mem _ hq)) (fun q hq => hf q (List.mem_cons_of_mem _ hq)), Option.map_map]
    congr 1
theorem dec_path (l : List (Int × List Nat)) (h : pathOk l = true) (hf : ∀ s ∈ l, ∀ n ∈ s.2, n < 4294967296) : decP true (bts (pathB true l)) = some l := by
  have h1 := pd_path l [] (pathOk_parts h).2 hf
  have h2 : pdA 4 (bts []) = some [] := pdA_end (by rw [bts_size]; rfl)
  rw [List.append_nil, h2] at h1
  have h3 : pdA 4 (bts (pathB true l)) = some l := by simpa using h1
  unfold decP
  show (match pdA 4 (bts (pathB true l)) with
    | none => none
    | some l => if pathOk l = true then some l else none) = some l
  rw [h3]
  exact if_pos h
end Go.Proofs.YtkcojblflebomaaGreat
set_option linter.unusedVariables false
set_option linter.unusedSimpArgs false
namespace Go.Proofs.YtkcojblflebomaaGreat
open Go.RowKit Go.MapKept Go.Shelf
open Go.Lib hiding intOf
open Go.Sort hiding Below

theorem rise_pair {α : Type} {lt : α → α → Bool} (hS : SWO lt) : ∀ l : List α, riseB lt l = true → l.Pairwise (fun a b => lt a b = true)
  | [], _ => List.Pairwise.nil
  | [a], _ => List.pairwise_singleton _ _
  | a :: b :: r, h => by
    rw [riseB, Bool.and_eq_true] at h
    have ih := rise_pair hS (b :: r) h.2
    refine List.Pairwise.cons (fun x hx => ?_) ih
    rcases List.mem_cons.1 hx with rfl | hx
    · exact h.1
    · exact hS.trans a b x h.1 ((List.pairwise_cons.1 ih).1 x hx)
theorem srt_same {α : Type} {lt : α → α → Bool} (hS : SWO lt) (l : List α) (h : riseB lt l = true) : srt lt l = l := by
  refine List.mergeSort_of_pairwise ?_
  refine (rise_pair hS l h).imp (fun {a b} hab => ?_)
  simp only [Bool.not_eq_true']
  exact hS.asymmA hab
theorem readC_back {α : Type} [DecidableEq α] {S : Nat} {one : ByteArray → α} {lt : α → α → Bool} (hS : SWO lt) (l : List α) (v : ByteArray) (h0 : 0 < S) (hp : 0 < l.length) (hv : v.size = l.length * S) (ho : oneN S one l.length v = l) (hr : riseB lt l = true) (hl : l.length ≤ 64) : readC S one lt v = some l := by
  have h1 : v.size / S = l.length := by rw [hv]; exact Nat.mul_div_cancel _ h0
  have h2 : v.size % S = 0 := by rw [hv]; exact Nat.mul_mod_left _ _
  have h3 : 0 < v.size := by rw [hv]; exact Nat.mul_pos hp h0
  unfold readC
  rw [if_neg (by omega), h1, ho, srt_same hS l hr, dd_same lt hS.irrefl l hr, if_neg (by omega)]
theorem one_words : ∀ (l : List Nat) (R : List UInt8), (∀ n ∈ l, n < 4294967296) → oneN 4 (fun s => hd s 4) l.length (bts (wordsB l ++ R)) = l
  | [], R, _ => rfl
  | n :: r, R, h => by
    have e : wordsB (n :: r) ++ R = beB n 4 4 ++ (wordsB r ++ R) := by simp [wordsB]
    rw [e]
    show hd _ 4 :: oneN 4 _ r.length (nx _ 4) = _
    rw [hd_cat n 4 _ (Nat.lt_of_lt_of_le (h n (List.mem_cons_self ..)) (by decide)), nx_cat _ _ 4 (beB_len ..), one_words r R (fun m hm => h m (List.mem_cons_of_mem _ hm))]
theorem one_exts : ∀ (l : List Nat) (R : List UInt8), (∀ n ∈ l, n < 18446744073709551616) → oneN 8 (fun s => hd s 8) l.length (bts (extsB l ++ R)) = l
  | [], R, _ => rfl
  | n :: r, R, h => by
    have e : extsB (n :: r) ++ R = beB n 8 8 ++ (extsB r ++ R) := by simp [extsB]
    rw [e]
    show hd _ 8 :: oneN 8 _ r.length (nx _ 8) = _
    rw [hd_cat n 8 _ (Nat.lt_of_lt_of_le (h n (List.mem_cons_self ..)) (by decide)), nx_cat _ _ 8 (beB_len ..), one_exts r R (fun m hm => h m (List.mem_cons_of_mem _ hm))]
theorem one_larges : ∀ (l : List Lg) (R : List UInt8), (∀ x ∈ l, x.g < 4294967296 ∧ x.a < 4294967296 ∧ x.b < 4294967296) → oneN 12 lg12 l.length (bts (largesB l ++ R)) = l
  | [], R, _ => rfl
  | x :: r, R, h => by
    obtain ⟨h1, h2, h3⟩ := h x (List.mem_cons_self ..)
    have e : largesB (x :: r) ++ R = beB x.g 4 4 ++ (beB x.a 4 4 ++ (beB x.b 4 4 ++ (largesB r ++ R))) := by simp [largesB]
    have a1 := hd_cat x.g 4 (beB x.a 4 4 ++ (beB x.b 4 4 ++ (largesB r ++ R))) (Nat.lt_of_lt_of_le h1 (by decide))
    have a2 : nx (bts (beB x.g 4 4 ++ (beB x.a 4 4 ++ (beB x.b 4 4 ++ (largesB r ++ R))))) 4 = _ := nx_cat _ _ 4 (beB_len ..)
    have a3 := hd_cat x.a 4 (beB x.b 4 4 ++ (largesB r ++ R)) (Nat.lt_of_lt_of_le h2 (by decide))
    have a4 : nx (bts (beB x.g 4 4 ++ (beB x.a 4 4 ++ (beB x.b 4 4 ++ (largesB r ++ R))))) 8 = bts (beB x.b 4 4 ++ (largesB r ++ R)) := by
      rw [← List.append_assoc]
      exact nx_cat _ _ 8 (by rw [List.length_append, beB_len, beB_len])
    have a5 := hd_cat x.b 4 (largesB r ++ R) (Nat.lt_of_lt_of_le h3 (by decide))
    have a6 : nx (bts (beB x.g 4 4 ++ (beB x.a 4 4 ++ (beB x.b 4 4 ++ (largesB r ++ R))))) 12 = bts (largesB r ++ R) := by
      rw [← List.append_assoc, ← List.append_assoc]
      exact nx_cat _ _ 12 (by rw [List.length_append, List.length_append, beB_len, beB_len, beB_len])
    rw [e]
    show lg12 _ :: oneN 12 lg12 r.length (nx _ 12) = _
    rw [a6, one_larges r R (fun y hy => h y (List.mem_cons_of_mem _ hy))]
    unfold lg12
    rw [a1, a2, a3, a4, a5]
theorem larges_len (l : List Lg) : (largesB l).length = l.length * 12 := by
  induction l with
  | nil => rfl
  | cons a r ih =>
    have e : largesB (a :: r) = beB a.g 4 4 ++ (beB a.a 4 4 ++ (beB a.b 4 4 ++ largesB r)) := by simp [largesB]
    rw [e, List.length_append, List.length_append, List.length_append, ih, beB_len, beB_len, beB_len, List.length_cons]
    omega
theorem norm_flags (f : UInt8) (t : UInt8) (v : ByteArray) : (normR ⟨f, t, v⟩).f &&& 192 = f &&& 192 := by
  have h1 : ∀ x : Fin 256, (set8 (UInt8.ofNat x.val)) &&& 192 = UInt8.ofNat x.val &&& 192 := by decide +kernel
  have h2 : ∀ x : Fin 256, (clr8 (UInt8.ofNat x.val)) &&& 192 = UInt8.ofNat x.val &&& 192 := by decide +kernel
  have e : UInt8.ofNat f.toNat = f := by simp
  have h3 := h1 ⟨f.toNat, f.toNat_lt⟩
  have h4 := h2 ⟨f.toNat, f.toNat_lt⟩
  rw [e] at h3 h4
  show (if 255 < v.size then set8 f else clr8 f) &&& 192 = _
  split
  · exact h3
  · exact h4
/-- one that is written, read -/
theorem opt_step {met : List UInt8} {c0 c1 : AtC} {v0 : Vd} {is : Bool} {f t : UInt8} {v : ByteArray} {b wr : Int} {i : Bool} {fn : FuncId} (hrow : rowF t.toNat = some (b, wr, i, fn)) (hf : ((f &&& 192).toNat : Int) = b) (ht : ¬ (t.toNat = 14 ∨ t.toNat = 15)) (hm : ∀ x ∈ met, x.toNat < t.toNat)
    (hT : is = true → tab t.toNat v true c0 = (c1, true)) (hN : is = false → c1 = c0) (R : List Rw) :
    ∃ met', (∀ x ∈ met', x.toNat ≤ t.toNat) ∧ readF tab true true met c0 v0 ((optR is f t v).map normR ++ R) = readF tab true true met' c1 v0 R := by
  cases is with
  | false =>
    rw [hN rfl]
    exact ⟨met, fun x hx => Nat.le_of_lt (hm x hx), rfl⟩
  | true =>
    have hc : met.contains t = false := by
      rw [Bool.eq_false_iff]
      intro q
      have := hm t (List.contains_iff_mem.1 q)
      omega
    have hs := step_unmet (four := true) (internal := true) (c := c0) (v := v0) (x := normR ⟨f, t, v⟩) hc
    have h1 : effC true true (normR ⟨f, t, v⟩) c0 = c1 := by
      unfold effC
      show (if t.toNat = 14 ∨ t.toNat = 15 then c0 else match rowF t.toNat with
        | none => c0
        | some (b, wrong, inside, _) => if (inside && !true) = true then c0 else if (((normR ⟨f, t, v⟩).f &&& 192).toNat : Int) ≠ b then c0 else (tab t.toNat v true c0).1) = c1
      rw [if_neg ht, hrow]
      dsimp only
      rw [if_neg (by simp), norm_flags, if_neg (fun q => q hf), hT rfl]
    have h2 : effV true true (normR ⟨f, t, v⟩) = none := by
      unfold effV
      show (if t.toNat = 14 ∨ t.toNat = 15 then none else match rowF t.toNat with
        | none => if (normR ⟨f, t, v⟩).f &&& 128 = 0 then some (⟨3, 3, 2⟩ : Vd) else none
        | some (b, wrong, inside, _) => if (inside && !true) = true then some ⟨1, 0, 0⟩ else if (((normR ⟨f, t, v⟩).f &&& 192).toNat : Int) ≠ b then some ⟨2, 0, 0⟩ else if (tab t.toNat v true noC).2 = true then none else some ⟨wrong, 0, 0⟩) = none
      rw [if_neg ht, hrow]
      dsimp only
      rw [if_neg (by simp), norm_flags, if_neg (fun q => q hf), tab_is (row_known hrow) v true noC c0, hT rfl]
      rfl
    refine ⟨t :: met, fun x hx => ?_, ?_⟩
    · rcases List.mem_cons.1 hx with rfl | hx
      · exact Nat.le_refl _
      · exact Nat.le_of_lt (hm x hx)
    · show readF tab true true (t :: met) (readStep tab true true met c0 v0 (normR ⟨f, t, v⟩)).1 (readStep tab true true met c0 v0 (normR ⟨f, t, v⟩)).2 R = _
      rw [hs, h1, h2]
      rfl
/-- the numbers of attributes fit -/
structure FitC (c : AtC) : Prop where
  p : ∀ s ∈ c.path, ∀ n ∈ s.2, n < 4294967296
  m : ∀ n ∈ c.comms, n < 4294967296
  x : ∀ n ∈ c.exts, n < 18446744073709551616
  l : ∀ x ∈ c.larges, x.g < 4294967296 ∧ x.a < 4294967296 ∧ x.b < 4294967296
  k : ∀ n ∈ c.clus, n < 4294967296
  n : c.med < 4294967296 ∧ c.pref < 4294967296 ∧ c.aggAs < 4294967296 ∧ c.aggId < 4294967296 ∧ c.orig < 4294967296
theorem hd_bts (n k : Nat) (h : n < 256 ^ k) : hd (bts (beB n k k)) k = n := by
  have := hd_cat n k [] h
  rwa [List.append_nil] at this
def backC (c : AtC) : AtC := { c with next := if c.next.size = 4 then c.next else ⟨#[]⟩ }
theorem lt_of_le_lt {met : List UInt8} {a b : Nat} (h : ∀ x ∈ met, x.toNat ≤ a) (hab : a < b) : ∀ x ∈ met, x.toNat < b := fun x hx => Nat.lt_of_le_of_lt (h x hx) hab
theorem write_back (c : AtC) (hok : atOk c = true) (hf : FitC c) : readF tab true true [] noC ⟨0, 0, 0⟩ ((writeF c true).map normR) = (backC c, ⟨0, 0, 0⟩) := by
  obtain ⟨⟨o0, o2⟩, hp, hn, hs, hl⟩ := (atOk_iff c).1 hok
  obtain ⟨l1, ⟨m1, m2⟩, ⟨x1, x2⟩, ⟨g1, g2⟩⟩ := (lists_iff c).1 hl
  obtain ⟨s1, s2, s3, s4⟩ := (spare_iff c).1 hs
  obtain ⟨n1, n2, n3, n4, n5⟩ := hf.n
  have e : (writeF c true).map normR = (optR true 64 1 (bts (beB c.origin.toNat 1 1))).map normR ++ ((optR true 64 2 (bts (pathB true c.path))).map normR ++ ((optR (c.next.size == 4) 64 3 c.next).map normR ++ ((optR c.hasMed 128 4 (bts (beB c.med 4 4))).map normR ++ ((optR c.hasPref 64 5 (bts (beB c.pref 4 4))).map normR ++ ((optR c.atomic 64 6 (bts [])).map normR ++ ((optR (decide (0 < c.aggAs)) 192 7 (bts (aggB true c.aggAs ++ beB c.aggId 4 4))).map normR ++ ((optR (decide (0 < c.comms.length)) 192 8 (bts (wordsB c.comms))).map normR ++ ((optR c.hasOrig 128 9 (bts (beB c.orig 4 4))).map normR ++ ((optR (decide (0 < c.clus.length)) 128 10 (bts (wordsB c.clus))).map normR ++ ((optR (decide (0 < c.exts.length)) 192 16 (bts (extsB c.exts))).map normR ++ ((optR (decide (0 < c.larges.length)) 192 32 (bts (largesB c.larges))).map normR ++ []))))))))))) := by
    unfold writeF W1 W2 W3 W4
    simp only [List.map_append, List.append_assoc, List.append_nil]
  have hfin : backC c = ⟨c.origin, c.path, if c.next.size = 4 then c.next else ⟨#[]⟩, c.hasMed, c.med, c.hasPref, c.pref, c.atomic, c.aggAs, c.aggId, c.comms, c.exts, c.larges, c.hasOrig, c.orig, c.clus⟩ := rfl
  have h32 : (4294967296 : Nat) ≤ 256 ^ 4 := by decide
  rw [e]
  obtain ⟨q1, k1, e1⟩ := opt_step (met := []) (c0 := noC) (c1 := ⟨c.origin, [], ⟨#[]⟩, false, 0, false, 0, false, 0, 0, [], [], [], false, 0, []⟩) (v0 := ⟨0, 0, 0⟩) (is := true) (f := 64) (t := 1) (v := bts (beB c.origin.toNat 1 1)) (hrow := rfl) (by decide) (by decide) (fun x hx => by cases hx) (fun _ => by
    refine (tab_1 _ _ _).trans ?_
    unfold take1
    have h1 : hd (bts (beB c.origin.toNat 1 1)) 1 = c.origin.toNat := hd_bts _ _ (by show c.origin.toNat < 256; omega)
    rw [h1, if_pos ⟨by rw [bts_size, beB_len], by omega⟩]
    have h2 : ((c.origin.toNat : Nat) : Int) = c.origin := by omega
    rw [h2]
    rfl) (fun h => by cases h) _
  rw [e1]
  obtain ⟨q2, k2, e2⟩ := opt_step (met := q1) (c0 := ⟨c.origin, [], ⟨#[]⟩, false, 0, false, 0, false, 0, 0, [], [], [], false, 0, []⟩) (c1 := ⟨c.origin, c.path, ⟨#[]⟩, false, 0, false, 0, false, 0, 0, [], [], [], false, 0, []⟩) (v0 := ⟨0, 0, 0⟩) (is := true) (f := 64) (t := 2) (v := bts (pathB true c.path)) (hrow := rfl) (by decide) (by decide) (lt_of_le_lt k1 (by decide)) (fun _ => by
    refine (tab_2 _ _ _).trans ?_
    unfold take2
    rw [dec_path c.path hp hf.p]) (fun h => by cases h) _
  rw [e2]
  obtain ⟨q3, k3, e3⟩ := opt_step (met := q2) (c0 := ⟨c.origin, c.path, ⟨#[]⟩, false, 0, false, 0, false, 0, 0, [], [], [], false, 0, []⟩) (c1 := ⟨c.origin, c.path, if c.next.size = 4 then c.next else ⟨#[]⟩, false, 0, false, 0, false, 0, 0, [], [], [], false, 0, []⟩) (v0 := ⟨0, 0, 0⟩) (is := c.next.size == 4) (f := 64) (t := 3) (v := c.next) (hrow := rfl) (by decide) (by decide) (lt_of_le_lt k2 (by decide)) (fun h => by
    refine (tab_3 _ _ _).trans ?_
    unfold take3
    rw [h, if_pos (by simpa using h)]) (fun h => by rw [if_neg (by simpa using h)]) _
  rw [e3]
  generalize (if c.next.size = 4 then c.next else ⟨#[]⟩) = nn at hfin ⊢
  obtain ⟨q4, k4, e4⟩ := opt_step (met := q3) (c0 := ⟨c.origin, c.path, nn, false, 0, false, 0, false, 0, 0, [], [], [], false, 0, []⟩) (c1 := ⟨c.origin, c.path, nn, c.hasMed, c.med, false, 0, false, 0, 0, [], [], [], false, 0, []⟩) (v0 := ⟨0, 0, 0⟩) (is := c.hasMed) (f := 128) (t := 4) (v := bts (beB c.med 4 4)) (hrow := rfl) (by decide) (by decide) (lt_of_le_lt k3 (by decide)) (fun h => by
    refine (tab_4 _ _ _).trans ?_
    unfold take4
    rw [if_pos (by rw [bts_size, beB_len]), hd_bts _ _ (by omega), h]) (fun h => by
    have hz : c.med = 0 := by rw [h] at s1; simpa using s1
    rw [h, hz]) _
  rw [e4]
  obtain ⟨q5, k5, e5⟩ := opt_step (met := q4) (c0 := ⟨c.origin, c.path, nn, c.hasMed, c.med, false, 0, false, 0, 0, [], [], [], false, 0, []⟩) (c1 := ⟨c.origin, c.path, nn, c.hasMed, c.med, c.hasPref, c.pref, false, 0, 0, [], [], [], false, 0, []⟩) (v0 := ⟨0, 0, 0⟩) (is := c.hasPref) (f := 64) (t := 5) (v := bts (beB c.pref 4 4)) (hrow := rfl) (by decide) (by decide) (lt_of_le_lt k4 (by decide)) (fun h => by
    refine (tab_5 _ _ _).trans ?_
    unfold take5
    rw [if_pos (by rw [bts_size, beB_len]), hd_bts _ _ (by omega), h]) (fun h => by
    have hz : c.pref = 0 := by rw [h] at s2; simpa using s2
    rw [h, hz]) _
  rw [e5]
  obtain ⟨q6, k6, e6⟩ := opt_step (met := q5) (c0 := ⟨c.origin, c.path, nn, c.hasMed, c.med, c.hasPref, c.pref, false, 0, 0, [], [], [], false, 0, []⟩) (c1 := ⟨c.origin, c.path, nn, c.hasMed, c.med, c.hasPref, c.pref, c.atomic, 0, 0, [], [], [], false, 0, []⟩) (v0 := ⟨0, 0, 0⟩) (is := c.atomic) (f := 64) (t := 6) (v := bts []) (hrow := rfl) (by decide) (by decide) (lt_of_le_lt k5 (by decide)) (fun h => by
    refine (tab_6 _ _ _).trans ?_
    unfold take6
    rw [h]
    rfl) (fun h => by rw [h]) _
  rw [e6]
  obtain ⟨q7, k7, e7⟩ := opt_step (met := q6) (c0 := ⟨c.origin, c.path, nn, c.hasMed, c.med, c.hasPref, c.pref, c.atomic, 0, 0, [], [], [], false, 0, []⟩) (c1 := ⟨c.origin, c.path, nn, c.hasMed, c.med, c.hasPref, c.pref, c.atomic, c.aggAs, c.aggId, [], [], [], false, 0, []⟩) (v0 := ⟨0, 0, 0⟩) (is := decide (0 < c.aggAs)) (f := 192) (t := 7) (v := bts (aggB true c.aggAs ++ beB c.aggId 4 4)) (hrow := rfl) (by decide) (by decide) (lt_of_le_lt k6 (by decide)) (fun h => by
    have h0 : 0 < c.aggAs := of_decide_eq_true h
    have a1 : hd (bts (aggB true c.aggAs ++ beB c.aggId 4 4)) 4 = c.aggAs := hd_cat c.aggAs 4 _ (by omega)
    have a2 : nx (bts (aggB true c.aggAs ++ beB c.aggId 4 4)) 4 = bts (beB c.aggId 4 4) := nx_cat _ _ 4 (beB_len ..)
    have a3 : (bts (aggB true c.aggAs ++ beB c.aggId 4 4)).size = 8 := by
      rw [bts_size, List.length_append, beB_len]
      show (beB c.aggAs 4 4).length + 4 = 8
      rw [beB_len]
    refine (tab_7 _ _ _).trans ?_
    unfold take7
    have hz : sizeOf4 true = 4 := rfl
    rw [hz, if_pos ⟨a3, by rw [a1]; omega⟩, a1, a2, hd_bts _ _ (by omega)]) (fun h => by
    have h0 : ¬ 0 < c.aggAs := of_decide_eq_false h
    have z1 : c.aggAs = 0 := by omega
    have z2 : c.aggId = 0 := by rcases s4 with q | q; exact absurd z1 q; exact q
    rw [z1, z2]) _
  rw [e7]
  obtain ⟨q8, k8, e8⟩ := opt_step (met := q7) (c0 := ⟨c.origin, c.path, nn, c.hasMed, c.med, c.hasPref, c.pref, c.atomic, c.aggAs, c.aggId, [], [], [], false, 0, []⟩) (c1 := ⟨c.origin, c.path, nn, c.hasMed, c.med, c.hasPref, c.pref, c.atomic, c.aggAs, c.aggId, c.comms, [], [], false, 0, []⟩) (v0 := ⟨0, 0, 0⟩) (is := decide (0 < c.comms.length)) (f := 192) (t := 8) (v := bts (wordsB c.comms)) (hrow := rfl) (by decide) (by decide) (lt_of_le_lt k7 (by decide)) (fun h => by
    have h0 : 0 < c.comms.length := of_decide_eq_true h
    have a1 := one_words c.comms [] hf.m
    rw [List.append_nil] at a1
    refine (tab_8 _ _ _).trans ?_
    unfold take8
    rw [readC_back swoN c.comms _ (by decide) h0 (by rw [bts_size, words_len, Nat.mul_comm]) a1 m1 m2]) (fun h => by
    have h0 : ¬ 0 < c.comms.length := of_decide_eq_false h
    have z1 : c.comms = [] := List.eq_nil_of_length_eq_zero (by omega)
    rw [z1]) _
  rw [e8]
  obtain ⟨q9, k9, e9⟩ := opt_step (met := q8) (c0 := ⟨c.origin, c.path, nn, c.hasMed, c.med, c.hasPref, c.pref, c.atomic, c.aggAs, c.aggId, c.comms, [], [], false, 0, []⟩) (c1 := ⟨c.origin, c.path, nn, c.hasMed, c.med, c.hasPref, c.pref, c.atomic, c.aggAs, c.aggId, c.comms, [], [], c.hasOrig, c.orig, []⟩) (v0 := ⟨0, 0, 0⟩) (is := c.hasOrig) (f := 128) (t := 9) (v := bts (beB c.orig 4 4)) (hrow := rfl) (by decide) (by decide) (lt_of_le_lt k8 (by decide)) (fun h => by
    refine (tab_9 _ _ _).trans ?_
    unfold take9
    rw [if_pos (by rw [bts_size, beB_len]), hd_bts _ _ (by omega), h]) (fun h => by
    have hz : c.orig = 0 := by rw [h] at s3; simpa using s3
    rw [h, hz]) _
  rw [e9]
  obtain ⟨q10, k10, e10⟩ := opt_step (met := q9) (c0 := ⟨c.origin, c.path, nn, c.hasMed, c.med, c.hasPref, c.pref, c.atomic, c.aggAs, c.aggId, c.comms, [], [], c.hasOrig, c.orig, []⟩) (c1 := ⟨c.origin, c.path, nn, c.hasMed, c.med, c.hasPref, c.pref, c.atomic, c.aggAs, c.aggId, c.comms, [], [], c.hasOrig, c.orig, c.clus⟩) (v0 := ⟨0, 0, 0⟩) (is := decide (0 < c.clus.length)) (f := 128) (t := 10) (v := bts (wordsB c.clus)) (hrow := rfl) (by decide) (by decide) (lt_of_le_lt k9 (by decide)) (fun h => by
    have h0 : 0 < c.clus.length := of_decide_eq_true h
    have a1 := (asN_words c.clus [] hf.k).1
    rw [List.append_nil] at a1
    have a2 : (bts (wordsB c.clus)).size = 4 * c.clus.length := by rw [bts_size, words_len]
    refine (tab_10 _ _ _).trans ?_
    unfold take10
    rw [if_neg (by omega), show (bts (wordsB c.clus)).size / 4 = c.clus.length by omega, a1]) (fun h => by
    have h0 : ¬ 0 < c.clus.length := of_decide_eq_false h
    have z1 : c.clus = [] := List.eq_nil_of_length_eq_zero (by omega)
    rw [z1]) _
  rw [e10]
  obtain ⟨q16, k16, e16⟩ := opt_step (met := q10) (c0 := ⟨c.origin, c.path, nn, c.hasMed, c.med, c.hasPref, c.pref, c.atomic, c.aggAs, c.aggId, c.comms, [], [], c.hasOrig, c.orig, c.clus⟩) (c1 := ⟨c.origin, c.path, nn, c.hasMed, c.med, c.hasPref, c.pref, c.atomic, c.aggAs, c.aggId, c.comms, c.exts, [], c.hasOrig, c.orig, c.clus⟩) (v0 := ⟨0, 0, 0⟩) (is := decide (0 < c.exts.length)) (f := 192) (t := 16) (v := bts (extsB c.exts)) (hrow := rfl) (by decide) (by decide) (lt_of_le_lt k10 (by decide)) (fun h => by
    have h0 : 0 < c.exts.length := of_decide_eq_true h
    have a1 := one_exts c.exts [] hf.x
    rw [List.append_nil] at a1
    refine (tab_16 _ _ _).trans ?_
    unfold take16
    rw [readC_back swoN c.exts _ (by decide) h0 (by rw [bts_size, exts_len, Nat.mul_comm]) a1 x1 x2]) (fun h => by
    have h0 : ¬ 0 < c.exts.length := of_decide_eq_false h
    have z1 : c.exts = [] := List.eq_nil_of_length_eq_zero (by omega)
    rw [z1]) _
  rw [e16]
  obtain ⟨q32, k32, e32⟩ := opt_step (met := q16) (c0 := ⟨c.origin, c.path, nn, c.hasMed, c.med, c.hasPref, c.pref, c.atomic, c.aggAs, c.aggId, c.comms, c.exts, [], c.hasOrig, c.orig, c.clus⟩) (c1 := ⟨c.origin, c.path, nn, c.hasMed, c.med, c.hasPref, c.pref, c.atomic, c.aggAs, c.aggId, c.comms, c.exts, c.larges, c.hasOrig, c.orig, c.clus⟩) (v0 := ⟨0, 0, 0⟩) (is := decide (0 < c.larges.length)) (f := 192) (t := 32) (v := bts (largesB c.larges)) (hrow := rfl) (by decide) (by decide) (lt_of_le_lt k16 (by decide)) (fun h => by
    have h0 : 0 < c.larges.length := of_decide_eq_true h
    have a1 := one_larges c.larges [] hf.l
    rw [List.append_nil] at a1
    refine (tab_32 _ _ _).trans ?_
    unfold take32
    rw [readC_back swoL c.larges _ (by decide) h0 (by rw [bts_size, larges_len]) a1 g1 g2]) (fun h => by
    have h0 : ¬ 0 < c.larges.length := of_decide_eq_false h
    have z1 : c.larges = [] := List.eq_nil_of_length_eq_zero (by omega)
    rw [z1]) _
  rw [e32, hfin]
  rfl
end Go.Proofs.YtkcojblflebomaaGreat
set_option linter.unusedVariables false
set_option linter.unusedSimpArgs false
namespace Go.Proofs.YtkcojblflebomaaGreat
open Go.RowKit Go.MapKept Go.Shelf
open Go.Lib hiding intOf
open Go.Sort hiding Below

theorem hd_u64 (v : ByteArray) : hd v 8 < 18446744073709551616 := Nat.lt_of_lt_of_le (hd_lt v 8) (by decide)
set_option maxHeartbeats 4000000 in
theorem cdec_8 (s : ByteArray) (w : World) (hm : (s.size : Int) ≤ 140737488351232) :
    Calls Tryz.prog 83 #[.string s] w fun e w' => RcPost (w.heap.size + 1) 35 1 u1 (readC 4 (fun s => hd s 4) ltN s) w' e ∧ Below w.heap.size w w' := by
  have HC := Lib.hid (cread_u32 s w hm)
  generalize readC 4 (fun s => hd s 4) ltN s = RES at HC ⊢
  go_enter Tryz.func83, Tryz.ntmps83
  go_wp2_with fail
  refine HC.out.mono ?_
  rintro e w1 ⟨hp, hb⟩
  have HB := Lib.hid hb
  clear hb HC
  cases RES with
  | none =>
    obtain ⟨n, rfl, hn⟩ := hp
    go_wp2_with fail
    go_ret2
    exact ⟨⟨n, rfl, hn⟩, HB.out⟩
  | some l =>
    obtain ⟨v, rfl, ho⟩ := hp
    have HO := Lib.hid ho
    clear ho
    go_wp2_with fail
    go_ret2
    exact ⟨⟨v, rfl, HO.out⟩, HB.out⟩
set_option maxHeartbeats 8000000 in
theorem take8s : Takes 82 (fun v _ c => take8 v c) := by
  intro b c v four w h hm
  have HDEC := Lib.hid (cdec_8 v w hm)
  obtain ⟨a, hc, ho, hac⟩ := h.x
  have HC := Lib.hid hc
  have HO := Lib.hid ho
  have HAC := Lib.hid hac
  have hlt := hc.lt
  have HT : Hid (take8 v c = match readC 4 (fun s => hd s 4) ltN v with
    | none => ({ c with comms := [] }, false)
    | some l => ({ c with comms := l }, true)) := rfl
  have HFT : Hid (∀ l, readC 4 (fun s => hd s 4) ltN v = some l → ∀ x ∈ l, (fun n : Nat => n < 4294967296) x) := fun l hl => readC_all (p := (fun n : Nat => n < 4294967296)) (fun s => hd_u32 s) hl
  clear hc ho hac h
  generalize readC 4 (fun s => hd s 4) ltN v = RES at HDEC HT HFT
  show Calls _ _ _ _ fun e w' => e = .returned (.bool (take8 v c).2) ∧ AtVar w' b (take8 v c).1 ∧ Tk w w' b
  generalize take8 v c = res at HT ⊢
  go_enter Tryz.func82, Tryz.ntmps82
  go_wp2_with fail
  refine HDEC.out.mono ?_
  rintro e w1 ⟨hpost, hb⟩
  have HC1 : Hid (CellsAt w1 b a.ar 40) := HC.out.below hb hlt
  have HO1 : Hid (AtO w1 (b + 1) a) := HO.out.below hb
  have HB1 := Lib.hid hb
  obtain ⟨c0, c1, c2, c3, c4, c5, c6, c7, c8, c9, c10, c11, c12, c13, c14, c15⟩ := atr_cells HC1.out
  have cf := HC1.out.unfrozen 10
  clear c0 c1 c2 c3 c4 c5 c6 c7 c8 c9 c11 c12 c13 c14 c15
  clear hb HDEC
  cases RES with
  | none =>
    obtain ⟨n, rfl, hn⟩ := hpost
    have hn0 : (n == 0) = false := beq_eq_false_iff_ne.2 (by omega)
    clear hn
    go_wp2_with fail
    go_ret
    refine ⟨by rw [HT.out]; rfl, ?_, Tk.below_set _ HB1.out hlt⟩
    rw [HT.out]
    exact ⟨⟨{ a with mA := none, comms := [], mC := 0 }, HC1.out.setAt 10 _, { HO1.out.setc with comms := OwnL.nil _ _ _ _ _, mfit := fun x hx => by cases hx }, ⟨by rw [← HAC.out.1]; rfl, HAC.out.2⟩⟩⟩
  | some l =>
    obtain ⟨pv, rfl, hso⟩ := hpost
    obtain ⟨A, cc, rfl⟩ := hso.form
    have HSG : Hid (OwnL w1 (b + 1) 35 1 u1 (.slice A l.length cc) l) := OwnM.lower hso (by omega)
    clear hso
    go_wp2_with fail
    go_ret
    refine ⟨by rw [HT.out]; rfl, ?_, Tk.below_set _ HB1.out hlt⟩
    rw [HT.out]
    exact ⟨⟨{ a with mA := A, comms := l, mC := cc }, HC1.out.setAt 10 _, { HO1.out.setc with comms := HSG.out.keep (fun k h1 _ => Below.heap_setCell w1 _ _ k (by show k ≠ b; omega)), mfit := HFT.out l rfl }, ⟨by rw [← HAC.out.1]; rfl, HAC.out.2⟩⟩⟩
set_option maxHeartbeats 4000000 in
theorem cdec_16 (s : ByteArray) (w : World) (hm : (s.size : Int) ≤ 140737488351232) :
    Calls Tryz.prog 87 #[.string s] w fun e w' => RcPost (w.heap.size + 1) 57 1 x1 (readC 8 (fun s => hd s 8) ltN s) w' e ∧ Below w.heap.size w w' := by
  have HC := Lib.hid (cread_u64 s w hm)
  generalize readC 8 (fun s => hd s 8) ltN s = RES at HC ⊢
  go_enter Tryz.func87, Tryz.ntmps87
  go_wp2_with fail
  refine HC.out.mono ?_
  rintro e w1 ⟨hp, hb⟩
  have HB := Lib.hid hb
  clear hb HC
  cases RES with
  | none =>
    obtain ⟨n, rfl, hn⟩ := hp
    go_wp2_with fail
    go_ret2
    exact ⟨⟨n, rfl, hn⟩, HB.out⟩
  | some l =>
    obtain ⟨v, rfl, ho⟩ := hp
    have HO := Lib.hid ho
    clear ho
    go_wp2_with fail
    go_ret2
    exact ⟨⟨v, rfl, HO.out⟩, HB.out⟩
set_option maxHeartbeats 8000000 in
theorem take16s : Takes 86 (fun v _ c => take16 v c) := by
  intro b c v four w h hm
  have HDEC := Lib.hid (cdec_16 v w hm)
  obtain ⟨a, hc, ho, hac⟩ := h.x
  have HC := Lib.hid hc
  have HO := Lib.hid ho
  have HAC := Lib.hid hac
  have hlt := hc.lt
  have HT : Hid (take16 v c = match readC 8 (fun s => hd s 8) ltN v with
    | none => ({ c with exts := [] }, false)
    | some l => ({ c with exts := l }, true)) := rfl
  have HFT : Hid (∀ l, readC 8 (fun s => hd s 8) ltN v = some l → ∀ x ∈ l, (fun n : Nat => n < 18446744073709551616) x) := fun l hl => readC_all (p := (fun n : Nat => n < 18446744073709551616)) (fun s => hd_u64 s) hl
  clear hc ho hac h
  generalize readC 8 (fun s => hd s 8) ltN v = RES at HDEC HT HFT
  show Calls _ _ _ _ fun e w' => e = .returned (.bool (take16 v c).2) ∧ AtVar w' b (take16 v c).1 ∧ Tk w w' b
  generalize take16 v c = res at HT ⊢
  go_enter Tryz.func86, Tryz.ntmps86
  go_wp2_with fail
  refine HDEC.out.mono ?_
  rintro e w1 ⟨hpost, hb⟩
  have HC1 : Hid (CellsAt w1 b a.ar 40) := HC.out.below hb hlt
  have HO1 : Hid (AtO w1 (b + 1) a) := HO.out.below hb
  have HB1 := Lib.hid hb
  obtain ⟨c0, c1, c2, c3, c4, c5, c6, c7, c8, c9, c10, c11, c12, c13, c14, c15⟩ := atr_cells HC1.out
  have cf := HC1.out.unfrozen 11
  clear c0 c1 c2 c3 c4 c5 c6 c7 c8 c9 c10 c12 c13 c14 c15
  clear hb HDEC
  cases RES with
  | none =>
    obtain ⟨n, rfl, hn⟩ := hpost
    have hn0 : (n == 0) = false := beq_eq_false_iff_ne.2 (by omega)
    clear hn
    go_wp2_with fail
    go_ret
    refine ⟨by rw [HT.out]; rfl, ?_, Tk.below_set _ HB1.out hlt⟩
    rw [HT.out]
    exact ⟨⟨{ a with xA := none, exts := [], xC := 0 }, HC1.out.setAt 11 _, { HO1.out.setc with exts := OwnL.nil _ _ _ _ _, xfit := fun x hx => by cases hx }, ⟨by rw [← HAC.out.1]; rfl, HAC.out.2⟩⟩⟩
  | some l =>
    obtain ⟨pv, rfl, hso⟩ := hpost
    obtain ⟨A, cc, rfl⟩ := hso.form
    have HSG : Hid (OwnL w1 (b + 1) 57 1 x1 (.slice A l.length cc) l) := OwnM.lower hso (by omega)
    clear hso
    go_wp2_with fail
    go_ret
    refine ⟨by rw [HT.out]; rfl, ?_, Tk.below_set _ HB1.out hlt⟩
    rw [HT.out]
    exact ⟨⟨{ a with xA := A, exts := l, xC := cc }, HC1.out.setAt 11 _, { HO1.out.setc with exts := HSG.out.keep (fun k h1 _ => Below.heap_setCell w1 _ _ k (by show k ≠ b; omega)), xfit := HFT.out l rfl }, ⟨by rw [← HAC.out.1]; rfl, HAC.out.2⟩⟩⟩
set_option maxHeartbeats 4000000 in
theorem cdec_32 (s : ByteArray) (w : World) (hm : (s.size : Int) ≤ 140737488351232) :
    Calls Tryz.prog 89 #[.string s] w fun e w' => RcPost (w.heap.size + 1) 59 3 Lg.cs (readC 12 lg12 ltL s) w' e ∧ Below w.heap.size w w' := by
  have HC := Lib.hid (cread_L s w hm)
  generalize readC 12 lg12 ltL s = RES at HC ⊢
  go_enter Tryz.func89, Tryz.ntmps89
  go_wp2_with fail
  refine HC.out.mono ?_
  rintro e w1 ⟨hp, hb⟩
  have HB := Lib.hid hb
  clear hb HC
  cases RES with
  | none =>
    obtain ⟨n, rfl, hn⟩ := hp
    go_wp2_with fail
    go_ret2
    exact ⟨⟨n, rfl, hn⟩, HB.out⟩
  | some l =>
    obtain ⟨v, rfl, ho⟩ := hp
    have HO := Lib.hid ho
    clear ho
    go_wp2_with fail
    go_ret2
    exact ⟨⟨v, rfl, HO.out⟩, HB.out⟩
set_option maxHeartbeats 8000000 in
theorem take32s : Takes 88 (fun v _ c => take32 v c) := by
  intro b c v four w h hm
  have HDEC := Lib.hid (cdec_32 v w hm)
  obtain ⟨a, hc, ho, hac⟩ := h.x
  have HC := Lib.hid hc
  have HO := Lib.hid ho
  have HAC := Lib.hid hac
  have hlt := hc.lt
  have HT : Hid (take32 v c = match readC 12 lg12 ltL v with
    | none => ({ c with larges := [] }, false)
    | some l => ({ c with larges := l }, true)) := rfl
  have HFT : Hid (∀ l, readC 12 lg12 ltL v = some l → ∀ x ∈ l, (fun x : Lg => x.g < 4294967296 ∧ x.a < 4294967296 ∧ x.b < 4294967296) x) := fun l hl => readC_all (p := (fun x : Lg => x.g < 4294967296 ∧ x.a < 4294967296 ∧ x.b < 4294967296)) (fun s => ⟨hd_u32 _, hd_u32 _, hd_u32 _⟩) hl
  clear hc ho hac h
  generalize readC 12 lg12 ltL v = RES at HDEC HT HFT
  show Calls _ _ _ _ fun e w' => e = .returned (.bool (take32 v c).2) ∧ AtVar w' b (take32 v c).1 ∧ Tk w w' b
  generalize take32 v c = res at HT ⊢
  go_enter Tryz.func88, Tryz.ntmps88
  go_wp2_with fail
  refine HDEC.out.mono ?_
  rintro e w1 ⟨hpost, hb⟩
  have HC1 : Hid (CellsAt w1 b a.ar 40) := HC.out.below hb hlt
  have HO1 : Hid (AtO w1 (b + 1) a) := HO.out.below hb
  have HB1 := Lib.hid hb
  obtain ⟨c0, c1, c2, c3, c4, c5, c6, c7, c8, c9, c10, c11, c12, c13, c14, c15⟩ := atr_cells HC1.out
  have cf := HC1.out.unfrozen 12
  clear c0 c1 c2 c3 c4 c5 c6 c7 c8 c9 c10 c11 c13 c14 c15
  clear hb HDEC
  cases RES with
  | none =>
    obtain ⟨n, rfl, hn⟩ := hpost
    have hn0 : (n == 0) = false := beq_eq_false_iff_ne.2 (by omega)
    clear hn
    go_wp2_with fail
    go_ret
    refine ⟨by rw [HT.out]; rfl, ?_, Tk.below_set _ HB1.out hlt⟩
    rw [HT.out]
    exact ⟨⟨{ a with lA := none, larges := [], lC := 0 }, HC1.out.setAt 12 _, { HO1.out.setc with larges := OwnL.nil _ _ _ _ _, lfit := fun x hx => by cases hx }, ⟨by rw [← HAC.out.1]; rfl, HAC.out.2⟩⟩⟩
  | some l =>
    obtain ⟨pv, rfl, hso⟩ := hpost
    obtain ⟨A, cc, rfl⟩ := hso.form
    have HSG : Hid (OwnL w1 (b + 1) 59 3 Lg.cs (.slice A l.length cc) l) := OwnM.lower hso (by omega)
    clear hso
    go_wp2_with fail
    go_ret
    refine ⟨by rw [HT.out]; rfl, ?_, Tk.below_set _ HB1.out hlt⟩
    rw [HT.out]
    exact ⟨⟨{ a with lA := A, larges := l, lC := cc }, HC1.out.setAt 12 _, { HO1.out.setc with larges := HSG.out.keep (fun k h1 _ => Below.heap_setCell w1 _ _ k (by show k ≠ b; omega)), lfit := HFT.out l rfl }, ⟨by rw [← HAC.out.1]; rfl, HAC.out.2⟩⟩⟩
theorem row_is {t : Nat} {b wr b' wr' : Int} {i i' : Bool} {f f' : FuncId} (h : rowF t = some (b, wr, i, f)) (h' : rowF t = some (b', wr', i', f')) : f = f' := by
  rw [h] at h'
  injection h' with h'
  simp only [Prod.mk.injEq] at h'
  exact h'.2.2.2
/-- each type is taken so -/
theorem tab_takes (n : Nat) (b wr : Int) (i : Bool) (f : FuncId) (h : rowF n = some (b, wr, i, f)) : TakesT tab n f := by
  have hk := row_known h
  unfold TakesT
  rcases hk with rfl | rfl | rfl | rfl | rfl | rfl | rfl | rfl | rfl | rfl | rfl | rfl
  · rw [if_neg (by decide), row_is h (show rowF 1 = some (_, _, _, _) from rfl)]
    exact ⟨takes1, fun v four c => by show (take1 v c).1.clus = c.clus; unfold take1; split <;> rfl⟩
  · rw [if_neg (by decide), row_is h (show rowF 2 = some (_, _, _, _) from rfl)]
    exact ⟨takes2, fun v four c => by show (take2 v four c).1.clus = c.clus; unfold take2; split <;> rfl⟩
  · rw [if_neg (by decide), row_is h (show rowF 3 = some (_, _, _, _) from rfl)]
    exact ⟨takes3, fun v four c => rfl⟩
  · rw [if_neg (by decide), row_is h (show rowF 4 = some (_, _, _, _) from rfl)]
    exact ⟨take4s, fun v four c => by show (take4 v c).1.clus = c.clus; unfold take4; split <;> rfl⟩
  · rw [if_neg (by decide), row_is h (show rowF 5 = some (_, _, _, _) from rfl)]
    exact ⟨take5s, fun v four c => by show (take5 v c).1.clus = c.clus; unfold take5; split <;> rfl⟩
  · rw [if_neg (by decide), row_is h (show rowF 6 = some (_, _, _, _) from rfl)]
    exact ⟨take6s, fun v four c => rfl⟩
  · rw [if_neg (by decide), row_is h (show rowF 7 = some (_, _, _, _) from rfl)]
    exact ⟨take7s, fun v four c => by show (take7 v four c).1.clus = c.clus; unfold take7; split <;> rfl⟩
  · rw [if_neg (by decide), row_is h (show rowF 8 = some (_, _, _, _) from rfl)]
    exact ⟨take8s, fun v four c => by show (take8 v c).1.clus = c.clus; unfold take8; split <;> rfl⟩
  · rw [if_neg (by decide), row_is h (show rowF 9 = some (_, _, _, _) from rfl)]
    exact ⟨take9s, fun v four c => by show (take9 v c).1.clus = c.clus; unfold take9; split <;> rfl⟩
  · rw [if_pos rfl, row_is h (show rowF 10 = some (_, _, _, _) from rfl)]
    exact take10s
  · rw [if_neg (by decide), row_is h (show rowF 16 = some (_, _, _, _) from rfl)]
    exact ⟨take16s, fun v four c => by show (take16 v c).1.clus = c.clus; unfold take16; split <;> rfl⟩
  · rw [if_neg (by decide), row_is h (show rowF 32 = some (_, _, _, _) from rfl)]
    exact ⟨take32s, fun v four c => by show (take32 v c).1.clus = c.clus; unfold take32; split <;> rfl⟩
end Go.Proofs.YtkcojblflebomaaGreat
set_option linter.unusedVariables false
set_option linter.unusedSimpArgs false
namespace Go.Proofs.YtkcojblflebomaaGreat
open Go.RowKit Go.MapKept Go.Shelf
open Go.Lib hiding intOf

set_option maxRecDepth 100000 in
set_option maxHeartbeats 4000000 in
theorem write_bad (a : Atr) (four : Bool) (w : World) (h : AtrOk w a) (hno : atOk a.c = false) :
    Calls Tryz.prog 25 #[.agg a.ar, .bool four] w fun e w' => e = .returned (.tuple #[.slice none 0 0, .int .i64 2]) ∧ Below w.heap.size w w' := by
  have HA := Lib.hid h
  have HCK : Hid (∀ W, AtrOk W a → Calls Tryz.prog 26 #[.agg a.ar] W fun e w' => e = .returned (.int .i64 2) ∧ Below W.heap.size W w') := fun W h => by
    have h2 := check_any a W h
    rwa [hno] at h2
  clear h hno
  obtain ⟨V, hV⟩ : ∃ V, V = w.alloc (.cells a.ar 40) := ⟨_, rfl⟩
  have HC : Hid (CellsAt V w.heap.size a.ar 40) := by rw [hV]; exact CellsAt.new _ _ _
  have HB : Hid (Below w.heap.size w V) := by rw [hV]; exact (Below.refl _ _).alloc (Nat.le_refl _) _
  go_enter Tryz.func25, Tryz.ntmps25
  go_upto_region 1 with fail
  rw [← hV]
  clear hV
  go_wp2_with (with_reducible show wpList _ _ _ (_ :: _) _ _; refine wpList_load_attrs rfl (.tmp 2) rfl w.heap.size rfl a HC.out ?_)
  refine (HCK.out _ (HA.out.below HB.out (Nat.le_refl _))).mono ?_
  rintro e V1 ⟨rfl, hb⟩
  have HB1 : Hid (Below w.heap.size w V1) := HB.out.trans (hb.mono HB.out.size)
  clear hb HB HC
  go_wp2_with fail
  go_ret2
  exact ⟨rfl, HB1.out⟩
theorem bts_fits {l : List UInt8} {n : Nat} (h : l.length ≤ n) : (bts l).size ≤ n := by rw [bts_size]; exact h
theorem optR_fits {is : Bool} {f t : UInt8} {v : ByteArray} {n : Nat} (h : v.size ≤ n) : ∀ r ∈ optR is f t v, r.v.size ≤ n := fun r hr => by
  unfold optR at hr
  split at hr
  · rw [List.mem_singleton.1 hr]; exact h
  · cases hr
theorem as_len (four : Bool) : ∀ l : List Nat, (l.flatMap (asB four)).length ≤ 4 * l.length
  | [] => by simp
  | n :: r => by
    rw [List.flatMap_cons, List.length_append, List.length_cons]
    have h1 : (asB four n).length ≤ 4 := by
      unfold asB
      split
      · rw [beB_len]; exact Nat.le_refl _
      · split
        · rw [beB_len]; omega
        · rw [beB_len]; omega
    have h2 := as_len four r
    omega
theorem path_len (four : Bool) : ∀ l : List (Int × List Nat), (∀ s ∈ l, segOk s = true) → (pathB four l).length ≤ 1022 * l.length
  | [], _ => by simp [pathB]
  | s :: r, h => by
    show (segB four s ++ pathB four r).length ≤ _
    rw [List.length_append, List.length_cons]
    have h1 := path_len four r (fun q hq => h q (List.mem_cons_of_mem _ hq))
    have h2 := segOk_parts (h s (List.mem_cons_self ..))
    have h3 : (segB four s).length ≤ 1022 := by
      unfold segB
      rw [List.length_append, List.length_append, beB_len, beB_len]
      have := as_len four s.2
      omega
    omega
theorem writeF_fits {c : AtC} (four : Bool) (h : atOk c = true) : ∀ r ∈ writeF c four, r.v.size ≤ 20000 := by
  have hp := pathOk_parts (atOk_path h).1
  have hk := (atOk_path h).2.2.2
  have hq := path_len four c.path hp.2
  unfold atOk at h
  simp only [Bool.and_eq_true] at h
  have hn := h.1.1.2
  have hL := h.2
  unfold listsOk at hL
  simp only [Bool.and_eq_true, decide_eq_true_eq] at hL
  obtain ⟨⟨⟨_, _, hm⟩, _, hx⟩, _, hl⟩ := hL
  have hns : c.next.size ≤ 16 := by
    unfold nextOk at hn
    simp only [Bool.or_eq_true, beq_iff_eq] at hn
    omega
  intro r hr
  unfold writeF W1 W2 W3 W4 at hr
  simp only [List.mem_append] at hr
  have b1 := beB_len c.origin.toNat 1 1
  have b2 := beB_len c.med 4 4
  have b3 := beB_len c.pref 4 4
  have b4 := beB_len c.orig 4 4
  have ba : (aggB four c.aggAs ++ beB c.aggId 4 4).length ≤ 8 := by
    rw [List.length_append, beB_len]
    have : (aggB four c.aggAs).length ≤ 4 := by
      unfold aggB
      split
      · rw [beB_len]; exact Nat.le_refl _
      · split
        · rw [beB_len]; omega
        · rw [beB_len]; omega
    omega
  have w1 := words_len c.comms
  have w2 := words_len c.clus
  have w3 := exts_len c.exts
  have w4 := lgs_len c.larges
  rcases hr with (((((hr | hr) | hr) | ((hr | hr) | hr)) | ((hr | hr) | hr)) | ((hr | hr) | hr))
  · exact optR_fits (bts_fits (by omega)) r hr
  · exact optR_fits (bts_fits (by omega)) r hr
  · exact optR_fits (by omega) r hr
  · exact optR_fits (bts_fits (by omega)) r hr
  · exact optR_fits (bts_fits (by omega)) r hr
  · exact optR_fits (bts_fits (by simp)) r hr
  · exact optR_fits (bts_fits (by omega)) r hr
  · exact optR_fits (bts_fits (by omega)) r hr
  · exact optR_fits (bts_fits (by omega)) r hr
  · exact optR_fits (bts_fits (by omega)) r hr
  · exact optR_fits (bts_fits (by omega)) r hr
  · exact optR_fits (bts_fits (by omega)) r hr
theorem optR_types (is : Bool) (f t : UInt8) (v : ByteArray) : (optR is f t v).map (fun r => r.t.toNat) = if is = true then [t.toNat] else [] := by
  cases is <;> rfl
/-- the types rise -/
theorem writeF_rise (c : AtC) (four : Bool) : riseB ltN ((writeF c four).map fun r => r.t.toNat) = true := by
  have h : ∀ b3 b4 b5 b6 b7 b8 b9 b10 b16 b32 : Bool, riseB ltN ((if true = true then [(1 : UInt8).toNat] else []) ++ (if true = true then [(2 : UInt8).toNat] else []) ++ (if b3 = true then [(3 : UInt8).toNat] else []) ++ ((if b4 = true then [(4 : UInt8).toNat] else []) ++ (if b5 = true then [(5 : UInt8).toNat] else []) ++ (if b6 = true then [(6 : UInt8).toNat] else [])) ++ ((if b7 = true then [(7 : UInt8).toNat] else []) ++ (if b8 = true then [(8 : UInt8).toNat] else []) ++ (if b9 = true then [(9 : UInt8).toNat] else [])) ++ ((if b10 = true then [(10 : UInt8).toNat] else []) ++ (if b16 = true then [(16 : UInt8).toNat] else []) ++ (if b32 = true then [(32 : UInt8).toNat] else []))) = true := by decide +kernel
  unfold writeF W1 W2 W3 W4
  simp only [List.map_append, optR_types]
  exact h _ _ _ _ _ _ _ _ _ _
theorem optR_flags {is : Bool} {f t : UInt8} {v : ByteArray} (h : clr8 f = f) : ∀ r ∈ optR is f t v, clr8 r.f = r.f := fun r hr => by
  unfold optR at hr
  split at hr
  · rw [List.mem_singleton.1 hr]; exact h
  · cases hr
theorem writeF_flags (c : AtC) (four : Bool) : ∀ r ∈ writeF c four, clr8 r.f = r.f := by
  intro r hr
  unfold writeF W1 W2 W3 W4 at hr
  simp only [List.mem_append] at hr
  rcases hr with (((((hr | hr) | hr) | ((hr | hr) | hr)) | ((hr | hr) | hr)) | ((hr | hr) | hr)) <;> exact optR_flags (by decide) r hr
theorem writeF_len (c : AtC) (four : Bool) : (writeF c four).length ≤ 12 := by
  unfold writeF W1 W2 W3 W4
  simp only [List.length_append]
  have h : ∀ (is : Bool) (f t : UInt8) (v : ByteArray), (optR is f t v).length ≤ 1 := optR_le
  have h1 := h true 64 1 (bts (beB c.origin.toNat 1 1))
  have h2 := h true 64 2 (bts (pathB four c.path))
  have h3 := h (c.next.size == 4) 64 3 c.next
  have h4 := h c.hasMed 128 4 (bts (beB c.med 4 4))
  have h5 := h c.hasPref 64 5 (bts (beB c.pref 4 4))
  have h6 := h c.atomic 64 6 (bts [])
  have h7 := h (decide (0 < c.aggAs)) 192 7 (bts (aggB four c.aggAs ++ beB c.aggId 4 4))
  have h8 := h (decide (0 < c.comms.length)) 192 8 (bts (wordsB c.comms))
  have h9 := h c.hasOrig 128 9 (bts (beB c.orig 4 4))
  have h10 := h (decide (0 < c.clus.length)) 128 10 (bts (wordsB c.clus))
  have h11 := h (decide (0 < c.exts.length)) 192 16 (bts (extsB c.exts))
  have h12 := h (decide (0 < c.larges.length)) 192 32 (bts (largesB c.larges))
  omega
end Go.Proofs.YtkcojblflebomaaGreat
set_option linter.unusedVariables false
set_option linter.unusedSimpArgs false
namespace Go.Proofs.YtkcojblflebomaaGreat
open Go.RowKit Go.MapKept Go.Shelf
open Go.Lib hiding intOf

theorem wp_name {P : Program} {c : Code} {Q : Exit → Act → World → Prop} {a : Act} {w : World} (h : ∀ W, W = w → Code.wp P c Q a W) : Code.wp P c Q a w := h w rfl
def vdV (v : Vd) : Array Value := #[.int .i64 v.act, .int .u8 v.code, .int .u8 v.sub]
/-- two variables, stored into one behind the other -/
def rdW (w : World) (cs xs : Array Value) (v : Vd) : World := (((w.alloc (.cells cs 40)).alloc (.cells #[.int .i64 0, .int .u8 0, .int .u8 0] 42)).setRow w.heap.size xs).setRow (w.heap.size + 1) #[.int .i64 v.act, .int .u8 v.code, .int .u8 v.sub]
theorem rd_z (w : World) (cs : Array Value) : CellsAt ((w.alloc (.cells cs 40)).alloc (.cells #[.int .i64 0, .int .u8 0, .int .u8 0] 42)) w.heap.size cs 40 := (CellsAt.new _ _ _).alloc _
theorem rd_y (w : World) (cs xs : Array Value) : CellsAt (((w.alloc (.cells cs 40)).alloc (.cells #[.int .i64 0, .int .u8 0, .int .u8 0] 42)).setRow w.heap.size xs) (w.heap.size + 1) #[.int .i64 0, .int .u8 0, .int .u8 0] 42 := by
  have h := CellsAt.new (w.alloc (.cells cs 40)) #[.int .i64 0, .int .u8 0, .int .u8 0] 42
  have e5 : (w.alloc (.cells cs 40)).heap.size = w.heap.size + 1 := by simp
  rw [e5] at h
  exact h.row (grown_setRow' _ _ _) (by omega)
theorem rd_a (w : World) (cs xs : Array Value) (v : Vd) : CellsAt (rdW w cs xs v) w.heap.size xs 40 := ((rd_z w cs).setRow' _).row (grown_setRow' _ _ _) (by omega)
theorem rd_v (w : World) (cs xs : Array Value) (v : Vd) : CellsAt (rdW w cs xs v) (w.heap.size + 1) #[.int .i64 v.act, .int .u8 v.code, .int .u8 v.sub] 42 := (rd_y w cs xs).setRow' _
theorem rd_b (w : World) (cs xs : Array Value) (v : Vd) : Below w.heap.size w (rdW w cs xs v) := ((((Below.refl _ _).alloc (Nat.le_refl _) _).alloc (by simp) _).grown (grown_setRow' _ _ _) (by simp; omega) (fun k hk => by cases hk; omega)).grown (grown_setRow' _ _ _) (by rw [setRow_size]; simp; omega) (fun k hk => by cases hk; omega)
theorem rd_size (w : World) (cs xs : Array Value) (v : Vd) : (rdW w cs xs v).heap.size = w.heap.size + 2 := by
  unfold rdW
  rw [setRow_size, setRow_size]
  simp
/-- attr.Read over the whole table -/
theorem read_tab (A : Option Addr) (cap : Nat) (L : List Rw) (four internal : Bool) (w : World) (h : RwsOk w A cap L) (hsz : ∀ r ∈ L, r.v.size ≤ 140737488351232) :
    Calls Tryz.prog 19 #[.slice A L.length cap, .bool four, .bool internal] w fun e w' => (∃ a : Atr, e = .returned (.tuple #[.agg a.ar, .agg #[.int .i64 (readF tab four internal [] noC ⟨0, 0, 0⟩ L).2.act, .int .u8 (readF tab four internal [] noC ⟨0, 0, 0⟩ L).2.code, .int .u8 (readF tab four internal [] noC ⟨0, 0, 0⟩ L).2.sub]]) ∧ AtO w' w.heap.size a ∧ a.c = (if 2 ≤ (readF tab four internal [] noC ⟨0, 0, 0⟩ L).2.act then noC else (readF tab four internal [] noC ⟨0, 0, 0⟩ L).1)) ∧ Below w.heap.size w w' := by
  refine (read_any tab A cap L four internal w h hsz (fun x hx b wr i f hr => tab_takes _ b wr i f hr)).mono ?_
  rintro e w' ⟨⟨a, he, ho, hc⟩, hb⟩
  exact ⟨⟨a, he, ho, hc⟩, hb⟩
theorem check_ok (a : Atr) (w : World) (h : AtrOk w a) (hc : atOk a.c = true) : Calls Tryz.prog 26 #[.agg a.ar] w fun e w' => e = .returned (.int .i64 0) ∧ Below w.heap.size w w' := by
  have h2 := check_any a w h
  rw [hc] at h2
  exact h2
theorem same_yes (a b : Atr) (w : World) (h1 : AtrOk w a) (h2 : AtrOk w b) (hc : a.c = b.c) : Calls Tryz.prog 23 #[.agg a.ar, .agg b.ar] w fun e w' => e = .returned (.bool true) ∧ Below w.heap.size w w' := by
  have h := same_any a b w h1 h2
  rw [decide_eq_true hc] at h
  exact h
theorem wpList_load_attrs_g {ops : Array Oper} {rest : List Oper} {op : Oper} {a : Act} {w : World} {Q : Exit → Act → World → Prop} (hw : Region.wanted op (yielded ops a.tmps) = true) (src : Operand) (ho : op.op = .load 40 src) (b : Nat) (hx : a.eval src = .pointer (some ⟨b, 0, none⟩)) (p : Atr) (hc : CellsAt w b p.ar 40)
    (h : wpList Tryz.prog ops Q rest (a.put op.dst p.v) w) : wpList Tryz.prog ops Q (op :: rest) a w := by
  obtain ⟨fs, hu⟩ := attrs_under
  refine wpList_step fun K hK => ?_
  rw [if_pos hw]
  exact wp_load_mid 40 src ho b 0 hx p.ar.toList _ hc.range hu rfl (by rw [attrs_size]; rfl) (hK _ _ h)
theorem noAtr_ok (w : World) : AtrOk w noAtr := (noAtr_own w 0).ok
end Go.Proofs.YtkcojblflebomaaGreat
set_option linter.unusedVariables false
set_option linter.unusedSimpArgs false
namespace Go.Proofs.YtkcojblflebomaaGreat
open Go.RowKit Go.MapKept Go.Shelf
open Go.Lib hiding intOf

theorem SplitPost.both {base : Nat} {res : Option (List Rw)} {w : World} {e : Ending} (h : SplitPost base res w e) : ∃ A c, e = .returned (.tuple #[.slice A (res.getD []).length c, .bool res.isSome]) ∧ OwnL w base 32 3 Rw.cs (.slice A (res.getD []).length c) (res.getD []) := by
  cases res with
  | none => exact ⟨none, 0, h, OwnL.nil _ _ _ _ _⟩
  | some L =>
    obtain ⟨v, he, ho⟩ := h
    obtain ⟨A, c, rfl⟩ := ho.form
    exact ⟨A, c, he, ho⟩
theorem splitStep_fits {s t : ByteArray} {r : Rw} (h : splitStep s = some (r, t)) : r.v.size ≤ s.size ∧ t.size + 3 + r.v.size ≤ s.size := by
  unfold splitStep at h
  split at h
  · cases h
  · split at h
    · cases h
    · split at h
      · cases h
      · simp only [Option.some.injEq, Prod.mk.injEq] at h
        obtain ⟨rfl, rfl⟩ := h
        simp only [nx_size, ByteArray.size_extract] at *
        have : 1 ≤ lenSize (hd s 1) := by unfold lenSize; split <;> omega
        omega
theorem splitF_fits : ∀ (n : Nat) (s : ByteArray) (L : List Rw), splitF n s = some L → (∀ r ∈ L, r.v.size ≤ s.size) ∧ L.length * 3 ≤ s.size
  | 0, s, L, h => by
    unfold splitF at h
    split at h
    · cases h
      exact ⟨fun r hr => (by cases hr), by simp⟩
    · cases h
  | n + 1, s, L, h => by
    unfold splitF at h
    split at h
    · cases h
      exact ⟨fun r hr => (by cases hr), by simp⟩
    · cases hs : splitStep s with
      | none => rw [hs] at h; cases h
      | some x =>
        obtain ⟨r, t⟩ := x
        rw [hs] at h
        simp only at h
        cases hf : splitF n t with
        | none => rw [hf] at h; cases h
        | some M =>
          rw [hf] at h
          obtain rfl : r :: M = L := Option.some.inj h
          have h1 := splitStep_fits hs
          have h2 := splitF_fits n t M hf
          refine ⟨fun q hq => ?_, by rw [List.length_cons]; omega⟩
          rcases List.mem_cons.1 hq with rfl | hq
          · exact h1.1
          · have := h2.1 q hq
            omega
theorem splitA_fits (s : ByteArray) : (∀ r ∈ (splitA s).getD [], r.v.size ≤ s.size) ∧ ((splitA s).getD []).length * 3 ≤ s.size := by
  cases h : splitA s with
  | none => exact ⟨fun r hr => (by cases hr), by simp⟩
  | some L => exact splitF_fits _ _ _ h
/-- Split, nil or not -/
theorem split_both (s : ByteArray) (w : World) (hm0 : (s.size : Int) ≤ 1048576) (L : List Rw) (b : Bool) (h : splitA s = if b = true then some L else none) (hL : b = false → L = []) :
    Calls Tryz.prog 17 #[.string s] w fun e w' => (∃ A c, e = .returned (.tuple #[.slice A L.length c, .bool b]) ∧ OwnL w' (w.heap.size + 1) 32 3 Rw.cs (.slice A L.length c) L) ∧ Below w.heap.size w w' := by
  refine (split_any s w hm0).mono fun e w' ⟨hp, hb⟩ => ⟨?_, hb⟩
  have h2 := hp.both
  rw [h] at h2
  cases b with
  | true => exact h2
  | false => rw [hL rfl]; exact h2
theorem rsplit_both (s : ByteArray) (w : World) (hm0 : (s.size : Int) ≤ 1048576) (L : List Rw) (b : Bool) (h : splitA s = if b = true then some L else none) (hL : b = false → L = []) :
    Calls Tryz.prog 18 #[.string s] w fun e w' => (∃ A c, e = .returned (.tuple #[.slice A L.length c, .bool b]) ∧ OwnL w' w.heap.size 32 3 Rw.cs (.slice A L.length c) L) ∧ Below w.heap.size w w' := by
  refine (rsplit_any s w hm0).mono fun e w' ⟨hp, hb⟩ => ⟨?_, hb⟩
  have h2 := hp.both
  rw [h] at h2
  cases b with
  | true => exact h2
  | false => rw [hL rfl]; exact h2
theorem split_letters (s : ByteArray) : ∃ (L : List Rw) (b : Bool), splitA s = (if b = true then some L else none) ∧ (b = false → L = []) ∧ (∀ r ∈ L, r.v.size ≤ s.size) ∧ L.length * 3 ≤ s.size := by
  have hf := splitA_fits s
  cases h : splitA s with
  | none => exact ⟨[], false, by simp, fun _ => rfl, fun r hr => (by cases hr), by simp⟩
  | some L =>
    rw [h] at hf
    exact ⟨L, true, by simp, fun h => (by cases h), hf.1, hf.2⟩
end Go.Proofs.YtkcojblflebomaaGreat
set_option linter.unusedVariables false
set_option linter.unusedSimpArgs false
namespace Go.Proofs.YtkcojblflebomaaGreat
open Go.RowKit Go.MapKept Go.Shelf
open Go.ChangeShapes Go.WideShapes Go.ChangeAt
open Go.Lib hiding intOf

theorem AtrOk.fitC {w : World} {a : Atr} (h : AtrOk w a) : FitC a.c :=
  ⟨fun s hs => by
    obtain ⟨q, hq, rfl⟩ := List.mem_map.1 hs
    exact (h.segs q hq).fits, h.mfit, h.xfit, h.lfit, h.kfit, h.nfit⟩
theorem rise_at {L : List Rw} {k : Nat} {x y : Rw} (h : riseB ltN (L.map fun r => r.t.toNat) = true) (hx : L[k]? = some x) (hy : L[k + 1]? = some y) : x.t.toNat < y.t.toNat := by
  have h2 := (riseB_iff ltN _).1 h k x.t.toNat y.t.toNat (by rw [List.getElem?_map, hx]; rfl) (by rw [List.getElem?_map, hy]; rfl)
  unfold ltN at h2
  simpa using h2
theorem bytes_nil {s : ByteArray} (h : s.size = 0) : s = ⟨#[]⟩ := by
  apply ByteArray.ext
  exact Array.eq_empty_of_size_eq_zero h
theorem back_want {c : AtC} (hn : nextOk c.next = true) : (c.next.size = 16 → backC c = { c with next := ⟨#[]⟩ }) ∧ (c.next.size ≠ 16 → backC c = c) := by
  unfold nextOk at hn
  simp only [Bool.or_eq_true, beq_iff_eq] at hn
  unfold backC
  refine ⟨fun h => by rw [if_neg (by omega)], fun h => ?_⟩
  by_cases h4 : c.next.size = 4
  · rw [if_pos h4]
  · rw [if_neg h4, ← bytes_nil (s := c.next) (by omega)]
set_option maxRecDepth 100000 in
set_option maxHeartbeats 16000000 in
theorem back_no (a : Atr) (w : World) (h : AtrOk w a) (hok : atOk a.c = false) :
    Calls Tryz.prog 7 #[.agg a.ar] w fun e w' => e = .returned (.bool true) ∧ Below w.heap.size w w' := by
  have HA := Lib.hid h
  have HWK := Lib.hid works_any
  have HWR : Hid (∀ W, AtrOk W a → Calls Tryz.prog 25 #[.agg a.ar, .bool true] W fun e w' => e = .returned (.tuple #[.slice none 0 0, .int .i64 2]) ∧ Below W.heap.size W w') := fun W h => write_bad a true W h hok
  have HCK : Hid (∀ W, AtrOk W a → Calls Tryz.prog 26 #[.agg a.ar] W fun e w' => e = .returned (.int .i64 2) ∧ Below W.heap.size W w') := fun W h => by
    have h2 := check_any a W h
    rwa [hok] at h2
  clear h hok
  obtain ⟨V, hV⟩ : ∃ V, V = w.alloc (.cells a.ar 40) := ⟨_, rfl⟩
  have HC : Hid (CellsAt V w.heap.size a.ar 40) := by rw [hV]; exact CellsAt.new _ _ _
  have HB : Hid (Below w.heap.size w V) := by rw [hV]; exact (Below.refl _ _).alloc (Nat.le_refl _) _
  go_enter Tryz.func7, Tryz.ntmps7
  go_upto_region 1 with fail
  rw [← hV]
  clear hV
  go_wp2_with fail
  refine (HWK.out _).mono ?_
  rintro e w1 ⟨rfl, hb1⟩
  have HC1 : Hid (CellsAt w1 w.heap.size a.ar 40) := HC.out.below hb1 HC.out.lt
  have HB1 := Lib.hid (HB.out.trans (hb1.mono HB.out.size))
  clear hb1 HB HC
  go_wp2_with (with_reducible show wpList _ _ _ (_ :: _) _ _; refine wpList_load_attrs rfl (.tmp 1) rfl w.heap.size rfl a HC1.out ?_)
  refine (HWR.out _ (HA.out.below HB1.out (Nat.le_refl _))).mono ?_
  rintro e w2 ⟨rfl, hb2⟩
  have HC2 : Hid (CellsAt w2 w.heap.size a.ar 40) := HC1.out.below hb2 HC1.out.lt
  have HB2 := Lib.hid (HB1.out.trans (hb2.mono HB1.out.size))
  clear hb2 HB1 HC1
  go_wp2_with (with_reducible show wpList _ _ _ (_ :: _) _ _; refine wpList_load_attrs_g (by kernel_rfl) (.tmp 1) rfl w.heap.size rfl a HC2.out ?_)
  refine (HCK.out _ (HA.out.below HB2.out (Nat.le_refl _))).mono ?_
  rintro e w3 ⟨rfl, hb3⟩
  have HB3 := Lib.hid (HB2.out.trans (hb3.mono HB2.out.size))
  clear hb3 HB2 HC2
  go_wp2_with fail
  go_ret
  exact ⟨rfl, HB3.out⟩
set_option maxRecDepth 100000 in
set_option maxHeartbeats 16000000 in
theorem back_yes (a : Atr) (w : World) (h : AtrOk w a) (hok : atOk a.c = true) :
    Calls Tryz.prog 7 #[.agg a.ar] w fun e w' => e = .returned (.bool true) ∧ Below w.heap.size w w' := by
  have HA := Lib.hid h
  have HWK := Lib.hid works_any
  have HFIT := Lib.hid (writeF_fits true hok)
  have HFI : Hid (∀ r ∈ writeF a.c true, r.v.size ≤ 9223372036854775807) := fun r hr => by have := HFIT.out r hr; omega
  have HOKW : Hid (∀ {W : World} {base : Nat} {v : Value}, OwnL W base 32 3 Rw.cs v (writeF a.c true) → ∃ A c, v = .slice A (writeF a.c true).length c ∧ RwsOk W A c (writeF a.c true)) := by
    show ∀ {W : World} {base : Nat} {v : Value}, _
    intro W base v ho
    exact OwnL.raws ho HFI.out
  have HWR : Hid (∀ W, AtrOk W a → Calls Tryz.prog 25 #[.agg a.ar, .bool true] W fun e w' => (∃ A c, e = .returned (.tuple #[.slice A (writeF a.c true).length c, .int .i64 0]) ∧ RwsOk w' A c (writeF a.c true)) ∧ Below W.heap.size W w') := fun W h => by
    refine (write_ok a true W h hok (enc_spec hok)).mono ?_
    rintro e w' ⟨⟨v, rfl, ho⟩, hb⟩
    obtain ⟨A, c, rfl, hr⟩ := HOKW.out ho
    exact ⟨⟨A, c, rfl, hr⟩, hb⟩
  have hback := write_back a.c hok h.fitC
  have hwant := back_want (c := a.c) ((atOk_iff a.c).1 hok).2.2.1
  have HRISE := Lib.hid (writeF_rise a.c true)
  have HFLAG := Lib.hid (writeF_flags a.c true)
  have hlen := writeF_len a.c true
  clear HOKW HFI
  generalize writeF a.c true = L at HFIT HWR hback HRISE HFLAG hlen
  obtain ⟨N, hN⟩ : ∃ N, N = L.length := ⟨_, rfl⟩
  rw [← hN] at HWR hlen
  have HLN : Hid (L.length = N) := hN.symm
  have HLA : Hid (∀ A c W, RwsOk W A c L → Calls Tryz.prog 13 #[.slice A N c] W fun e w' => e = .returned (layR L) ∧ Below W.heap.size W w') := fun A c W h => by
    have h2 := lay_any A c L W h
    rwa [← hN] at h2
  obtain ⟨V, hV⟩ : ∃ V, V = w.alloc (.cells a.ar 40) := ⟨_, rfl⟩
  have HC : Hid (CellsAt V w.heap.size a.ar 40) := by rw [hV]; exact CellsAt.new _ _ _
  have HB : Hid (Below w.heap.size w V) := by rw [hV]; exact (Below.refl _ _).alloc (Nat.le_refl _) _
  by_cases hbig : 4077 < (laysB L).length
  · rw [layR_no hbig] at HLA
    clear h hback hwant hN hbig
    go_enter Tryz.func7, Tryz.ntmps7
    go_upto_region 1 with fail
    rw [← hV]
    clear hV
    go_wp2_with fail
    refine (HWK.out _).mono ?_
    rintro e w1 ⟨rfl, hb1⟩
    have HC1 : Hid (CellsAt w1 w.heap.size a.ar 40) := HC.out.below hb1 HC.out.lt
    have HB1 := Lib.hid (HB.out.trans (hb1.mono HB.out.size))
    clear hb1 HB HC
    go_wp2_with (with_reducible show wpList _ _ _ (_ :: _) _ _; refine wpList_load_attrs rfl (.tmp 1) rfl w.heap.size rfl a HC1.out ?_)
    refine (HWR.out _ (HA.out.below HB1.out (Nat.le_refl _))).mono ?_
    rintro e w2 ⟨⟨A, c, rfl, hr⟩, hb2⟩
    have HR := Lib.hid hr
    have HB2 := Lib.hid (HB1.out.trans (hb2.mono HB1.out.size))
    clear hr hb2 HB1 HC1
    go_wp2_with fail
    refine (HLA.out A c _ HR.out).mono ?_
    rintro e w3 ⟨rfl, hb3⟩
    have HB3 := Lib.hid (HB2.out.trans (hb3.mono HB2.out.size))
    clear hb3 HB2 HR
    go_wp2_with fail
    go_ret
    exact ⟨rfl, HB3.out⟩
  have hsmall : (laysB L).length ≤ 4077 := by omega
  rw [layR_ok hsmall] at HLA
  obtain ⟨s, hs⟩ : ∃ s, s = bts (laysB L) := ⟨_, rfl⟩
  have hss : s.size ≤ 4077 := by rw [hs, bts_size]; exact hsmall
  have hs' : (ByteArray.mk (laysB L).toArray) = s := hs.symm
  rw [hs'] at HLA
  have hmn : (L.map normR).length = N := by rw [List.length_map]; exact hN.symm
  have HSP : Hid (∀ W, Calls Tryz.prog 17 #[.string s] W fun e w' => (∃ B c, e = .returned (.tuple #[.slice B N c, .bool true]) ∧ RwsOk w' B c (L.map normR)) ∧ Below W.heap.size W w') := fun W => by
    have h2 := split_both s W (by omega) (L.map normR) true (by rw [if_pos rfl, hs]; exact split_back hsmall) (fun h => by cases h)
    rw [hmn] at h2
    refine h2.mono fun e w' ⟨⟨B, c, he, ho⟩, hb⟩ => ⟨⟨B, c, he, ?_⟩, hb⟩
    rw [← hmn] at ho
    obtain ⟨A2, c2, hv, hok⟩ := OwnL.raws ho (fun r hr => by
      obtain ⟨q, hq, rfl⟩ := List.mem_map.1 hr
      have := lays_each hsmall q hq
      show q.v.size ≤ _
      omega)
    injection hv with e1 e2 e3
    subst e1
    subst e3
    exact hok
  have HRE : Hid (∀ B c W, RwsOk W B c (L.map normR) → Calls Tryz.prog 19 #[.slice B N c, .bool true, .bool true] W fun e w' => (∃ b : Atr, e = .returned (.tuple #[.agg b.ar, .agg #[.int .i64 0, .int .u8 0, .int .u8 0]]) ∧ AtrOk w' b ∧ b.c = backC a.c) ∧ Below W.heap.size W w') := fun B c W h => by
    have h2 := read_tab B c (L.map normR) true true W h (fun r hr => by
      obtain ⟨q, hq, rfl⟩ := List.mem_map.1 hr
      have := HFIT.out q hq
      show q.v.size ≤ _
      omega)
    rw [hback, hmn] at h2
    refine h2.mono ?_
    rintro e w' ⟨⟨b, he, ho, hc⟩, hb⟩
    exact ⟨⟨b, he, ho.ok, hc⟩, hb⟩
  have HSA := Lib.hid same_yes
  have HWANT := Lib.hid hwant
  clear h hback hwant hN hbig hsmall hs hs' hmn hss
  go_enter Tryz.func7, Tryz.ntmps7
  go_upto_region 1 with fail
  rw [← hV]
  clear hV
  go_wp2_with fail
  refine (HWK.out _).mono ?_
  rintro e w1 ⟨rfl, hb1⟩
  have HC1 : Hid (CellsAt w1 w.heap.size a.ar 40) := HC.out.below hb1 HC.out.lt
  have HB1 := Lib.hid (HB.out.trans (hb1.mono HB.out.size))
  clear hb1 HB HC
  go_wp2_with (with_reducible show wpList _ _ _ (_ :: _) _ _; refine wpList_load_attrs rfl (.tmp 1) rfl w.heap.size rfl a HC1.out ?_)
  refine (HWR.out _ (HA.out.below HB1.out (Nat.le_refl _))).mono ?_
  rintro e w2 ⟨⟨A, c, rfl, hr⟩, hb2⟩
  have HR := Lib.hid hr
  have HC2 : Hid (CellsAt w2 w.heap.size a.ar 40) := HC1.out.below hb2 HC1.out.lt
  have HB2 := Lib.hid (HB1.out.trans (hb2.mono HB1.out.size))
  have hcc : N ≤ c := by have := hr.len; have h2 := HLN.out; omega
  have hcm : c ≤ 9223372036854775807 := hr.cap
  clear hr hb2 HB1 HC1
  go_wp2_with fail
  refine (HLA.out A c _ HR.out).mono ?_
  rintro e w3 ⟨rfl, hb3⟩
  have HC3 : Hid (CellsAt w3 w.heap.size a.ar 40) := HC2.out.below hb3 HC2.out.lt
  have HR3 : Hid (RwsOk w3 A c L) := HR.out.below hb3 (Nat.le_refl _)
  have HB3 := Lib.hid (HB2.out.trans (hb3.mono HB2.out.size))
  clear hb3 HB2 HR HC2
  go_wp2_with fail
  refine (HSP.out _).mono ?_
  rintro e w4 ⟨⟨B, d, rfl, hm⟩, hb4⟩
  have HM := Lib.hid hm
  have hdm : N ≤ d := by have := hm.len; rw [List.length_map, HLN.out] at this; exact this
  have hdc : d ≤ 9223372036854775807 := hm.cap
  have HC4 : Hid (CellsAt w4 w.heap.size a.ar 40) := HC3.out.below hb4 HC3.out.lt
  have HR4 : Hid (RwsOk w4 A c L) := HR3.out.below hb4 (Nat.le_refl _)
  have HB4 := Lib.hid (HB3.out.trans (hb4.mono HB3.out.size))
  clear hb4 hm HB3 HR3 HC3
  go_wp2_with fail
  refine (HRE.out B d _ HM.out).mono ?_
  rintro e w5 ⟨⟨b, rfl, hb, hbc⟩, hb5⟩
  have HBB := Lib.hid hb
  have HBC := Lib.hid hbc
  have HM5 : Hid (RwsOk w5 B d (L.map normR)) := HM.out.below hb5 (Nat.le_refl _)
  have HC5 : Hid (CellsAt w5 w.heap.size a.ar 40) := HC4.out.below hb5 HC4.out.lt
  have HR5 : Hid (RwsOk w5 A c L) := HR4.out.below hb5 (Nat.le_refl _)
  have HB5 := Lib.hid (HB4.out.trans (hb5.mono HB4.out.size))
  clear hb hbc hb5 HB4 HR4 HC4 HM
  go_upto_region 11 with (with_reducible show wpList _ _ _ (_ :: _) _ _; first | refine wpList_store_attrs rfl (.tmp 9) (.tmp 47) rfl w5.heap.size rfl b rfl noAtr (rd_z _ _) ?_ | refine wpList_store_verdict rfl (.tmp 10) (.tmp 48) rfl (w5.heap.size + 1) rfl ⟨0, 0, 0⟩ rfl ⟨0, 0, 0⟩ (rd_y _ _ _) ?_)
  refine wp_name fun V hV => ?_
  have HBV5 : Hid (Below w5.heap.size w5 V) := by rw [hV]; exact rd_b _ _ _ ⟨0, 0, 0⟩
  have HCB : Hid (CellsAt V w5.heap.size b.ar 40) := by rw [hV]; exact rd_a _ _ _ ⟨0, 0, 0⟩
  have HVV : Hid (CellsAt V (w5.heap.size + 1) #[.int .i64 0, .int .u8 0, .int .u8 0] 42) := by rw [hV]; exact rd_v _ _ _ ⟨0, 0, 0⟩
  have HCV : Hid (CellsAt V w.heap.size a.ar 40) := HC5.out.below HBV5.out HC5.out.lt
  have HRV : Hid (RwsOk V A c L) := HR5.out.below HBV5.out (Nat.le_refl _)
  have HMV : Hid (RwsOk V B d (L.map normR)) := HM5.out.below HBV5.out (Nat.le_refl _)
  have HBBV : Hid (AtrOk V b) := HBB.out.below HBV5.out (Nat.le_refl _)
  have HBV := Lib.hid (HB5.out.trans (HBV5.out.mono HB5.out.size))
  clear hV HB5 HR5 HC5 HM5 HBB HBV5
  have hlb := HCB.out.lt
  have hlv := HVV.out.lt
  have HAV : Hid (AtrOk V a) := HA.out.below HBV.out (Nat.le_refl _)
  have HVX : Hid (∀ X, Below V.heap.size V X → AtrOk X a ∧ CellsAt X w5.heap.size b.ar 40 ∧ CellsAt X (w5.heap.size + 1) #[.int .i64 0, .int .u8 0, .int .u8 0] 42 ∧ RwsOk X A c L ∧ RwsOk X B d (L.map normR) ∧ AtrOk X b ∧ Below w.heap.size w X) := fun X h => ⟨HAV.out.below h (Nat.le_refl _), HCB.out.below h hlb, HVV.out.below h hlv, HRV.out.below h (Nat.le_refl _), HMV.out.below h (Nat.le_refl _), HBBV.out.below h (Nat.le_refl _), HBV.out.trans (h.mono HBV.out.size)⟩
  have HW0 : Hid (∀ cs : Array Value, CellsAt (V.alloc (.cells cs 40)) V.heap.size cs 40) := fun cs => CellsAt.new _ _ _
  go_upto_region 12 with (with_reducible show wpList _ _ _ (_ :: _) _ _; first | refine wpList_load_attrs rfl (.tmp 1) rfl w.heap.size rfl a HCV.out ?_ | refine wpList_store_attrs rfl (.tmp 11) (.tmp 49) rfl V.heap.size rfl a rfl noAtr (HW0.out _) ?_)
  refine wp_name fun U hU => ?_
  have HBU0 : Hid (Below V.heap.size V U) := by
    rw [hU]
    exact ((Below.refl _ _).alloc (Nat.le_refl _) _).grown (grown_setRow' _ _ _) (by simp) (fun k hk => by cases hk; omega)
  have HWU : Hid (CellsAt U V.heap.size a.ar 40) := by rw [hU]; exact (HW0.out _).setRow' _
  have HCBU : Hid (CellsAt U w5.heap.size b.ar 40) := HCB.out.below HBU0.out hlb
  have HVU : Hid (CellsAt U (w5.heap.size + 1) #[.int .i64 0, .int .u8 0, .int .u8 0] 42) := HVV.out.below HBU0.out hlv
  have HCU : Hid (CellsAt U w.heap.size a.ar 40) := HCV.out.below HBU0.out HCV.out.lt
  have HRU : Hid (RwsOk U A c L) := HRV.out.below HBU0.out (Nat.le_refl _)
  have HMU : Hid (RwsOk U B d (L.map normR)) := HMV.out.below HBU0.out (Nat.le_refl _)
  have HBBU : Hid (AtrOk U b) := HBBV.out.below HBU0.out (Nat.le_refl _)
  have HAU : Hid (AtrOk U a) := HAV.out.below HBU0.out (Nat.le_refl _)
  have HBU := Lib.hid (HBV.out.trans (HBU0.out.mono HBV.out.size))
  have hul := HWU.out.lt
  clear HBV HRV HMV HBBV HCB HVV HAV HBU0 HW0 HCV
  obtain ⟨g, hg⟩ : ∃ g, g = V.heap.size := ⟨_, rfl⟩
  have HBUV : Hid (Below V.heap.size V U) := by rw [hU]; exact ((Below.refl _ _).alloc (Nat.le_refl _) _).grown (grown_setRow' _ _ _) (by simp) (fun k hk => by cases hk; omega)
  rw [← hg] at HWU hul hlb hlv HVX HBUV ⊢
  clear hg hU
  have c2 := (atr_cells HCU.out).2.2.1
  have d2 := (atr_cells HWU.out).2.2.1
  have df := HWU.out.unfrozen 2
  go_upto_if 53 with fail
  go_cut [12] (fun v wx => v = v ∧ ∃ q : Atr, Hid (CellsAt wx g q.ar 40) ∧ Hid (AtrOk wx q) ∧ Hid (b.c = q.c) ∧ Hid (CellsAt wx w5.heap.size b.ar 40) ∧ Hid (CellsAt wx (w5.heap.size + 1) #[.int .i64 0, .int .u8 0, .int .u8 0] 42) ∧ Hid (RwsOk wx A c L) ∧ Hid (RwsOk wx B d (L.map normR)) ∧ Hid (AtrOk wx b) ∧ Hid (Below w.heap.size w wx))
  case first =>
    by_cases h16 : a.next.size = 16
    · have hz : ((a.next.size : Int) == 16) = true := beq_iff_eq.2 (by omega)
      have HQ := Lib.hid (HWANT.out.1 h16)
      clear h16
      have HGB : Hid (Below g V (U.setCell ⟨g, 2, none⟩ (.string ⟨#[]⟩))) := HBUV.out.setCell (Nat.le_refl g) _
      go_wp2_with fail
      go_meet
      obtain ⟨x1, x2, x3, x4, x5, x6, x7⟩ := HVX.out _ HGB.out
      exact ⟨trivial, { a with next := ⟨#[]⟩ }, HWU.out.setAt 2 _, { x1 with next := by show (0 : Nat) ≤ 9223372036854775807; omega }, HBC.out.trans HQ.out, x2, x3, x4, x5, x6, x7⟩
    · have hz : ((a.next.size : Int) == 16) = false := beq_eq_false_iff_ne.2 (by omega)
      have HQ := Lib.hid (HWANT.out.2 h16)
      clear h16
      go_wp2_with fail
      go_meet
      exact ⟨trivial, a, HWU.out, HAU.out, HBC.out.trans HQ.out, HCBU.out, HVU.out, HRU.out, HMU.out, HBBU.out, HBU.out⟩
  case rest =>
  obtain ⟨_, q, HWQ, HAQ, HQC, HBQ, HVQ, HRQ, HMQ, HBO, HBW⟩ := hcut
  clear HWU HAU HCBU HVU HRU HMU HBBU HBU HCU c2 d2 df HVX HBUV
  obtain ⟨e0, e1, e2⟩ := CellsAt.c3 HVQ.out
  go_wp2_with (with_reducible show wpList _ _ _ (_ :: _) _ _; first | refine wpList_load_attrs_g (by kernel_rfl) (.tmp 9) rfl w5.heap.size rfl b HBQ.out ?_ | refine wpList_load_attrs_g (by kernel_rfl) (.tmp 11) rfl g rfl q HWQ.out ?_)
  refine (HSA.out b q _ HBO.out HAQ.out HQC.out).mono ?_
  rintro e w6 ⟨rfl, hb6⟩
  have HR6 : Hid (RwsOk w6 A c L) := HRQ.out.below hb6 (Nat.le_refl _)
  have HM6 : Hid (RwsOk w6 B d (L.map normR)) := HMQ.out.below hb6 (Nat.le_refl _)
  have HB6 := Lib.hid (HBW.out.trans (hb6.mono HBW.out.size))
  clear hb6 HRQ HMQ HBO HBW HBQ HVQ HWQ HAQ HQC e0 e1 e2
  have zN : ((N : Int) != (N : Int)) = false := by simp
  go_wp2_with fail
  go_loopw [12] (fun i wr => ∃ k : Nat, i = .int .i64 k ∧ Hid (Below w6.heap.size w6 wr)) (fun i _ => N + 1 - (intOf i).toNat)
  case atStart => exact ⟨0, rfl, Below.refl _ _⟩
  case round =>
    obtain ⟨k, rfl, HBR⟩ := hrel
    by_cases hlt : k < N
    · obtain ⟨x, hx⟩ : ∃ x, L[k]? = some x := ⟨L[k]'(by rw [HLN.out]; exact hlt), List.getElem?_eq_getElem _⟩
      have hy : (L.map normR)[k]? = some (normR x) := by rw [List.getElem?_map, hx]; rfl
      have HMk := Lib.hid (HM6.out.below HBR.out (Nat.le_refl _)).rd
      obtain ⟨b1, o1, hA1, hb1, p0, p1, p2⟩ := rw_at (HR6.out.below HBR.out (Nat.le_refl _)).rd hx
      obtain ⟨b2, o2, hB2, hb2, q0, q1, q2⟩ := rw_at HMk.out hy
      change _ = some (Value.int .u8 x.t.toNat) at q1
      change _ = some (Value.string x.v) at q2
      have hfl : clr8 x.f = x.f := HFLAG.out x (List.mem_of_getElem? hx)
      obtain ⟨nf, hnf⟩ : ∃ nf, nf = (normR x).f := ⟨_, rfl⟩
      rw [← hnf] at q0
      have zc1 := clr_bits nf
      have hcc : clr8 nf = x.f := by
        rw [hnf, ← hfl]
        show clr8 (if 255 < x.v.size then set8 x.f else clr8 x.f) = _
        split
        · exact clr_set _
        · exact clr_clr _
      rw [hcc] at zc1
      have HX := Lib.hid hx
      clear hcc hy hnf hfl hx
      have he1 : ((x.t.toNat : Int) == (x.t.toNat : Int)) = true := by simp
      have hn1 : ((x.t.toNat : Int) != (x.t.toNat : Int)) = false := by simp
      have he2 : (x.v.toList == x.v.toList) = true := bytes_eq.2 rfl
      have he3 : ((x.f.toNat : Int) == (x.f.toNat : Int)) = true := by simp
      have hn3 : ((x.f.toNat : Int) != (x.f.toNat : Int)) = false := by simp
      by_cases hk0 : k = 0
      · have hk00 : ¬ (0 : Int) < (k : Int) := by omega
        have hk01 : decide ((0 : Int) < (k : Int)) = false := decide_eq_false hk00
        have hk02 : ¬ 0 < k := by omega
        have hk03 : decide (0 < k) = false := decide_eq_false hk02
        clear HX HMk hk0
        subst hA1
        subst hB2
        go_wp2_with fail
        go_quiet (fail)
        go_wp2_with fail
        exact ⟨⟨k + 1, by go_num, below_drewN HBR.out _⟩, by simp [intOf]; omega⟩
      · obtain ⟨j, rfl⟩ : ∃ j, k = j + 1 := ⟨k - 1, by omega⟩
        obtain ⟨y, hy⟩ : ∃ y, L[j]? = some y := ⟨L[j]'(by rw [HLN.out]; omega), List.getElem?_eq_getElem _⟩
        have hrise : y.t.toNat < x.t.toNat := rise_at HRISE.out hy HX.out
        have hz : (L.map normR)[j]? = some (normR y) := by rw [List.getElem?_map, hy]; rfl
        obtain ⟨b3, o3, hB3, hb3, s0, s1, s2⟩ := rw_at HMk.out hz
        change _ = some (Value.int .u8 y.t.toNat) at s1
        clear s0 s2 hz hy HX HMk
        subst hA1
        subst hB2
        simp only [Option.some.injEq, Addr.mk.injEq, and_true] at hB3
        obtain ⟨rfl, rfl⟩ := hB3
        have hv1 : IntKind.i64.wrap (((j + 1 : Nat) : Int) - 1) = j := by rw [show ((j + 1 : Nat) : Int) - 1 = j by omega]; exact IntWalk.i64_in _ (by omega)
        have hle : ¬ (x.t.toNat : Int) ≤ (y.t.toNat : Int) := by omega
        clear hrise
        go_wp2_with fail
        go_quiet (fail)
        go_wp2_with fail
        exact ⟨⟨j + 1 + 1, by go_num, below_drewN HBR.out _⟩, by simp [intOf]; omega⟩
    · have HB4 := Lib.hid (HB6.out.trans (HBR.out.mono HB6.out.size))
      go_wp2_with fail
      go_ret
      exact ⟨rfl, HB4.out⟩
theorem back_walk (a : Atr) (w : World) (h : AtrOk w a) : Calls Tryz.prog 7 #[.agg a.ar] w fun e w' => e = .returned (.bool true) ∧ Below w.heap.size w w' := by
  cases hok : atOk a.c with
  | false => exact back_no a w h hok
  | true => exact back_yes a w h hok
set_option maxHeartbeats 4000000 in
set_option maxRecDepth 100000 in
theorem attrBack_lifted (os : Os) (started : os.Started) (H : Type) (enc : TypeId × Value → H) :
    ReturnsInHanded {} Tryz.checked os 7 .any (Rows.attrBackSpec.pre6 enc Tryz.prog Tryz.f7 Rows.attrBackRow.domain false) (Rows.attrBackSpec.post enc Tryz.prog Tryz.f7 false true false false) := by
  refine returnsInHanded_of_change_sized (C := Tryz.checked) own started (by kernel_rfl) Tryz.func7
    (ChangeSpec.witness6 (enc := enc) (C := Tryz.checked) false ⟨#[], #[.agg #[.int .i64 0, .slice none 0 0, .string ⟨#[]⟩, .bool false, .int .u32 0, .bool false, .int .u32 0, .bool false, .int .u32 0, .int .u32 0, .slice none 0 0, .slice none 0 0, .slice none 0 0, .bool false, .int .u32 0, .slice none 0 0]], []⟩ 8 (by kernel_rfl) (by kernel_rfl) (by kernel_rfl) (by kernel_rfl)) ?_
  intro W base args ds gs before hval0 hW hcnd hsz _
  have hval : ∀ (j : Nat) t v, Tryz.f7.params[j]? = some t → args[j]? = some v → Value.okWide Tryz.prog W .any base t v := hval0
  have hW' := hW
  obtain ⟨p, q, hA0, hV, rfl, hfz, hnd⟩ := hW
  have hA : DataW.TrodAll enc Tryz.prog W 0 (fun _ => true) true Tryz.f7.params.toList args.toList ds p := hA0
  rw [Tryz.params7] at hA hval
  obtain ⟨v0, vs0, d0, ds0, p0, q0, hargs, rfl, rfl, h0, r0⟩ := trodAll_cons hA
  obtain ⟨rfl, rfl, rfl⟩ := trodAll_nil r0
  obtain rfl : args = #[v0] := by cases args; simp_all
  obtain ⟨rfl, rfl⟩ := trodVars_none hV
  obtain ⟨cs0, rfl, hcz0⟩ := okWide_struct Tryz.underlying40 (hval 0 40 v0 rfl rfl)
  obtain ⟨fu0, hf0⟩ := h0
  obtain ⟨a, hca0, ho0, hz0⟩ := open_attrs (x := (d0, p0)) hf0 (light_of hsz (j := 0) rfl rfl) (by show cs0.toList.length = 16; rw [Array.length_toList, hcz0]; kernel_rfl)
  have hcv0 : cs0 = a.ar := Array.toList_inj.1 hca0
  subst hcv0
  refine (back_walk a W ho0).mono fun e W' ⟨he, bel⟩ => ?_
  exact ⟨_, he, law_post laidOut (by kernel_rfl) rfl (by kernel_rfl) Tryz.underlying4 hW' rfl bel⟩

theorem attrBack_holds : Rows.AttrBackSaid :=
  OpenClaim.holds_of_wide 7 Tryz.f7 rfl rfl rfl rfl rfl rfl rfl ⟨rfl, rfl, rfl, rfl, rfl⟩ rfl rfl rfl rfl rfl (by kernel_rfl) Tryz.func7 (by kernel_rfl)
    (of_decide_eq_true (by kernel_rfl)) (by unfold Func.isWrapper; first | (rw [if_pos (by decide +kernel)]; kernel_rfl) | (rw [if_neg (by decide +kernel)]; exact ⟨rfl, rfl⟩))
    (fun os started H enc _ => attrBack_lifted os started H enc)
end Go.Proofs.YtkcojblflebomaaGreat
