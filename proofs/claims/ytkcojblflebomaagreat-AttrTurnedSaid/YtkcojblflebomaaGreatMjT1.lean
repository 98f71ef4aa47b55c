/-
  AttrTurned: for all lists of raw attributes the law answers true. Conditions: none of its own.
-/
import Derived.Test.YtkcojblflebomaaGreatAdA
import Derived.OrdersHeld
import Derived.Test.YtkcojblflebomaaGreatAcV
import Derived.Test.YtkcojblflebomaaGreatAbL
import Derived.Test.YtkcojblflebomaaGreatAcD
import Derived.Test.YtkcojblflebomaaGreatAbM
import Derived.Test.YtkcojblflebomaaGreatAbN
import Derived.Test.YtkcojblflebomaaGreatAaO
import Derived.Test.YtkcojblflebomaaGreatAcB
import Derived.Deep.DeepCutAuto
import Derived.Deep.CutBlock
set_option linter.unusedVariables false
set_option linter.unusedSimpArgs false
namespace Go.Proofs.YtkcojblflebomaaGreat
open Go.RowKit Go.MapKept Go.Shelf
open Go.Lib hiding intOf

def LgC (w : World) (g o : Nat) (x : Lg) : Prop := w.cell? ⟨g, o, none⟩ = some (.int .u32 (x.g : Nat)) ∧ w.cell? ⟨g, o + 1, none⟩ = some (.int .u32 (x.a : Nat)) ∧ w.cell? ⟨g, o + 2, none⟩ = some (.int .u32 (x.b : Nat))
theorem own_lg {w : World} {base g n cap i : Nat} {cur : List Lg} {x : Lg} (h : OwnM w base 59 3 (.slice (some ⟨g, 0, none⟩) n cap) n (cur.flatMap Lg.cs)) (hn : 0 < n) (hx : cur[i]? = some x) : LgC w g (i * 3) x := by
  obtain ⟨g2, cap2, hv, _, _, _, _, hc, _⟩ := OwnM.cells h hn
  simp only [Value.slice.injEq, Option.some.injEq, Addr.mk.injEq] at hv
  obtain ⟨⟨rfl, _⟩, _, rfl⟩ := hv
  exact ⟨hc _ _ (flat_at Lg.cs_len cur i x 0 _ hx rfl), hc _ _ (flat_at Lg.cs_len cur i x 1 _ hx rfl), hc _ _ (flat_at Lg.cs_len cur i x 2 _ hx rfl)⟩
theorem own_there {w : World} {base g n cap : Nat} {xs : List Value} (h : OwnM w base 59 3 (.slice (some ⟨g, 0, none⟩) n cap) n xs) (hn : 0 < n) : w.there g 0 (n * 3) := by
  obtain ⟨g2, cap2, hv, _, _, _, _, ht⟩ := OwnM.there h hn
  simp only [Value.slice.injEq, Option.some.injEq, Addr.mk.injEq] at hv
  obtain ⟨⟨rfl, _⟩, _, rfl⟩ := hv
  exact ht
theorem zero_large : ∀ w, (zeroValue 59).run Tryz.prog w = .ok (.agg #[.int .u32 0, .int .u32 0, .int .u32 0]) w := Tryz.zeroValue59
theorem clear_L {w : World} {base g n cap k : Nat} {xs : List Value} (h : OwnM w base 59 3 (.slice (some ⟨g, 0, none⟩) n cap) n xs) (hk : k < n) (c : Nat) (ty : TypeId) :
    ∃ w', (Builtin.clear_ #[38] ty #[.slice (some ⟨g, k * 3, none⟩) (n - k) c]).run Tryz.prog w = .ok (.tuple #[]) w' ∧ OwnM w' base 59 3 (.slice (some ⟨g, 0, none⟩) k cap) k (xs.take (k * 3)) ∧ w.grownBy w' (some g) := by
  have ht := own_there h (by omega)
  refine ⟨_, run_clear_k (P := Tryz.prog) w 38 59 ty (.agg #[.int .u32 0, .int .u32 0, .int .u32 0]) Tryz.underlying38 zero_large (by simp [Value.cells, Value.oneCell']) (by decide) g (k * 3) (n - k) c (by omega) (fun j hj => ?_) (fun j hj => ?_), ?_, grown_setCells g _ _ w⟩
  · have := (ht (k * 3 + j) (by simp [Value.cells] at hj; omega)).1
    rwa [Nat.zero_add] at this
  · have := (ht (k * 3 + j) (by simp [Value.cells] at hj; omega)).2
    rwa [Nat.zero_add] at this
  · have h1 := OwnM.setMany (Builtin.zeroCells (Value.agg #[.int .u32 0, .int .u32 0, .int .u32 0]).cells (n - k)).toList (k * 3) w xs h (by simp [Builtin.zeroCells, Value.cells]; omega)
    have h2 := h1.cut (m := k) (by omega)
    rwa [setL_take _ _ _ _ (Nat.le_refl _)] at h2
/-- large ones compared: the fields -/
theorem lg_unlike {x y : Lg} (h : ¬ y = x) : ¬ (y.g = x.g ∧ y.a = x.a ∧ y.b = x.b) := fun e => h (Lg.eq_iff.1 e)
theorem grown_drewN {w w' : World} {row : Option Nat} (h : w.grownBy w' row) (n : Nat) : w.grownBy (w'.drewN n) row := ⟨h.os, h.tape, h.output, h.size, h.block⟩
set_option maxRecDepth 100000 in
set_option maxHeartbeats 16000000 in
theorem cut_L (w : World) (base : Nat) (v : Value) (l : List Lg) (h : OwnL w base 59 3 Lg.cs v l) (hl : l.length ≤ 4611686018427387904) :
    Calls Tryz.prog 130 #[v] w (CmpPost w base 59 3 Lg.cs v (dd l)) := by
  by_cases h1 : l.length < 2
  · have hdd : dd l = l := by
      match l, h1 with
      | [], _ => rfl
      | [a], _ => rfl
    rw [hdd]
    obtain ⟨A, c, rfl⟩ := h.form
    have HH := Lib.hid h
    have h1' : (l.length : Int) < 2 := by omega
    clear h hdd
    go_enter Tryz.func130, Tryz.ntmps130
    go_wp2_with fail
    go_ret
    exact ⟨_, rfl, HH.out, grown_refl _ _, rfl⟩
  obtain ⟨g, cap, rfl, hb, hg, hn, hc, _⟩ := OwnM.cells h (show 0 < l.length by omega)
  have HH : Hid (OwnM w base 59 3 (.slice (some ⟨g, 0, none⟩) l.length cap) l.length (l.flatMap Lg.cs)) := h
  have HRET : Hid (∀ (k : Nat) (W : World), Hid (∃ cur : List Lg, Cmp l cur l.length k ∧ OwnM W base 59 3 (.slice (some ⟨g, 0, none⟩) k cap) k ((cur.flatMap Lg.cs).take (k * 3)) ∧ w.grownBy W (some g)) → CmpPost w base 59 3 Lg.cs (.slice (some ⟨g, 0, none⟩) l.length cap) (dd l) (.returned (.slice (some ⟨g, 0, none⟩) k cap)) W) := fun k W hx => by
    obtain ⟨cur, h1, h2, h3⟩ := hx.out
    obtain ⟨f1, f2⟩ := h1.fin
    refine ⟨_, rfl, ?_, h3, rfl⟩
    unfold OwnL
    rw [f2, ← f1, ← flat_take Lg.cs_len]
    exact h2
  have HALL : Hid (∀ (W : World), dd l = l → OwnL W base 59 3 Lg.cs (.slice (some ⟨g, 0, none⟩) l.length cap) l → w.grownBy W (some g) → CmpPost w base 59 3 Lg.cs (.slice (some ⟨g, 0, none⟩) l.length cap) (dd l) (.returned (.slice (some ⟨g, 0, none⟩) l.length cap)) W) := fun W e h2 h3 => by
    rw [e]
    exact ⟨_, rfl, h2, h3, rfl⟩
  generalize CmpPost w base 59 3 Lg.cs (.slice (some ⟨g, 0, none⟩) l.length cap) (dd l) = POST at HRET HALL ⊢
  obtain ⟨n, hnn⟩ : ∃ n, n = l.length := ⟨_, rfl⟩
  rw [← hnn] at HH HALL HRET h1 hn hl ⊢
  have HN := Lib.hid hnn
  have h1' : ¬ ((n : Int) < 2) := by omega
  clear h hnn
  go_enter Tryz.func130, Tryz.ntmps130
  go_wp2_with fail
  go_loopw [3] (fun i wr => ∃ k : Nat, k + 1 ≤ n ∧ i = .int .i64 ((k : Int) + 1) ∧ Hid (dd (l.take (k + 1)) = l.take (k + 1)) ∧ Hid (OwnM wr base 59 3 (.slice (some ⟨g, 0, none⟩) n cap) n (l.flatMap Lg.cs)) ∧ Hid (w.grownBy wr (some g))) (fun i _ => n + 2 - (intOf i).toNat)
  case atStart => exact ⟨0, by omega, rfl, by
    cases l with
    | nil => rfl
    | cons a r => rfl, HH.out, grown_refl _ _⟩
  case round =>
    clear HH
    obtain ⟨k, hk, rfl, HD, HO, HG⟩ := hrel
    have hv1 : IntKind.i64.wrap ((k : Int) + 1 - 1) = k := by rw [show (k : Int) + 1 - 1 = k by omega]; exact IntWalk.i64_in _ (by omega)
    by_cases hlt : k + 1 < n
    · obtain ⟨x, hx⟩ : ∃ x, l[k]? = some x := ⟨l[k]'(by have := HN.out; omega), List.getElem?_eq_getElem _⟩
      obtain ⟨y, hy⟩ : ∃ y, l[k + 1]? = some y := ⟨l[k + 1]'(by have := HN.out; omega), List.getElem?_eq_getElem _⟩
      have HX := Lib.hid hx
      have HY := Lib.hid hy
      obtain ⟨p0, p1, p2⟩ := own_lg HO.out (by omega) hx
      obtain ⟨q0, q1, q2⟩ := own_lg HO.out (by omega) hy
      have hlt' : (k : Int) + 1 < (n : Int) := by omega
      clear hx hy
      by_cases hxy : y = x
      · subst hxy
        have hne0 : ((y.g : Int) != (y.g : Int)) = false := by simp
        have hne1 : ((y.a : Int) != (y.a : Int)) = false := by simp
        have hne2 : ((y.b : Int) != (y.b : Int)) = false := by simp
        have he0 : ((y.g : Int) == (y.g : Int)) = true := by simp
        have he1 : ((y.a : Int) == (y.a : Int)) = true := by simp
        have he2 : ((y.b : Int) == (y.b : Int)) = true := by simp
        go_wp2_with fail
        go_quiet (fail)
        go_wp2_with fail
        have HS0 : Hid (∃ cur : List Lg, Cmp l cur (k + 2) (k + 1) ∧ OwnM wr base 59 3 (.slice (some ⟨g, 0, none⟩) n cap) n (cur.flatMap Lg.cs)) := ⟨l, Cmp.start HD.out HX.out HY.out, HO.out⟩
        clear p0 p1 p2 q0 q1 q2 hne0 hne1 hne2 he0 he1 he2 HO HX HY HD
        go_loopw [3, 5] (fun i i2 wq => ∃ (m j : Nat), i = .int .i64 (m : Nat) ∧ i2 = .int .i64 ((j : Int) + 1) ∧ k + 1 + j + 1 ≤ n ∧ Hid (∃ cur : List Lg, Cmp l cur (k + 1 + j + 1) m ∧ OwnM wq base 59 3 (.slice (some ⟨g, 0, none⟩) n cap) n (cur.flatMap Lg.cs)) ∧ Hid (w.grownBy wq (some g))) (fun _ i2 _ => n + 2 - (intOf i2).toNat)
        case atStart => exact ⟨k + 1, 0, by go_num, rfl, by omega, HS0.out, grown_drewN HG.out _⟩
        case round =>
          clear HS0 HG
          obtain ⟨m, j, rfl, rfl, hj, HS, HG⟩ := hrel
          obtain ⟨cur, hcm, ho⟩ := HS.out
          have hmk := hcm.k1
          have hcl := hcm.len
          have hmn : m < n := by omega
          have HCM := Lib.hid hcm
          have HO := Lib.hid ho
          have HNN : Hid (cur.length = n) := hcl.trans HN.out.symm
          clear HS hcl
          by_cases hlt2 : k + 1 + j + 1 < n
          · obtain ⟨x, hx⟩ : ∃ x, cur[k + 1 + j]? = some x := ⟨cur[k + 1 + j]'(by have := HNN.out; omega), List.getElem?_eq_getElem _⟩
            obtain ⟨z, hz⟩ : ∃ z, cur[k + 1 + j + 1]? = some z := ⟨cur[k + 1 + j + 1]'(by have := HNN.out; omega), List.getElem?_eq_getElem _⟩
            have HX : Hid (l[k + 1 + j]? = some x) := by
              show _ = _
              rw [← hcm.rest _ (by omega)]
              exact hx
            have HZ : Hid (l[k + 1 + j + 1]? = some z) := by
              show _ = _
              rw [← hcm.rest _ (by omega)]
              exact hz
            have hpx := own_lg ho (by omega) hx
            have hpz := own_lg ho (by omega) hz
            rw [show (k + 1 + j) * 3 = (k + 1) * 3 + j * 3 by omega] at hpx
            rw [show (k + 1 + j + 1) * 3 = (k + 1) * 3 + (j + 1) * 3 by omega] at hpz
            obtain ⟨p0, p1, p2⟩ := hpx
            obtain ⟨q0, q1, q2⟩ := hpz
            have hjj : (j : Int) + 1 < ((n - (k + 1) : Nat) : Int) := by omega
            have hj0 : 0 ≤ (j : Int) := by omega
            have hj1 : (j : Int) < ((n - (k + 1) : Nat) : Int) := by omega
            have hv2 : IntKind.i64.wrap ((j : Int) + 1 - 1) = j := by rw [show (j : Int) + 1 - 1 = j by omega]; exact IntWalk.i64_in _ (by omega)
            clear hx hz hcm ho
            by_cases hxz : z = x
            · subst hxz
              have he0 : ((z.g : Int) == (z.g : Int)) = true := by simp
              have he1 : ((z.a : Int) == (z.a : Int)) = true := by simp
              have he2 : ((z.b : Int) == (z.b : Int)) = true := by simp
              go_wp2_with fail
              go_quiet (fail)
              go_wp2_with fail
              exact ⟨⟨m, j + 1, rfl, by go_num, by omega, ⟨cur, HCM.out.skip HX.out HZ.out, HO.out⟩, grown_drewN HG.out _⟩, by simp [intOf]; omega⟩
            · have HD : Hid (¬ (z.g = x.g ∧ z.a = x.a ∧ z.b = x.b)) := lg_unlike hxz
              have HNE := Lib.hid hxz
              clear hxz
              have HTH : Hid (∀ q, (wr.drewN q).there g (m * 3) (#[Value.int .u32 (z.g : Nat), .int .u32 (z.a : Nat), .int .u32 (z.b : Nat)] : Array Value).size) := fun q => there_part (own_there HO.out (by omega)) hmn
              have HST : Hid (∀ q, Hid (∃ cur : List Lg, Cmp l cur (k + 1 + (j + 1) + 1) (m + 1) ∧ OwnM ((wr.drewN q).setCells g (m * 3) [.int .u32 (z.g : Nat), .int .u32 (z.a : Nat), .int .u32 (z.b : Nat)]) base 59 3 (.slice (some ⟨g, 0, none⟩) n cap) n (cur.flatMap Lg.cs))) := fun q => by
                refine ⟨cur.set m z, HCM.out.keep HX.out HZ.out HNE.out, ?_⟩
                rw [← flat_setL (by decide) Lg.cs_len cur m z (by rw [HNN.out]; exact hmn)]
                exact OwnM.setMany (Lg.cs z) (m * 3) (wr.drewN q) _ HO.out (by rw [Lg.cs_len]; omega)
              have HSG : Hid (∀ q, Hid (w.grownBy ((wr.drewN q).setCells g (m * 3) [.int .u32 (z.g : Nat), .int .u32 (z.a : Nat), .int .u32 (z.b : Nat)]) (some g))) := fun q => grown_trans (grown_drewN HG.out q) (grown_setCells g _ _ _)
              by_cases d0 : z.g = x.g
              · have he0 : ((z.g : Int) == (x.g : Int)) = true := by simp [d0]
                by_cases d1 : z.a = x.a
                · have he1 : ((z.a : Int) == (x.a : Int)) = true := by simp [d1]
                  have d2 : ¬ z.b = x.b := fun e => HD.out ⟨d0, d1, e⟩
                  have he2 : ((z.b : Int) == (x.b : Int)) = false := beq_eq_false_iff_ne.2 (by omega)
                  clear d0 d1 d2
                  go_wp2_with fail
                  go_quiet (fail)
                  go_wp2_with (with_reducible show wpList _ _ _ (_ :: _) _ _; refine wpList_store_mid rfl 59 (.tmp 51) (.tmp 50) rfl g (m * 3) #[.int .u32 (z.g : Nat), .int .u32 (z.a : Nat), .int .u32 (z.b : Nat)] rfl rfl (HTH.out _) (by kernel_rfl) (by kernel_rfl) ?_)
                  exact ⟨⟨m + 1, j + 1, by go_num, by go_num, by omega, HST.out _, HSG.out _⟩, by simp [intOf]; omega⟩
                · have he1 : ((z.a : Int) == (x.a : Int)) = false := beq_eq_false_iff_ne.2 (by omega)
                  clear d0 d1
                  go_wp2_with fail
                  go_quiet (fail)
                  go_wp2_with (with_reducible show wpList _ _ _ (_ :: _) _ _; refine wpList_store_mid rfl 59 (.tmp 51) (.tmp 50) rfl g (m * 3) #[.int .u32 (z.g : Nat), .int .u32 (z.a : Nat), .int .u32 (z.b : Nat)] rfl rfl (HTH.out _) (by kernel_rfl) (by kernel_rfl) ?_)
                  exact ⟨⟨m + 1, j + 1, by go_num, by go_num, by omega, HST.out _, HSG.out _⟩, by simp [intOf]; omega⟩
              · have he0 : ((z.g : Int) == (x.g : Int)) = false := beq_eq_false_iff_ne.2 (by omega)
                clear d0
                go_wp2_with fail
                go_quiet (fail)
                go_wp2_with (with_reducible show wpList _ _ _ (_ :: _) _ _; refine wpList_store_mid rfl 59 (.tmp 51) (.tmp 50) rfl g (m * 3) #[.int .u32 (z.g : Nat), .int .u32 (z.a : Nat), .int .u32 (z.b : Nat)] rfl rfl (HTH.out _) (by kernel_rfl) (by kernel_rfl) ?_)
                exact ⟨⟨m + 1, j + 1, by go_num, by go_num, by omega, HST.out _, HSG.out _⟩, by simp [intOf]; omega⟩
          · have hjj : ¬ ((j : Int) + 1 < ((n - (k + 1) : Nat) : Int)) := by omega
            obtain ⟨W, hr, hW, hWG⟩ : ∃ W, (∀ ty, (Builtin.clear_ #[38] ty #[.slice (some ⟨g, m * 3, none⟩) (n - m) (cap - m)]).run Tryz.prog wr = .ok (.tuple #[]) W) ∧ Hid (OwnM W base 59 3 (.slice (some ⟨g, 0, none⟩) m cap) m ((cur.flatMap Lg.cs).take (m * 3))) ∧ Hid (wr.grownBy W (some g)) := by
              obtain ⟨W, h1, h2, h3⟩ := clear_L HO.out hmn (cap - m) 0
              exact ⟨W, fun ty => h1, h2, h3⟩
            have HR : Hid (∃ cur : List Lg, Cmp l cur n m ∧ OwnM W base 59 3 (.slice (some ⟨g, 0, none⟩) m cap) m ((cur.flatMap Lg.cs).take (m * 3)) ∧ w.grownBy W (some g)) := ⟨cur, by rw [← show k + 1 + j + 1 = n by omega]; exact HCM.out, hW.out, grown_trans HG.out hWG.out⟩
            clear hcm ho
            go_wp2_with fail
            exact HRET.out _ _ HR
      · have HNE : Hid (dd (l.take (k + 1 + 1)) = l.take (k + 1 + 1)) := by
          show _ = _
          rw [dd_take l k x y HX.out HY.out, if_neg hxy, HD.out, List.take_add_one (i := k + 1), HY.out]
          rfl
        have HD2 : Hid (¬ (y.g = x.g ∧ y.a = x.a ∧ y.b = x.b)) := lg_unlike hxy
        clear hxy
        by_cases d0 : y.g = x.g
        · have he0 : ((y.g : Int) == (x.g : Int)) = true := by simp [d0]
          by_cases d1 : y.a = x.a
          · have he1 : ((y.a : Int) == (x.a : Int)) = true := by simp [d1]
            have d2 : ¬ y.b = x.b := fun e => HD2.out ⟨d0, d1, e⟩
            have he2 : ((y.b : Int) == (x.b : Int)) = false := beq_eq_false_iff_ne.2 (by omega)
            clear d0 d1 d2
            go_wp2_with fail
            go_quiet (fail)
            go_wp2_with fail
            exact ⟨⟨k + 1, by omega, by go_num, HNE.out, HO.out, grown_drewN HG.out _⟩, by simp [intOf]; omega⟩
          · have he1 : ((y.a : Int) == (x.a : Int)) = false := beq_eq_false_iff_ne.2 (by omega)
            clear d0 d1
            go_wp2_with fail
            go_quiet (fail)
            go_wp2_with fail
            exact ⟨⟨k + 1, by omega, by go_num, HNE.out, HO.out, grown_drewN HG.out _⟩, by simp [intOf]; omega⟩
        · have he0 : ((y.g : Int) == (x.g : Int)) = false := beq_eq_false_iff_ne.2 (by omega)
          clear d0
          go_wp2_with fail
          go_quiet (fail)
          go_wp2_with fail
          exact ⟨⟨k + 1, by omega, by go_num, HNE.out, HO.out, grown_drewN HG.out _⟩, by simp [intOf]; omega⟩
    · have hge : ¬ ((k : Int) + 1 < (n : Int)) := by omega
      have HE : Hid (dd l = l) := by
        have h1 := HD.out
        rwa [List.take_of_length_le (by have := HN.out; omega)] at h1
      have HOL : Hid (OwnL wr base 59 3 Lg.cs (.slice (some ⟨g, 0, none⟩) n cap) l) := by
        show OwnL _ _ _ _ _ _ _
        unfold OwnL
        rw [← HN.out]
        exact HO.out
      go_wp2_with fail
      exact HALL.out _ HE.out HOL.out HG.out
end Go.Proofs.YtkcojblflebomaaGreat
set_option linter.unusedVariables false
set_option linter.unusedSimpArgs false
namespace Go.Proofs.YtkcojblflebomaaGreat
open Go.RowKit Go.MapKept Go.Shelf
open Go.Lib hiding intOf

def mRd (w : World) (b : Nat) : Nat := match w.heap[b]? with
  | some (.cells cs _ _) => match cs[1]? with
    | some (Value.string s) => s.size
    | _ => 0
  | _ => 0
theorem mRd_at {w : World} {b : Nat} {s : ByteArray} (h : RdAt w b s) : mRd w b = s.size := by
  unfold RdAt at h
  unfold mRd
  rw [h]
  rfl
theorem asN_fit (v : ByteArray) : ∀ k, ∀ n ∈ asN 4 k v, n < 4294967296
  | 0, n, h => by cases h
  | k + 1, n, h => by
    rw [asN_succ] at h
    rcases List.mem_append.1 h with h | h
    · exact asN_fit v k n h
    · rw [List.mem_singleton.1 h]
      exact hd_u32 _
def take10 (v : ByteArray) (c : AtC) : AtC × Bool := if v.size = 0 ∨ v.size % 4 ≠ 0 ∨ 128 < v.size then (c, false) else ({ c with clus := asN 4 (v.size / 4) v }, true)
set_option maxRecDepth 100000 in
set_option maxHeartbeats 8000000 in
theorem take10s : Takes0 85 (fun v _ c => take10 v c) := by
  intro b c v four w hcl h hm
  obtain ⟨a, hc, ho, hac⟩ := h.x
  have HH := Lib.hid h
  have HC := Lib.hid hc
  have HO := Lib.hid ho
  have HAC := Lib.hid hac
  have hlt := hc.lt
  have HLT := Lib.hid hlt
  have hac0 : a.clus = [] := by
    have h1 : a.c.clus = a.clus := rfl
    rw [← h1, hac.1]
    exact hcl
  obtain ⟨hka, hkc⟩ := hac.2 hac0
  have HKA : Hid (a.kA = none ∧ a.clus = [] ∧ a.kC = 0) := ⟨hka, hac0, hkc⟩
  have HNEW := Lib.hid new_any
  have HNU := Lib.hid number_nx
  have HLE := Lib.hid left_any
  obtain ⟨i0, hi, hz0, hz1, hz2⟩ := info_parts infoU32
  have HI := Lib.hid hi
  have HZ0 := Lib.hid hz0
  have HZ1 := Lib.hid hz1
  have HZ2 := Lib.hid hz2
  have z0 := bytes_none v
  obtain ⟨q0, hq0⟩ : ∃ q, q = (v.size == 0) := ⟨_, rfl⟩
  rw [← hq0] at z0
  clear h hc ho hac hlt hcl hka hkc hac0 hi hz0 hz1 hz2
  by_cases hb0 : v.size = 0
  · have HT : Hid (take10 v c = (c, false)) := if_pos (.inl hb0)
    obtain rfl : q0 = true := by rw [hq0, hb0]; rfl
    clear hq0 hb0
    go_enter Tryz.func85, Tryz.ntmps85
    go_wp2_with fail
    go_ret
    refine ⟨by rw [HT.out]; rfl, ?_, Tk.refl _ _⟩
    rw [HT.out]
    exact HH.out
  obtain rfl : q0 = false := by rw [hq0]; exact beq_eq_false_iff_ne.2 hb0
  clear hq0
  by_cases hb1 : v.size % 4 = 0
  case neg =>
    have HT : Hid (take10 v c = (c, false)) := if_pos (.inr (.inl hb1))
    have z1 : ((v.size : Int) % 4 != 0) = true := bne_iff_ne.2 (by omega)
    have z1' : ((v.size : Int) % 4 == 0) = false := beq_eq_false_iff_ne.2 (by omega)
    have z2 : ((v.size : Int).tmod 4 != 0) = true := by rw [Int.tmod_eq_emod_of_nonneg (by omega)]; exact z1
    have z2' : ((v.size : Int).tmod 4 == 0) = false := by rw [Int.tmod_eq_emod_of_nonneg (by omega)]; exact z1'
    clear hb1
    go_enter Tryz.func85, Tryz.ntmps85
    go_wp2_with fail
    go_ret
    refine ⟨by rw [HT.out]; rfl, ?_, Tk.refl _ _⟩
    rw [HT.out]
    exact HH.out
  have z1 : ((v.size : Int) % 4 != 0) = false := by
    have : (v.size : Int) % 4 = 0 := by omega
    rw [this]
    rfl
  have z1' : ((v.size : Int) % 4 == 0) = true := beq_iff_eq.2 (by omega)
  have z2 : ((v.size : Int).tmod 4 != 0) = false := by rw [Int.tmod_eq_emod_of_nonneg (by omega)]; exact z1
  have z2' : ((v.size : Int).tmod 4 == 0) = true := by rw [Int.tmod_eq_emod_of_nonneg (by omega)]; exact z1'
  have HB1 := Lib.hid hb1
  by_cases hb2 : 128 < v.size
  · have HT : Hid (take10 v c = (c, false)) := if_pos (.inr (.inr hb2))
    clear hb1
    go_enter Tryz.func85, Tryz.ntmps85
    go_wp2_with fail
    go_ret
    refine ⟨by rw [HT.out]; rfl, ?_, Tk.refl _ _⟩
    rw [HT.out]
    exact HH.out
  have HT : Hid (take10 v c = ({ c with clus := asN 4 (v.size / 4) v }, true)) := if_neg (by omega)
  clear hb1
  go_enter Tryz.func85, Tryz.ntmps85
  go_wp2_with fail
  refine (HNEW.out v w).mono ?_
  rintro e w1 ⟨rfl, hw1⟩
  have HR1 : Hid (RdAt w1 w.heap.size v) := by
    show RdAt _ _ _
    rw [hw1]
    exact heap_alloc_new w _
  have HBL1 : Hid (Below w.heap.size w w1) := by
    rw [hw1]
    exact (Below.refl _ _).alloc (Nat.le_refl _) _
  have HC1 : Hid (CellsAt w1 b (a.ar.setIfInBounds 15 (.slice none 0 0)) 40) := by
    have h := HC.out.below HBL1.out HLT.out
    have e : a.ar.setIfInBounds 15 (.slice none 0 0) = a.ar := by
      have h1 : a.ar = a.ar.setIfInBounds 15 (.slice a.kA a.clus.length a.kC) := rfl
      rw [h1, HKA.out.1, HKA.out.2.1, HKA.out.2.2]
      rfl
    show CellsAt _ _ _ _
    rw [e]
    exact h
  clear hw1
  go_wp2_with fail
  go_loopw [8] (fun _x wr => ∃ (k : Nat) (A : Option Addr) (cK : Nat), k * 4 ≤ v.size ∧ Hid (RdAt wr w.heap.size (nxN 4 k v)) ∧ Hid (CellsAt wr b (a.ar.setIfInBounds 15 (.slice A k cK)) 40) ∧ Hid (OwnL wr w.heap.size 35 1 u1 (.slice A k cK) (asN 4 k v)) ∧ Hid (∀ i, i < w.heap.size → i ≠ b → wr.heap[i]? = w.heap[i]?) ∧ Hid (Below b w wr)) (fun _x wr => mRd wr w.heap.size)
  case atStart => exact ⟨0, none, 0, by omega, HR1.out, HC1.out, OwnL.nil _ _ _ _ _, fun i h1 _ => HBL1.out.block i h1, HBL1.out.mono (Nat.le_of_lt HLT.out)⟩
  case round =>
    clear HR1 HBL1 HC1
    obtain ⟨k, A, cK, hk, HR, HC2, HOW, HKP, HBB⟩ := hrel
    have hrl := HR.out.lt
    have hts : (nxN 4 k v).size = v.size - k * 4 := nxN_size 4 k v
    have HNX := Lib.hid (nxN_succ 4 k v)
    have HAS := Lib.hid (asN_succ 4 k v)
    have HMR := Lib.hid (mRd_at HR.out)
    obtain ⟨t, ht⟩ : ∃ t, t = nxN 4 k v := ⟨_, rfl⟩
    rw [← ht] at HR hts HNX HAS HMR
    clear ht
    go_wp2_with fail
    refine (HLE.out w.heap.size t _ HR.out).mono ?_
    rintro e w2 ⟨rfl, rfl⟩
    by_cases hlt : k * 4 < v.size
    · have h4 : 4 ≤ t.size := by have := HB1.out; omega
      have h0 : 0 < t.size := by omega
      go_wp2_with fail
      refine (HNU.out w.heap.size t 4 _ HR.out (by decide) (by decide) h4 (by omega)).mono ?_
      rintro e w3 ⟨rfl, hr3, hg3⟩
      have HR3 : Hid (RdAt w3 w.heap.size (nx t 4)) := hr3
      have HC3 : Hid (CellsAt w3 b (a.ar.setIfInBounds 15 (.slice A k cK)) 40) := HC2.out.row hg3 (by have := HLT.out; omega)
      have HOW3 : Hid (OwnL w3 w.heap.size 35 1 u1 (.slice A k cK) (asN 4 k v)) := HOW.out.off hg3 (show CellsAt w2 w.heap.size #[.bool true, .string t] 110 from HR.out) (by decide)
      have HKP3 : Hid (∀ i, i < w.heap.size → i ≠ b → w3.heap[i]? = w.heap[i]?) := fun i h1 h2 => (hg3.block i (by omega) (fun e => by injection e with e; omega)).trans (HKP.out i h1 h2)
      have HBB3 : Hid (Below b w w3) := HBB.out.grown hg3 (by have := HLT.out; omega) (fun q hq => by cases hq; exact Nat.le_of_lt HLT.out)
      have hrl3 : w.heap.size < w3.heap.size := Nat.lt_of_lt_of_le hrl hg3.size
      have HTS : Hid ((nx t 4).size = t.size - 4) := nx_size t 4
      have HMEAS : Hid (mRd w2 w.heap.size = t.size) := HMR.out
      obtain ⟨n, hn⟩ : ∃ n, n = hd t 4 := ⟨_, rfl⟩
      have hn4 : n < 4294967296 := by rw [hn]; exact hd_u32 t
      rw [← hn] at HAS ⊢
      clear hr3 hg3 hn HR HC2 HOW HKP HBB HMR
      have zw : IntKind.u32.wrap ((n : Nat) : Int) = ((n : Nat) : Int) := by rw [IntKind.wrap_u32]; omega
      have c15 := (HC3.out.c 15).trans (show (a.ar.setIfInBounds 15 (Value.slice A k cK))[15]? = some (.slice A k cK) from rfl)
      have f15 := HC3.out.unfrozen 15
      have HCB : Hid (CellsAt (w3.alloc (.cells #[.int .u32 (n : Nat)] 35)) w3.heap.size #[.int .u32 (n : Nat)] 35) := CellsAt.new _ _ _
      have HS := Lib.hid (Src.block (P := Tryz.prog) (t2 := 36) (size := 1) (m := 1) (c := 1) Tryz.underlying36 HCB.out rfl (by simp [Value.oneCell']))
      have HOa := Lib.hid (HOW3.out.alloc (.cells #[.int .u32 (n : Nat)] 35))
      have HBS : Hid (w.heap.size ≤ (w3.alloc (.cells #[.int .u32 (n : Nat)] 35)).heap.size) := by show _ ≤ _; simp; omega
      have HM : Hid (k + 1 ≤ maxLen) := by show _ ≤ _; unfold maxLen; omega
      have HY : Hid ((k + 1) * 4 ≤ 140737488355328) := by show _ ≤ _; omega
      have HOB : Hid (OwnM (w3.alloc (.cells #[.int .u32 (n : Nat)] 35)) w.heap.size 35 1 (.slice A k cK) k ((asN 4 k v).flatMap u1)) := by
        have h := HOa.out
        unfold OwnL at h
        rwa [asN_len] at h
      have HCa : Hid (CellsAt (w3.alloc (.cells #[.int .u32 (n : Nat)] 35)) b (a.ar.setIfInBounds 15 (.slice A k cK)) 40) := HC3.out.alloc _
      have HRa : Hid (RdAt (w3.alloc (.cells #[.int .u32 (n : Nat)] 35)) w.heap.size (nx t 4)) := (Below.heap_alloc _ _ _ HR3.out.lt).trans HR3.out
      have HBa : Hid (Below b w (w3.alloc (.cells #[.int .u32 (n : Nat)] 35))) := HBB3.out.alloc (by have := HLT.out; omega) _
      go_wp2_with (at_builtin; refine wpList_append_m rfl (.tmp 37) (.tmp 40) 36 36 rfl w.heap.size 35 i0 _ 1 4 Tryz.underlying36 HI.out HZ0.out HZ1.out HZ2.out rfl (by decide) (.slice A k cK) k ((asN 4 k v).flatMap u1) rfl HOB.out _ 1 _ rfl HS.out HM.out HY.out HBS.out ?_)
      intro v' w5 hown hgr hat
      obtain ⟨A6, c6, rfl⟩ := hown.form
      have hob : ∀ q, (Value.slice A k cK).ownBlock = some q → w.heap.size ≤ q := fun q hq => (OwnM.lt HOB.out q hq).1
      have HN5 : Hid (OwnL w5 w.heap.size 35 1 u1 (.slice A6 (k + 1) c6) (asN 4 (k + 1) v)) := by
        show OwnL _ _ _ _ _ _ _
        rw [HAS.out]
        refine OwnL.snoc ?_
        rw [asN_len]
        exact hown
      have HC5 : Hid (CellsAt w5 b (a.ar.setIfInBounds 15 (.slice A k cK)) 40) := HCa.out.own hgr (fun e => by have h1 := hob _ e.symm; have h2 := HLT.out; omega)
      have HR5 : Hid (RdAt w5 w.heap.size (nx t 4)) := (hgr.block _ HRa.out.lt (fun e => by
        rcases HOB.out.2 with ⟨h1, _⟩ | ⟨g, cap, cur, fr, h1, _, hg, _⟩
        · rw [h1] at e
          simp [Value.ownBlock] at e
        · rw [h1] at e
          simp [Value.ownBlock] at e
          rw [← e] at hg
          have h2 : (w3.alloc (.cells #[.int .u32 (n : Nat)] 35)).heap[w.heap.size]? = some (.cells #[.bool true, .string (nx t 4)] 110 (0, 0)) := HRa.out
          rw [h2] at hg
          injection hg with hg
          injection hg with _ hg
          exact absurd hg (by decide))).trans HRa.out
      have hs5 : w3.heap.size ≤ w5.heap.size := by have := hgr.size; simp at this; omega
      have HKP5 : Hid (∀ i, i < w.heap.size → i ≠ b → w5.heap[i]? = w.heap[i]?) := fun i h1 h2 => (hgr.block i (by simp; omega) (fun e => by have := hob _ e.symm; omega)).trans ((Below.heap_alloc _ _ _ (by omega)).trans (HKP3.out i h1 h2))
      have HBB5 : Hid (Below b w w5) := HBa.out.grown hgr (by simp; have := HLT.out; omega) (fun q hq => by have := hob _ hq; have := HLT.out; omega)
      have d15 := (HC5.out.c 15).trans (show (a.ar.setIfInBounds 15 (Value.slice A k cK))[15]? = some (.slice A k cK) from rfl)
      have g15 := HC5.out.unfrozen 15
      clear hown hgr hat c15 f15 hob HOB HOa HCa HRa HBa
      go_wp2_with fail
      have HCF : Hid (CellsAt (w5.setCell ⟨b, 15, none⟩ (.slice A6 (k + 1) c6)) b (a.ar.setIfInBounds 15 (.slice A6 (k + 1) c6)) 40) := HC5.out.setAt 15 _
      have HRF : Hid (RdAt (w5.setCell ⟨b, 15, none⟩ (.slice A6 (k + 1) c6)) w.heap.size (nxN 4 (k + 1) v)) := by
        show RdAt _ _ _
        rw [HNX.out]
        exact HR5.out.setOther (by have := HLT.out; omega)
      refine ⟨⟨k + 1, A6, c6, by omega, HRF.out, HCF.out, OwnM.setCell HN5.out (p := ⟨b, 15, none⟩) (fun q hq => by have h1 := (OwnM.lt HN5.out q hq).1; have h2 := HLT.out; show q ≠ b; omega) _, fun i h1 h2 => (Below.heap_setCell w5 _ _ i (by show i ≠ b; exact h2)).trans (HKP5.out i h1 h2), HBB5.out.setCell (Nat.le_refl b) _⟩, ?_⟩
      show mRd _ _ < mRd _ _
      rw [mRd_at HRF.out, HMEAS.out, HNX.out, HTS.out]
      omega
    · have hke : v.size / 4 = k := by have := HB1.out; omega
      have ht0 : ¬ 0 < t.size := by omega
      have HKE := Lib.hid hke
      clear hke
      go_wp2_with fail
      go_ret
      refine ⟨by rw [HT.out]; rfl, ?_, HBB.out, fun i h1 h2 _ => HKP.out i h1 h2⟩
      rw [HT.out, HKE.out]
      have hcf : CellsAt w2 b ({ a with kA := A, clus := asN 4 k v, kC := cK } : Atr).ar 40 := by
        show CellsAt _ _ #[_, _, _, _, _, _, _, _, _, _, _, _, _, _, _, .slice A (asN 4 k v).length cK] _
        rw [asN_len]
        exact HC2.out
      have hkl : OwnL w2 (b + 1) 35 1 u1 (.slice A (asN 4 k v).length cK) (asN 4 k v) := by
        rw [asN_len]
        exact OwnM.lower HOW.out (by have := HLT.out; omega)
      exact ⟨⟨{ a with kA := A, clus := asN 4 k v, kC := cK }, hcf, { HO.out.keep (fun i h1 h2 => HKP.out i h2 (by omega)) with clus := hkl, kfit := asN_fit v k }, by rw [← HAC.out.1]; rfl, fun h => by
        have h1 := congrArg List.length h
        rw [asN_len] at h1
        have : k = 0 := h1
        omega⟩⟩
end Go.Proofs.YtkcojblflebomaaGreat
set_option linter.unusedVariables false
set_option linter.unusedSimpArgs false
namespace Go.Proofs.YtkcojblflebomaaGreat
open Go.RowKit Go.MapKept Go.Shelf
open Go.Lib hiding intOf

/-- what reads one thing of so many bytes -/
def OneRd {α : Type} (f : FuncId) (S : Nat) (E : α → Value) (one : ByteArray → α) : Prop :=
  ∀ (b : Nat) (s : ByteArray) (w : World), RdAt w b s → S ≤ s.size → (s.size : Int) ≤ 140737488351232 → Calls Tryz.prog f #[.pointer (some ⟨b, 0, none⟩)] w fun e w' => e = .returned (E (one s)) ∧ RdAt w' b (nx s S) ∧ w.grownBy w' (some b)
set_option maxHeartbeats 4000000 in
theorem one4 : OneRd 113 4 (fun n : Nat => Value.int .u32 (n : Nat)) (fun s => hd s 4) := by
  intro b s w h hs hm
  show Calls _ _ _ _ fun e w' => e = .returned (.int .u32 (hd s 4 : Nat)) ∧ RdAt w' b (nx s 4) ∧ w.grownBy w' (some b)
  have HNU := Lib.hid (number_nx b s 4 w h (by decide) (by decide) hs (by omega))
  have hlt := h.lt
  have hn4 : hd s 4 < 4294967296 := hd_u32 s
  generalize hd s 4 = n at HNU hn4 ⊢
  have zw : IntKind.u32.wrap ((n : Nat) : Int) = ((n : Nat) : Int) := by rw [IntKind.wrap_u32]; omega
  clear h
  go_enter Tryz.func113, Tryz.ntmps113
  go_wp2_with fail
  refine HNU.out.mono ?_
  rintro e w1 ⟨rfl, hr, hg⟩
  have HR := Lib.hid hr
  have HG := Lib.hid hg
  clear hr hg
  go_wp2_with fail
  go_ret
  exact ⟨rfl, HR.out, HG.out⟩
theorem or_join32 (v c : Int) (h0 : 0 ≤ v) (h1 : v < 4294967296) (c0 : 0 ≤ c) (c1 : c < 4294967296) : bits .or .u64 (v * 4294967296) c = v * 4294967296 + c := by
  rw [u64_or _ _ (by omega) (by omega) (by omega) (by omega), nat_join 32 _ _ (by omega) (by omega)]
  omega
theorem beVal_cat : ∀ (r l : List UInt8), beVal (l ++ r) = beVal l * 256 ^ r.length + beVal r := by
  intro r
  induction r with
  | nil => intro l; simp [beVal]
  | cons a r ih =>
    intro l
    have h1 := ih (l ++ [a])
    have h2 := ih [a]
    rw [List.append_assoc, beVal_snoc] at h1
    have e : beVal [a] = a.toNat := by simp [beVal]
    rw [e] at h2
    simp only [List.singleton_append] at h1 h2
    rw [h1, h2, List.length_cons, Nat.pow_succ, Nat.add_mul, Nat.mul_assoc, Nat.mul_comm 256]
    omega
theorem hd_eight (s : ByteArray) (h : 8 ≤ s.size) : hd s 8 = hd s 4 * 4294967296 + hd (nx s 4) 4 := by
  unfold hd
  rw [nx_list]
  have e : s.data.toList.take 8 = s.data.toList.take 4 ++ (s.data.toList.drop 4).take 4 := by rw [← List.take_add]
  have hl : ((s.data.toList.drop 4).take 4).length = 4 := by
    have : s.data.toList.length = s.size := Array.length_toList
    rw [List.length_take, List.length_drop]
    omega
  rw [e, beVal_cat, hl]
theorem rd4 (b : Nat) (s : ByteArray) (w : World) (h : RdAt w b s) (hs : 4 ≤ s.size) (hm : (s.size : Int) ≤ 140737488351232) : Calls Tryz.prog 113 #[.pointer (some ⟨b, 0, none⟩)] w fun e w' => e = .returned (.int .u32 (hd s 4 : Nat)) ∧ RdAt w' b (nx s 4) ∧ w.grownBy w' (some b) := one4 b s w h hs hm
set_option maxHeartbeats 4000000 in
theorem one8 : OneRd 115 8 (fun n : Nat => Value.int .u64 (n : Nat)) (fun s => hd s 8) := by
  intro b s w h hs hm
  show Calls _ _ _ _ fun e w' => e = .returned (.int .u64 (hd s 8 : Nat)) ∧ RdAt w' b (nx s 8) ∧ w.grownBy w' (some b)
  have HON := Lib.hid rd4
  have HR := Lib.hid h
  have HV := Lib.hid (hd_eight s hs)
  have HT : Hid (nx (nx s 4) 4 = nx s 8) := nx_nx s 4 4
  have HTS : Hid ((nx s 4).size = s.size - 4) := nx_size s 4
  have h1 : hd s 4 < 4294967296 := hd_u32 s
  have h2 : hd (nx s 4) 4 < 4294967296 := hd_u32 _
  clear h
  go_enter Tryz.func115, Tryz.ntmps115
  go_wp2_with fail
  refine (HON.out b s w HR.out (by omega) hm).mono ?_
  rintro e w1 ⟨rfl, hr1, hg1⟩
  have HR1 := Lib.hid hr1
  have HG1 := Lib.hid hg1
  clear hr1 hg1
  go_wp2_with fail
  refine (HON.out b _ w1 HR1.out (by rw [HTS.out]; omega) (by rw [HTS.out]; omega)).mono ?_
  rintro e w2 ⟨rfl, hr2, hg2⟩
  have HR2 := Lib.hid hr2
  have HG2 := Lib.hid hg2
  clear hr2 hg2
  go_wp2_with fail
  go_ret
  refine ⟨?_, by rw [← HT.out]; exact HR2.out, grown_trans HG1.out HG2.out⟩
  rw [HV.out, Int.natCast_add, Int.natCast_mul]
  show Ending.returned (Value.int .u64 (bits .or .u64 _ _)) = _
  rw [or_join32 _ _ (by omega) (by omega) (by omega) (by omega)]
  rfl
theorem lg_size : (Tryz.prog.info? 59).map (·.size) = some 3 := by kernel_rfl
set_option maxHeartbeats 4000000 in
theorem one12 : OneRd 117 12 (fun x : Lg => Value.agg x.cs.toArray) (fun s => ⟨hd s 4, hd (nx s 4) 4, hd (nx s 8) 4⟩) := by
  intro b s w h hs hm
  show Calls _ _ _ _ fun e w' => e = .returned (.agg #[.int .u32 (hd s 4 : Nat), .int .u32 (hd (nx s 4) 4 : Nat), .int .u32 (hd (nx s 8) 4 : Nat)]) ∧ RdAt w' b (nx s 12) ∧ w.grownBy w' (some b)
  have HON := Lib.hid rd4
  have HTS : Hid ((nx s 4).size = s.size - 4) := nx_size s 4
  have HTS2 : Hid ((nx s 8).size = s.size - 8) := nx_size s 8
  have hlt := h.lt
  obtain ⟨V, hV⟩ : ∃ V, V = w.alloc (.cells #[.int .u32 0, .int .u32 0, .int .u32 0] 59) := ⟨_, rfl⟩
  have HC0 : Hid (CellsAt V w.heap.size #[.int .u32 0, .int .u32 0, .int .u32 0] 59) := by rw [hV]; exact CellsAt.new _ _ _
  have HR0 : Hid (RdAt V b s) := by rw [hV]; exact (Below.heap_alloc _ _ _ h.lt).trans h
  have HG0 : Hid (w.grownBy V (some b)) := by rw [hV]; exact grown_of_below ((Below.refl _ _).alloc (Nat.le_refl _) _) _
  have HT : Hid (nx (nx s 4) 4 = nx s 8) := nx_nx s 4 4
  have HT2 : Hid (nx (nx s 8) 4 = nx s 12) := nx_nx s 8 4
  clear h
  go_enter Tryz.func117, Tryz.ntmps117
  go_wp2_with fail
  rw [← hV]
  clear hV
  refine (HON.out b s V HR0.out (by omega) hm).mono ?_
  rintro e w1 ⟨rfl, hr1, hg1⟩
  have HR1 := Lib.hid hr1
  have HC1 : Hid (CellsAt w1 w.heap.size #[.int .u32 0, .int .u32 0, .int .u32 0] 59) := HC0.out.row hg1 (by omega)
  have HG1 : Hid (w.grownBy w1 (some b)) := grown_trans HG0.out hg1
  obtain ⟨n1, hn1⟩ : ∃ n, n = hd s 4 := ⟨_, rfl⟩
  rw [← hn1]
  have HN1 := Lib.hid hn1
  clear hn1
  clear hr1 hg1 HC0 HR0 HG0
  have HD1 : Hid (CellsAt (w1.alloc (.cells #[.int .u32 0, .int .u32 0, .int .u32 0] 59)) w1.heap.size #[.int .u32 0, .int .u32 0, .int .u32 0] 59) := CellsAt.new _ _ _
  go_wp2_with (with_reducible show wpList _ _ _ (_ :: _) _ _; refine wpList_store_row rfl 59 (.tmp 3) (.tmp 6) rfl w1.heap.size #[.int .u32 (n1 : Nat), .int .u32 0, .int .u32 0] rfl rfl 59 #[.int .u32 0, .int .u32 0, .int .u32 0] HD1.out lg_size rfl rfl ?_)
  obtain ⟨V1, hV1⟩ : ∃ V1, V1 = w1.alloc (.cells #[.int .u32 (n1 : Nat), .int .u32 0, .int .u32 0] 59) := ⟨_, rfl⟩
  rw [← hV1]
  have hl1 : b < w1.heap.size := HR1.out.lt
  have hl0 : w.heap.size < w1.heap.size := HC1.out.lt
  have hs1 : V1.heap.size = w1.heap.size + 1 := by rw [hV1]; simp
  have HE1 : Hid (CellsAt V1 w1.heap.size #[.int .u32 (n1 : Nat), .int .u32 0, .int .u32 0] 59) := by rw [hV1]; exact CellsAt.new _ _ _
  have HRV : Hid (RdAt V1 b (nx s 4)) := by rw [hV1]; exact (Below.heap_alloc _ _ _ hl1).trans HR1.out
  have HCV : Hid (CellsAt V1 w.heap.size #[.int .u32 0, .int .u32 0, .int .u32 0] 59) := by rw [hV1]; exact HC1.out.alloc _
  have HGV : Hid (w.grownBy V1 (some b)) := by rw [hV1]; exact grown_trans HG1.out (grown_of_below ((Below.refl _ _).alloc (Nat.le_refl _) _) _)
  obtain ⟨g, hg⟩ : ∃ g, g = w1.heap.size := ⟨_, rfl⟩
  rw [← hg] at HE1 hl1 hl0 ⊢
  clear hV1 HR1 HC1 HG1 HD1 hs1 hg
  refine (HON.out b _ V1 HRV.out (by rw [HTS.out]; omega) (by rw [HTS.out]; omega)).mono ?_
  rintro e w2 ⟨rfl, hr2, hg2⟩
  have HR2 : Hid (RdAt w2 b (nx s 8)) := by rw [← HT.out]; exact hr2
  have HC2 : Hid (CellsAt w2 w.heap.size #[.int .u32 0, .int .u32 0, .int .u32 0] 59) := HCV.out.row hg2 (by omega)
  have HE2 : Hid (CellsAt w2 g #[.int .u32 (n1 : Nat), .int .u32 0, .int .u32 0] 59) := HE1.out.row hg2 (by omega)
  have HG2 : Hid (w.grownBy w2 (some b)) := grown_trans HGV.out hg2
  obtain ⟨n2, hn2⟩ : ∃ n, n = hd (nx s 4) 4 := ⟨_, rfl⟩
  rw [← hn2]
  have HN2 := Lib.hid hn2
  clear hn2
  clear hr2 hg2 HRV HCV HGV HE1
  have e0 := (HE2.out.c 1).trans (show (#[Value.int .u32 (n1 : Nat), .int .u32 0, .int .u32 0] : Array Value)[1]? = some (.int .u32 0) from rfl)
  have e1 := HE2.out.unfrozen 1
  go_wp2_with fail
  obtain ⟨V2, hV2⟩ : ∃ V2, V2 = w2.setCell ⟨g, 1, none⟩ (.int .u32 (n2 : Nat)) := ⟨_, rfl⟩
  rw [← hV2]
  have HE3 : Hid (CellsAt V2 g #[.int .u32 (n1 : Nat), .int .u32 (n2 : Nat), .int .u32 0] 59) := by rw [hV2]; exact HE2.out.setAt 1 _
  have HR3 : Hid (RdAt V2 b (nx s 8)) := by rw [hV2]; exact (Below.heap_setCell w2 _ _ b (show b ≠ g by omega)).trans HR2.out
  have HC3 : Hid (CellsAt V2 w.heap.size #[.int .u32 0, .int .u32 0, .int .u32 0] 59) := by rw [hV2]; exact (Below.heap_setCell w2 _ _ w.heap.size (show w.heap.size ≠ g by omega)).trans HC2.out
  have HG3 : Hid (w.grownBy V2 (some b)) := by
    rw [hV2]
    have h := grown_setCell w2 ⟨g, 1, none⟩ (.int .u32 (n2 : Nat))
    have h1 := HG2.out
    exact ⟨h.os.trans h1.os, h.tape.trans h1.tape, h.output.trans h1.output, Nat.le_trans h1.size h.size, fun i hi hx => (Below.heap_setCell w2 _ _ i (show i ≠ g by omega)).trans (h1.block i hi hx)⟩
  clear hV2 e0 e1 HE2 HR2 HC2 HG2
  refine (HON.out b _ V2 HR3.out (by rw [HTS2.out]; omega) (by rw [HTS2.out]; omega)).mono ?_
  rintro e w3 ⟨rfl, hr3, hg3⟩
  have HR4 : Hid (RdAt w3 b (nx s 12)) := by rw [← HT2.out]; exact hr3
  have HC4 : Hid (CellsAt w3 w.heap.size #[.int .u32 0, .int .u32 0, .int .u32 0] 59) := HC3.out.row hg3 (by omega)
  have HE4 : Hid (CellsAt w3 g #[.int .u32 (n1 : Nat), .int .u32 (n2 : Nat), .int .u32 0] 59) := HE3.out.row hg3 (by omega)
  have HG4 : Hid (w.grownBy w3 (some b)) := grown_trans HG3.out hg3
  obtain ⟨n3, hn3⟩ : ∃ n, n = hd (nx s 8) 4 := ⟨_, rfl⟩
  rw [← hn3]
  have HN3 := Lib.hid hn3
  clear hn3
  clear hr3 hg3 HR3 HC3 HG3 HE3
  have e0 := (HE4.out.c 2).trans (show (#[Value.int .u32 (n1 : Nat), .int .u32 (n2 : Nat), .int .u32 0] : Array Value)[2]? = some (.int .u32 0) from rfl)
  have e1 := HE4.out.unfrozen 2
  go_upto_region 4 with fail
  obtain ⟨V3, hV3⟩ : ∃ V3, V3 = w3.setCell ⟨g, 2, none⟩ (.int .u32 (n3 : Nat)) := ⟨_, rfl⟩
  rw [← hV3]
  have HE5 : Hid (CellsAt V3 g #[.int .u32 (n1 : Nat), .int .u32 (n2 : Nat), .int .u32 (n3 : Nat)] 59) := by rw [hV3]; exact HE4.out.setAt 2 _
  have HR5 : Hid (RdAt V3 b (nx s 12)) := by rw [hV3]; exact (Below.heap_setCell w3 _ _ b (show b ≠ g by omega)).trans HR4.out
  have HC5 : Hid (CellsAt V3 w.heap.size #[.int .u32 0, .int .u32 0, .int .u32 0] 59) := by rw [hV3]; exact (Below.heap_setCell w3 _ _ w.heap.size (show w.heap.size ≠ g by omega)).trans HC4.out
  have HG5 : Hid (w.grownBy V3 (some b)) := by
    rw [hV3]
    have h := grown_setCell w3 ⟨g, 2, none⟩ (.int .u32 (n3 : Nat))
    have h1 := HG4.out
    exact ⟨h.os.trans h1.os, h.tape.trans h1.tape, h.output.trans h1.output, Nat.le_trans h1.size h.size, fun i hi hx => (Below.heap_setCell w3 _ _ i (show i ≠ g by omega)).trans (h1.block i hi hx)⟩
  clear hV3 e0 e1 HE4 HR4 HC4 HG4
  obtain ⟨c0, c1, c2⟩ := HE5.out.c3
  go_wp2_with (with_reducible show wpList _ _ _ (⟨none, _, _, _, _, _⟩ :: _) _ _; have hstop : True := trivial; revert hstop)
  intro _
  refine wpList_store_row rfl 59 (.tmp 2) (.tmp 13) rfl w.heap.size #[.int .u32 (n1 : Nat), .int .u32 (n2 : Nat), .int .u32 (n3 : Nat)] rfl rfl 59 #[.int .u32 0, .int .u32 0, .int .u32 0] HC5.out (by kernel_rfl) (by kernel_rfl) (by kernel_rfl) ?_
  have HRF : Hid (RdAt (V3.setRow w.heap.size #[.int .u32 (n1 : Nat), .int .u32 (n2 : Nat), .int .u32 (n3 : Nat)]) b (nx s 12)) := (setRow_other V3 w.heap.size b _ (by omega)).trans HR5.out
  have HGF : Hid (w.grownBy (V3.setRow w.heap.size #[.int .u32 (n1 : Nat), .int .u32 (n2 : Nat), .int .u32 (n3 : Nat)]) (some b)) := by
    have h1 := HG5.out
    exact ⟨h1.os, h1.tape, h1.output, by rw [setRow_size]; exact h1.size, fun i hi hx => (setRow_other V3 w.heap.size i _ (by omega)).trans (h1.block i hi hx)⟩
  have HCG : Hid (CellsAt (V3.setRow w.heap.size #[.int .u32 (n1 : Nat), .int .u32 (n2 : Nat), .int .u32 (n3 : Nat)]) w.heap.size #[.int .u32 (n1 : Nat), .int .u32 (n2 : Nat), .int .u32 (n3 : Nat)] 59) := setRow_heap V3 w.heap.size _ _ _ _ HC5.out
  clear c0 c1 c2
  go_wp2_with fail
  exact bodyPost_ret (results_cell_row rfl _ _ w.heap.size 59 #[.int .u32 (n1 : Nat), .int .u32 (n2 : Nat), .int .u32 (n3 : Nat)] (0, 0) _ rfl HCG.out Tryz.underlying59 rfl lg_size) rfl ⟨by rw [HN1.out, HN2.out, HN3.out], HRF.out, HGF.out⟩
end Go.Proofs.YtkcojblflebomaaGreat
set_option linter.unusedVariables false
set_option linter.unusedSimpArgs false
namespace Go.Proofs.YtkcojblflebomaaGreat
open Go.RowKit Go.MapKept Go.Shelf
open Go.Lib hiding intOf
open Go.Sort hiding Below

/-- things of so many bytes each, one behind the other -/
def oneN {α : Type} (S : Nat) (one : ByteArray → α) : Nat → ByteArray → List α
  | 0, _ => []
  | k + 1, s => one s :: oneN S one k (nx s S)
theorem oneN_succ {α : Type} (S : Nat) (one : ByteArray → α) : ∀ (k : Nat) (s : ByteArray), oneN S one (k + 1) s = oneN S one k s ++ [one (nxN S k s)]
  | 0, s => rfl
  | k + 1, s => by
    show one s :: oneN S one (k + 1) (nx s S) = _
    rw [oneN_succ S one k]
    rfl
theorem oneN_len {α : Type} (S : Nat) (one : ByteArray → α) : ∀ (k : Nat) (s : ByteArray), (oneN S one k s).length = k
  | 0, s => rfl
  | k + 1, s => by
    show (oneN S one k (nx s S)).length + 1 = _
    rw [oneN_len S one k]
theorem oneN_all {α : Type} {S : Nat} {one : ByteArray → α} {p : α → Prop} (h : ∀ s, p (one s)) : ∀ (k : Nat) (s : ByteArray), ∀ x ∈ oneN S one k s, p x
  | 0, s, x, hx => by cases hx
  | k + 1, s, x, hx => by
    rcases List.mem_cons.1 hx with rfl | hx
    · exact h s
    · exact oneN_all h k _ x hx
/-- what is read of bytes: none where they are wrong -/
def readC {α : Type} [DecidableEq α] (S : Nat) (one : ByteArray → α) (lt : α → α → Bool) (v : ByteArray) : Option (List α) :=
  if v.size = 0 ∨ v.size % S ≠ 0 then none
  else if 64 < (dd (srt lt (oneN S one (v.size / S) v))).length then none
  else some (dd (srt lt (oneN S one (v.size / S) v)))
theorem srt_rise {α : Type} {lt : α → α → Bool} (hS : SWO lt) (l : List α) : ∀ i a b, (srt lt l)[i]? = some a → (srt lt l)[i + 1]? = some b → lt b a = false := by
  have h := List.pairwise_mergeSort (le := fun x y => !lt y x) (by
    intro a b c h1 h2
    simp only [Bool.not_eq_true'] at h1 h2 ⊢
    exact hS.ntrans c b a h2 h1) (by
    intro a b
    cases h : lt b a with
    | false => simp
    | true => simp [hS.asymmA h]) l
  intro i a b ha hb
  rw [List.pairwise_iff_getElem] at h
  obtain ⟨h1, e1⟩ := List.getElem?_eq_some_iff.1 ha
  obtain ⟨h2, e2⟩ := List.getElem?_eq_some_iff.1 hb
  have h3 := h i (i + 1) h1 h2 (Nat.lt_succ_self i)
  subst e1
  subst e2
  simp only [Bool.not_eq_true'] at h3
  exact h3
theorem readC_ok {α : Type} [DecidableEq α] {S : Nat} {one : ByteArray → α} {lt : α → α → Bool} {v : ByteArray} {l : List α} (hS : SWO lt) (ht : ∀ a b, lt b a = false → a = b ∨ lt a b = true) (h : readC S one lt v = some l) : riseB lt l = true ∧ l.length ≤ 64 := by
  unfold readC at h
  split at h
  · cases h
  · split at h
    · cases h
    · injection h with h
      subst h
      exact ⟨dd_rise lt ht _ (srt_rise hS _), by omega⟩
theorem srt_mem {α : Type} {lt : α → α → Bool} {l : List α} {x : α} : x ∈ srt lt l ↔ x ∈ l := List.mem_mergeSort
theorem readC_all {α : Type} [DecidableEq α] {S : Nat} {one : ByteArray → α} {lt : α → α → Bool} {v : ByteArray} {l : List α} {p : α → Prop} (hp : ∀ s, p (one s)) (h : readC S one lt v = some l) : ∀ x ∈ l, p x := by
  unfold readC at h
  split at h
  · cases h
  · split at h
    · cases h
    · injection h with h
      subst h
      exact fun x hx => oneN_all hp _ _ x (srt_mem.1 ((dd_mem _).1 hx))
def lg12 (s : ByteArray) : Lg := ⟨hd s 4, hd (nx s 4) 4, hd (nx s 8) 4⟩
def take8 (v : ByteArray) (c : AtC) : AtC × Bool := match readC 4 (fun s => hd s 4) ltN v with
  | none => ({ c with comms := [] }, false)
  | some l => ({ c with comms := l }, true)
def take16 (v : ByteArray) (c : AtC) : AtC × Bool := match readC 8 (fun s => hd s 8) ltN v with
  | none => ({ c with exts := [] }, false)
  | some l => ({ c with exts := l }, true)
def take32 (v : ByteArray) (c : AtC) : AtC × Bool := match readC 12 lg12 ltL v with
  | none => ({ c with larges := [] }, false)
  | some l => ({ c with larges := l }, true)
/-- what takes each type -/
def tab (n : Nat) (v : ByteArray) (four : Bool) (c : AtC) : AtC × Bool :=
  if n = 1 then take1 v c else
  if n = 2 then take2 v four c else
  if n = 3 then take3 v c else
  if n = 4 then take4 v c else
  if n = 5 then take5 v c else
  if n = 6 then take6 v c else
  if n = 7 then take7 v four c else
  if n = 8 then take8 v c else
  if n = 9 then take9 v c else
  if n = 10 then take10 v c else
  if n = 16 then take16 v c else take32 v c
/-- the types that are known -/
theorem row_known {t : Nat} {b wr : Int} {i : Bool} {f : FuncId} (h : rowF t = some (b, wr, i, f)) : t = 1 ∨ t = 2 ∨ t = 3 ∨ t = 4 ∨ t = 5 ∨ t = 6 ∨ t = 7 ∨ t = 8 ∨ t = 9 ∨ t = 10 ∨ t = 16 ∨ t = 32 := by
  unfold rowF at h
  by_cases h1 : t = 1
  · omega
  by_cases h2 : t = 2
  · omega
  by_cases h3 : t = 3
  · omega
  by_cases h4 : t = 4
  · omega
  by_cases h5 : t = 5
  · omega
  by_cases h6 : t = 6
  · omega
  by_cases h7 : t = 7
  · omega
  by_cases h8 : t = 8
  · omega
  by_cases h9 : t = 9
  · omega
  by_cases h10 : t = 10
  · omega
  by_cases h16 : t = 16
  · omega
  by_cases h32 : t = 32
  · omega
  rw [if_neg h1, if_neg h2, if_neg h3, if_neg h4, if_neg h5, if_neg h6, if_neg h7, if_neg h8, if_neg h9, if_neg h10, if_neg h16, if_neg h32] at h
  cases h
end Go.Proofs.YtkcojblflebomaaGreat
set_option linter.unusedVariables false
set_option linter.unusedSimpArgs false
namespace Go.Proofs.YtkcojblflebomaaGreat
open Go.RowKit Go.MapKept Go.Shelf
open Go.Lib hiding intOf
open Go.Sort hiding Below

/-- what a list read of bytes is answered as -/
def RcPost {α : Type} (base : Nat) (T : TypeId) (C : Nat) (F : α → List Value) : Option (List α) → World → Ending → Prop
  | none, w', e => ∃ n : Int, e = .returned (.tuple #[.slice none 0 0, .int .i64 n]) ∧ (n = 3 ∨ n = 4)
  | some l, w', e => ∃ v, e = .returned (.tuple #[v, .int .i64 0]) ∧ OwnL w' base T C F v l
theorem readC_none {α : Type} [DecidableEq α] {S : Nat} {one : ByteArray → α} {lt : α → α → Bool} {v : ByteArray} (h : v.size = 0 ∨ v.size % S ≠ 0) : readC S one lt v = none := if_pos h
theorem readC_long {α : Type} [DecidableEq α] {S : Nat} {one : ByteArray → α} {lt : α → α → Bool} {v : ByteArray} (h0 : v.size ≠ 0) (h1 : v.size % S = 0) (h : 64 < (dd (srt lt (oneN S one (v.size / S) v))).length) : readC S one lt v = none := by
  unfold readC
  rw [if_neg (by omega), if_pos h]
theorem readC_some {α : Type} [DecidableEq α] {S : Nat} {one : ByteArray → α} {lt : α → α → Bool} {v : ByteArray} (h0 : v.size ≠ 0) (h1 : v.size % S = 0) (h : ¬ 64 < (dd (srt lt (oneN S one (v.size / S) v))).length) : readC S one lt v = some (dd (srt lt (oneN S one (v.size / S) v))) := by
  unfold readC
  rw [if_neg (by omega), if_neg h]
set_option maxRecDepth 100000 in
set_option maxHeartbeats 16000000 in
theorem cread_u32 (s : ByteArray) (w : World) (hm : (s.size : Int) ≤ 140737488351232) :
    Calls Tryz.prog 112 #[.string s, .int .i64 4, .func (.func 57) #[] #[], .func (.func 113) #[] #[]] w fun e w' => RcPost (w.heap.size + 1) 35 1 u1 (readC 4 (fun s => hd s 4) ltN s) w' e ∧ Below w.heap.size w w' := by
  have HNEW := Lib.hid new_any
  have HLE := Lib.hid left_any
  have HON : Hid (∀ (b : Nat) (t : ByteArray) (W : World), RdAt W b t → 4 ≤ t.size → (t.size : Int) ≤ 140737488351232 → Calls Tryz.prog 113 #[.pointer (some ⟨b, 0, none⟩)] W fun e w' => e = .returned (.int .u32 (hd t 4 : Nat)) ∧ RdAt w' b (nx t 4) ∧ W.grownBy w' (some b)) := fun b t W h1 h2 h3 => one4 b t W h1 h2 h3
  have HSO := Lib.hid sort_u32
  have HCU := Lib.hid cut_u32
  obtain ⟨i0, hi, hz0, hz1, hz2⟩ := info_parts infoU32
  have HI := Lib.hid hi
  have HZ0 := Lib.hid hz0
  have HZ1 := Lib.hid hz1
  have HZ2 := Lib.hid hz2
  have z0 := bytes_none s
  obtain ⟨q0, hq0⟩ : ∃ q, q = (s.size == 0) := ⟨_, rfl⟩
  rw [← hq0] at z0
  clear hi hz0 hz1 hz2
  by_cases hb0 : s.size = 0
  · have HT : Hid (readC 4 (fun s => hd s 4) ltN s = none) := readC_none (.inl hb0)
    obtain rfl : q0 = true := by rw [hq0, hb0]; rfl
    clear hq0 hb0
    go_enter Tryz.func112, Tryz.ntmps112
    go_wp2_with fail
    go_ret2
    refine ⟨?_, Below.refl _ _⟩
    rw [HT.out]
    exact ⟨4, rfl, .inr rfl⟩
  obtain rfl : q0 = false := by rw [hq0]; exact beq_eq_false_iff_ne.2 hb0
  clear hq0
  by_cases hb1 : s.size % 4 = 0
  case neg =>
    have HT : Hid (readC 4 (fun s => hd s 4) ltN s = none) := readC_none (.inr hb1)
    have z1 : ((s.size : Int) % 4 != 0) = true := bne_iff_ne.2 (by omega)
    have z1' : ((s.size : Int) % 4 == 0) = false := beq_eq_false_iff_ne.2 (by omega)
    have z2 : ((s.size : Int).tmod 4 != 0) = true := by rw [Int.tmod_eq_emod_of_nonneg (by omega)]; exact z1
    have z2' : ((s.size : Int).tmod 4 == 0) = false := by rw [Int.tmod_eq_emod_of_nonneg (by omega)]; exact z1'
    clear hb1
    go_enter Tryz.func112, Tryz.ntmps112
    go_wp2_with fail
    go_ret2
    refine ⟨?_, Below.refl _ _⟩
    rw [HT.out]
    exact ⟨4, rfl, .inr rfl⟩
  have z1 : ((s.size : Int) % 4 != 0) = false := by
    have : (s.size : Int) % 4 = 0 := by omega
    rw [this]
    rfl
  have z1' : ((s.size : Int) % 4 == 0) = true := beq_iff_eq.2 (by omega)
  have z2 : ((s.size : Int).tmod 4 != 0) = false := by rw [Int.tmod_eq_emod_of_nonneg (by omega)]; exact z1
  have z2' : ((s.size : Int).tmod 4 == 0) = true := by rw [Int.tmod_eq_emod_of_nonneg (by omega)]; exact z1'
  have HB0 := Lib.hid hb0
  have HB1 := Lib.hid hb1
  have HTL : Hid (64 < (dd (srt ltN (oneN 4 (fun s => hd s 4) (s.size / 4) s))).length → readC 4 (fun s => hd s 4) ltN s = none) := fun h => readC_long hb0 hb1 h
  have HTS : Hid (¬ 64 < (dd (srt ltN (oneN 4 (fun s => hd s 4) (s.size / 4) s))).length → readC 4 (fun s => hd s 4) ltN s = some (dd (srt ltN (oneN 4 (fun s => hd s 4) (s.size / 4) s)))) := fun h => readC_some hb0 hb1 h
  generalize readC 4 (fun s => hd s 4) ltN s = RES at HTL HTS ⊢
  clear hb1 hb0
  go_enter Tryz.func112, Tryz.ntmps112
  go_wp2_with fail
  refine (HNEW.out s w).mono ?_
  rintro e w1 ⟨rfl, hw1⟩
  have HR1 : Hid (RdAt w1 w.heap.size s) := by
    show RdAt _ _ _
    rw [hw1]
    exact heap_alloc_new w _
  have HBL1 : Hid (Below w.heap.size w w1) := by
    rw [hw1]
    exact (Below.refl _ _).alloc (Nat.le_refl _) _
  clear hw1
  go_wp2_with fail
  go_loopw [11] (fun ov wr => ∃ (k : Nat) (A : Option Addr) (cK : Nat), ov = .slice A k cK ∧ k * 4 ≤ s.size ∧ Hid (RdAt wr w.heap.size (nxN 4 k s)) ∧ Hid (OwnL wr (w.heap.size + 1) 35 1 u1 (.slice A k cK) (oneN 4 (fun s => hd s 4) k s)) ∧ Hid (Below w.heap.size w wr)) (fun _x wr => mRd wr w.heap.size)
  case atStart => exact ⟨0, none, 0, rfl, by omega, HR1.out, OwnL.nil _ _ _ _ _, HBL1.out⟩
  case round =>
    clear HR1 HBL1
    obtain ⟨k, A, cK, rfl, hk, HR, HOW, HBB⟩ := hrel
    have hrl := HR.out.lt
    have hts : (nxN 4 k s).size = s.size - k * 4 := nxN_size 4 k s
    have HNX := Lib.hid (nxN_succ 4 k s)
    have HAS := Lib.hid (oneN_succ 4 (fun s => hd s 4) k s)
    have HMR := Lib.hid (mRd_at HR.out)
    obtain ⟨t, ht⟩ : ∃ t, t = nxN 4 k s := ⟨_, rfl⟩
    rw [← ht] at HR hts HNX HAS HMR
    clear ht
    go_wp2_with fail
    refine (HLE.out w.heap.size t _ HR.out).mono ?_
    rintro e w2 ⟨rfl, rfl⟩
    by_cases hlt : k * 4 < s.size
    · have h4 : 4 ≤ t.size := by have := HB1.out; omega
      have h0 : (4 : Int) ≤ (t.size : Int) := by omega
      go_wp2_with fail
      refine (HON.out w.heap.size t _ HR.out h4 (by omega)).mono ?_
      rintro e w3 ⟨rfl, hr3, hg3⟩
      have HR3 : Hid (RdAt w3 w.heap.size (nx t 4)) := hr3
      have HOW3 : Hid (OwnL w3 (w.heap.size + 1) 35 1 u1 (.slice A k cK) (oneN 4 (fun s => hd s 4) k s)) := HOW.out.off hg3 (show CellsAt w2 w.heap.size #[.bool true, .string t] 110 from HR.out) (by decide)
      have HBB3 : Hid (Below w.heap.size w w3) := HBB.out.grown hg3 (by have := HBB.out.size; omega) (fun q hq => by cases hq; exact Nat.le_refl _)
      have hrl3 : w.heap.size < w3.heap.size := Nat.lt_of_lt_of_le hrl hg3.size
      have HSZ : Hid ((nx t 4).size = t.size - 4) := nx_size t 4
      have HMEAS : Hid (mRd w2 w.heap.size = t.size) := HMR.out
      obtain ⟨x, hx⟩ : ∃ x, x = hd t 4 := ⟨_, rfl⟩
      rw [← hx] at HAS ⊢
      clear hr3 hg3 hx HR HOW HBB HMR
      have HCB : Hid (CellsAt (w3.alloc (.cells #[.int .u32 (x : Nat)] 35)) w3.heap.size #[.int .u32 (x : Nat)] 35) := CellsAt.new _ _ _
      have HS := Lib.hid (Src.block (P := Tryz.prog) (t2 := 36) (size := 1) (m := 1) (c := 1) Tryz.underlying36 HCB.out rfl (by simp [Value.oneCell']))
      have HOa := Lib.hid (HOW3.out.alloc (.cells #[.int .u32 (x : Nat)] 35))
      have HBS : Hid (w.heap.size + 1 ≤ (w3.alloc (.cells #[.int .u32 (x : Nat)] 35)).heap.size) := by show _ ≤ _; simp; omega
      have HM : Hid (k + 1 ≤ maxLen) := by show _ ≤ _; unfold maxLen; omega
      have HY : Hid ((k + 1) * 4 ≤ 140737488355328) := by show _ ≤ _; omega
      have HOB : Hid (OwnM (w3.alloc (.cells #[.int .u32 (x : Nat)] 35)) (w.heap.size + 1) 35 1 (.slice A k cK) k ((oneN 4 (fun s => hd s 4) k s).flatMap u1)) := by
        have h := HOa.out
        unfold OwnL at h
        rwa [oneN_len] at h
      have HRa : Hid (RdAt (w3.alloc (.cells #[.int .u32 (x : Nat)] 35)) w.heap.size (nx t 4)) := (Below.heap_alloc _ _ _ HR3.out.lt).trans HR3.out
      have HBa : Hid (Below w.heap.size w (w3.alloc (.cells #[.int .u32 (x : Nat)] 35))) := HBB3.out.alloc (by omega) _
      go_wp2_with (at_builtin; refine wpList_append_m rfl (.tmp 27) (.tmp 31) 36 36 rfl (w.heap.size + 1) 35 i0 _ 1 4 Tryz.underlying36 HI.out HZ0.out HZ1.out HZ2.out rfl (by decide) (.slice A k cK) k ((oneN 4 (fun s => hd s 4) k s).flatMap u1) rfl HOB.out _ 1 _ rfl HS.out HM.out HY.out HBS.out ?_)
      intro v' w5 hown hgr hat
      obtain ⟨A6, c6, rfl⟩ := hown.form
      have hob : ∀ q, (Value.slice A k cK).ownBlock = some q → w.heap.size + 1 ≤ q := fun q hq => (OwnM.lt HOB.out q hq).1
      have HN5 : Hid (OwnL w5 (w.heap.size + 1) 35 1 u1 (.slice A6 (k + 1) c6) (oneN 4 (fun s => hd s 4) (k + 1) s)) := by
        show OwnL _ _ _ _ _ _ _
        rw [HAS.out]
        refine OwnL.snoc ?_
        rw [oneN_len]
        exact hown
      have HR5 : Hid (RdAt w5 w.heap.size (nxN 4 (k + 1) s)) := by
        show RdAt _ _ _
        rw [HNX.out]
        exact (hgr.block _ HRa.out.lt (fun e => by have := hob _ e.symm; omega)).trans HRa.out
      have HBB5 : Hid (Below w.heap.size w w5) := HBa.out.grown hgr (by simp; omega) (fun q hq => by have := hob _ hq; omega)
      clear hown hgr hat hob HOB HOa HRa HBa
      go_wp2_with fail
      refine ⟨⟨k + 1, A6, c6, rfl, by omega, HR5.out, HN5.out, HBB5.out⟩, ?_⟩
      show mRd _ _ < mRd _ _
      rw [mRd_at HR5.out, HMEAS.out, HNX.out, HSZ.out]
      omega
    · have hke : s.size / 4 = k := by have := HB1.out; omega
      have ht0 : ¬ (4 : Int) ≤ (t.size : Int) := by omega
      have HOWk := HOW
      rw [← hke] at HOWk
      have HKS : Hid (k ≤ 140737488351232) := by show k ≤ _; omega
      have HL1 : Hid ((srt ltN (oneN 4 (fun s => hd s 4) (s.size / 4) s)).length = k) := by show _ = _; rw [srt_len, oneN_len, hke]
      have HLD : Hid ((dd (srt ltN (oneN 4 (fun s => hd s 4) (s.size / 4) s))).length ≤ k) := by have := dd_len (srt ltN (oneN 4 (fun s => hd s 4) (s.size / 4) s)); have h2 := HL1.out; show _ ≤ _; omega
      have HOL : Hid (∃ L, L = oneN 4 (fun s => hd s 4) (s.size / 4) s ∧ L.length = k ∧ OwnL w2 (w.heap.size + 1) 35 1 u1 (.slice A k cK) L) := ⟨_, rfl, by rw [oneN_len]; exact hke, by rw [hke]; exact HOW.out⟩
      clear HOWk HOW hke HAS HNX HMR HR
      obtain ⟨L, hLe, hLk, hLo⟩ := HOL.out
      rw [← hLe] at HTL HTS HL1 HLD
      have HLO := Lib.hid hLo
      have HLK := Lib.hid hLk
      clear hLe hLk hLo HOL
      go_wp2_with fail
      refine (HSO.out _ (w.heap.size + 1) (.slice A k cK) L HLO.out (by rw [HLK.out]; have := HKS.out; omega)).mono ?_
      rintro e w6 ⟨rfl, ho6, hg6⟩
      have HO6 := Lib.hid ho6
      have HB6 : Hid (Below w.heap.size w w6) := OwnM.below_grown HLO.out hg6 HBB.out (by have := HBB.out.size; exact this) (by omega)
      clear ho6 hg6 HBB HLO
      go_wp2_with fail
      refine (HCU.out _ (w.heap.size + 1) (.slice A k cK) (srt ltN L) HO6.out (by rw [HL1.out]; have := HKS.out; omega)).mono ?_
      rintro e w7 ⟨v7, rfl, ho7, hg7, hv7⟩
      have HB7 : Hid (Below w.heap.size w w7) := OwnM.below_grown HO6.out hg7 HB6.out (by have := HB6.out.size; exact this) (by omega)
      obtain ⟨A7, c7, rfl⟩ := ho7.form
      have HO7 := Lib.hid ho7
      clear ho7 hg7 hv7 HB6 HO6
      by_cases h64 : 64 < (dd (srt ltN L)).length
      · have HRN := Lib.hid (HTL.out h64)
        obtain ⟨m, hmm⟩ : ∃ m, m = (dd (srt ltN L)).length := ⟨_, rfl⟩
        rw [← hmm] at h64 ⊢
        have h64' : (64 : Int) < (m : Int) := by omega
        clear HTL HTS HLD HO7 hmm
        go_wp2_with fail
        go_ret2
        refine ⟨?_, HB7.out⟩
        rw [HRN.out]
        exact ⟨3, rfl, .inl rfl⟩
      · have HRN := Lib.hid (HTS.out h64)
        have HOF : Hid (RES = some (dd (srt ltN L)) ∧ OwnL w7 (w.heap.size + 1) 35 1 u1 (.slice A7 (dd (srt ltN L)).length c7) (dd (srt ltN L))) := ⟨HRN.out, HO7.out⟩
        clear HTL HTS HLD HRN HO7
        generalize dd (srt ltN L) = D at h64 HOF ⊢
        obtain ⟨m, hmm⟩ : ∃ m, m = D.length := ⟨_, rfl⟩
        rw [← hmm] at h64 HOF ⊢
        have h64' : ¬ (64 : Int) < (m : Int) := by omega
        clear hmm
        go_wp2_with fail
        go_ret2
        refine ⟨?_, HB7.out⟩
        rw [HOF.out.1]
        exact ⟨_, rfl, HOF.out.2⟩
set_option maxRecDepth 100000 in
set_option maxHeartbeats 16000000 in
theorem cread_u64 (s : ByteArray) (w : World) (hm : (s.size : Int) ≤ 140737488351232) :
    Calls Tryz.prog 114 #[.string s, .int .i64 8, .func (.func 59) #[] #[], .func (.func 115) #[] #[]] w fun e w' => RcPost (w.heap.size + 1) 57 1 x1 (readC 8 (fun s => hd s 8) ltN s) w' e ∧ Below w.heap.size w w' := by
  have HNEW := Lib.hid new_any
  have HLE := Lib.hid left_any
  have HON : Hid (∀ (b : Nat) (t : ByteArray) (W : World), RdAt W b t → 8 ≤ t.size → (t.size : Int) ≤ 140737488351232 → Calls Tryz.prog 115 #[.pointer (some ⟨b, 0, none⟩)] W fun e w' => e = .returned (.int .u64 (hd t 8 : Nat)) ∧ RdAt w' b (nx t 8) ∧ W.grownBy w' (some b)) := fun b t W h1 h2 h3 => one8 b t W h1 h2 h3
  have HSO := Lib.hid sort_u64
  have HCU := Lib.hid cut_u64
  obtain ⟨i0, hi, hz0, hz1, hz2⟩ := info_parts infoU64
  have HI := Lib.hid hi
  have HZ0 := Lib.hid hz0
  have HZ1 := Lib.hid hz1
  have HZ2 := Lib.hid hz2
  have z0 := bytes_none s
  obtain ⟨q0, hq0⟩ : ∃ q, q = (s.size == 0) := ⟨_, rfl⟩
  rw [← hq0] at z0
  clear hi hz0 hz1 hz2
  by_cases hb0 : s.size = 0
  · have HT : Hid (readC 8 (fun s => hd s 8) ltN s = none) := readC_none (.inl hb0)
    obtain rfl : q0 = true := by rw [hq0, hb0]; rfl
    clear hq0 hb0
    go_enter Tryz.func114, Tryz.ntmps114
    go_wp2_with fail
    go_ret2
    refine ⟨?_, Below.refl _ _⟩
    rw [HT.out]
    exact ⟨4, rfl, .inr rfl⟩
  obtain rfl : q0 = false := by rw [hq0]; exact beq_eq_false_iff_ne.2 hb0
  clear hq0
  by_cases hb1 : s.size % 8 = 0
  case neg =>
    have HT : Hid (readC 8 (fun s => hd s 8) ltN s = none) := readC_none (.inr hb1)
    have z1 : ((s.size : Int) % 8 != 0) = true := bne_iff_ne.2 (by omega)
    have z1' : ((s.size : Int) % 8 == 0) = false := beq_eq_false_iff_ne.2 (by omega)
    have z2 : ((s.size : Int).tmod 8 != 0) = true := by rw [Int.tmod_eq_emod_of_nonneg (by omega)]; exact z1
    have z2' : ((s.size : Int).tmod 8 == 0) = false := by rw [Int.tmod_eq_emod_of_nonneg (by omega)]; exact z1'
    clear hb1
    go_enter Tryz.func114, Tryz.ntmps114
    go_wp2_with fail
    go_ret2
    refine ⟨?_, Below.refl _ _⟩
    rw [HT.out]
    exact ⟨4, rfl, .inr rfl⟩
  have z1 : ((s.size : Int) % 8 != 0) = false := by
    have : (s.size : Int) % 8 = 0 := by omega
    rw [this]
    rfl
  have z1' : ((s.size : Int) % 8 == 0) = true := beq_iff_eq.2 (by omega)
  have z2 : ((s.size : Int).tmod 8 != 0) = false := by rw [Int.tmod_eq_emod_of_nonneg (by omega)]; exact z1
  have z2' : ((s.size : Int).tmod 8 == 0) = true := by rw [Int.tmod_eq_emod_of_nonneg (by omega)]; exact z1'
  have HB0 := Lib.hid hb0
  have HB1 := Lib.hid hb1
  have HTL : Hid (64 < (dd (srt ltN (oneN 8 (fun s => hd s 8) (s.size / 8) s))).length → readC 8 (fun s => hd s 8) ltN s = none) := fun h => readC_long hb0 hb1 h
  have HTS : Hid (¬ 64 < (dd (srt ltN (oneN 8 (fun s => hd s 8) (s.size / 8) s))).length → readC 8 (fun s => hd s 8) ltN s = some (dd (srt ltN (oneN 8 (fun s => hd s 8) (s.size / 8) s)))) := fun h => readC_some hb0 hb1 h
  generalize readC 8 (fun s => hd s 8) ltN s = RES at HTL HTS ⊢
  clear hb1 hb0
  go_enter Tryz.func114, Tryz.ntmps114
  go_wp2_with fail
  refine (HNEW.out s w).mono ?_
  rintro e w1 ⟨rfl, hw1⟩
  have HR1 : Hid (RdAt w1 w.heap.size s) := by
    show RdAt _ _ _
    rw [hw1]
    exact heap_alloc_new w _
  have HBL1 : Hid (Below w.heap.size w w1) := by
    rw [hw1]
    exact (Below.refl _ _).alloc (Nat.le_refl _) _
  clear hw1
  go_wp2_with fail
  go_loopw [11] (fun ov wr => ∃ (k : Nat) (A : Option Addr) (cK : Nat), ov = .slice A k cK ∧ k * 8 ≤ s.size ∧ Hid (RdAt wr w.heap.size (nxN 8 k s)) ∧ Hid (OwnL wr (w.heap.size + 1) 57 1 x1 (.slice A k cK) (oneN 8 (fun s => hd s 8) k s)) ∧ Hid (Below w.heap.size w wr)) (fun _x wr => mRd wr w.heap.size)
  case atStart => exact ⟨0, none, 0, rfl, by omega, HR1.out, OwnL.nil _ _ _ _ _, HBL1.out⟩
  case round =>
    clear HR1 HBL1
    obtain ⟨k, A, cK, rfl, hk, HR, HOW, HBB⟩ := hrel
    have hrl := HR.out.lt
    have hts : (nxN 8 k s).size = s.size - k * 8 := nxN_size 8 k s
    have HNX := Lib.hid (nxN_succ 8 k s)
    have HAS := Lib.hid (oneN_succ 8 (fun s => hd s 8) k s)
    have HMR := Lib.hid (mRd_at HR.out)
    obtain ⟨t, ht⟩ : ∃ t, t = nxN 8 k s := ⟨_, rfl⟩
    rw [← ht] at HR hts HNX HAS HMR
    clear ht
    go_wp2_with fail
    refine (HLE.out w.heap.size t _ HR.out).mono ?_
    rintro e w2 ⟨rfl, rfl⟩
    by_cases hlt : k * 8 < s.size
    · have h4 : 8 ≤ t.size := by have := HB1.out; omega
      have h0 : (8 : Int) ≤ (t.size : Int) := by omega
      go_wp2_with fail
      refine (HON.out w.heap.size t _ HR.out h4 (by omega)).mono ?_
      rintro e w3 ⟨rfl, hr3, hg3⟩
      have HR3 : Hid (RdAt w3 w.heap.size (nx t 8)) := hr3
      have HOW3 : Hid (OwnL w3 (w.heap.size + 1) 57 1 x1 (.slice A k cK) (oneN 8 (fun s => hd s 8) k s)) := HOW.out.off hg3 (show CellsAt w2 w.heap.size #[.bool true, .string t] 110 from HR.out) (by decide)
      have HBB3 : Hid (Below w.heap.size w w3) := HBB.out.grown hg3 (by have := HBB.out.size; omega) (fun q hq => by cases hq; exact Nat.le_refl _)
      have hrl3 : w.heap.size < w3.heap.size := Nat.lt_of_lt_of_le hrl hg3.size
      have HSZ : Hid ((nx t 8).size = t.size - 8) := nx_size t 8
      have HMEAS : Hid (mRd w2 w.heap.size = t.size) := HMR.out
      obtain ⟨x, hx⟩ : ∃ x, x = hd t 8 := ⟨_, rfl⟩
      rw [← hx] at HAS ⊢
      clear hr3 hg3 hx HR HOW HBB HMR
      have HCB : Hid (CellsAt (w3.alloc (.cells #[.int .u64 (x : Nat)] 57)) w3.heap.size #[.int .u64 (x : Nat)] 57) := CellsAt.new _ _ _
      have HS := Lib.hid (Src.block (P := Tryz.prog) (t2 := 37) (size := 1) (m := 1) (c := 1) Tryz.underlying37 HCB.out rfl (by simp [Value.oneCell']))
      have HOa := Lib.hid (HOW3.out.alloc (.cells #[.int .u64 (x : Nat)] 57))
      have HBS : Hid (w.heap.size + 1 ≤ (w3.alloc (.cells #[.int .u64 (x : Nat)] 57)).heap.size) := by show _ ≤ _; simp; omega
      have HM : Hid (k + 1 ≤ maxLen) := by show _ ≤ _; unfold maxLen; omega
      have HY : Hid ((k + 1) * 8 ≤ 140737488355328) := by show _ ≤ _; omega
      have HOB : Hid (OwnM (w3.alloc (.cells #[.int .u64 (x : Nat)] 57)) (w.heap.size + 1) 57 1 (.slice A k cK) k ((oneN 8 (fun s => hd s 8) k s).flatMap x1)) := by
        have h := HOa.out
        unfold OwnL at h
        rwa [oneN_len] at h
      have HRa : Hid (RdAt (w3.alloc (.cells #[.int .u64 (x : Nat)] 57)) w.heap.size (nx t 8)) := (Below.heap_alloc _ _ _ HR3.out.lt).trans HR3.out
      have HBa : Hid (Below w.heap.size w (w3.alloc (.cells #[.int .u64 (x : Nat)] 57))) := HBB3.out.alloc (by omega) _
      go_wp2_with (at_builtin; refine wpList_append_m rfl (.tmp 27) (.tmp 31) 37 37 rfl (w.heap.size + 1) 57 i0 _ 1 8 Tryz.underlying37 HI.out HZ0.out HZ1.out HZ2.out rfl (by decide) (.slice A k cK) k ((oneN 8 (fun s => hd s 8) k s).flatMap x1) rfl HOB.out _ 1 _ rfl HS.out HM.out HY.out HBS.out ?_)
      intro v' w5 hown hgr hat
      obtain ⟨A6, c6, rfl⟩ := hown.form
      have hob : ∀ q, (Value.slice A k cK).ownBlock = some q → w.heap.size + 1 ≤ q := fun q hq => (OwnM.lt HOB.out q hq).1
      have HN5 : Hid (OwnL w5 (w.heap.size + 1) 57 1 x1 (.slice A6 (k + 1) c6) (oneN 8 (fun s => hd s 8) (k + 1) s)) := by
        show OwnL _ _ _ _ _ _ _
        rw [HAS.out]
        refine OwnL.snoc ?_
        rw [oneN_len]
        exact hown
      have HR5 : Hid (RdAt w5 w.heap.size (nxN 8 (k + 1) s)) := by
        show RdAt _ _ _
        rw [HNX.out]
        exact (hgr.block _ HRa.out.lt (fun e => by have := hob _ e.symm; omega)).trans HRa.out
      have HBB5 : Hid (Below w.heap.size w w5) := HBa.out.grown hgr (by simp; omega) (fun q hq => by have := hob _ hq; omega)
      clear hown hgr hat hob HOB HOa HRa HBa
      go_wp2_with fail
      refine ⟨⟨k + 1, A6, c6, rfl, by omega, HR5.out, HN5.out, HBB5.out⟩, ?_⟩
      show mRd _ _ < mRd _ _
      rw [mRd_at HR5.out, HMEAS.out, HNX.out, HSZ.out]
      omega
    · have hke : s.size / 8 = k := by have := HB1.out; omega
      have ht0 : ¬ (8 : Int) ≤ (t.size : Int) := by omega
      have HOWk := HOW
      rw [← hke] at HOWk
      have HKS : Hid (k ≤ 140737488351232) := by show k ≤ _; omega
      have HL1 : Hid ((srt ltN (oneN 8 (fun s => hd s 8) (s.size / 8) s)).length = k) := by show _ = _; rw [srt_len, oneN_len, hke]
      have HLD : Hid ((dd (srt ltN (oneN 8 (fun s => hd s 8) (s.size / 8) s))).length ≤ k) := by have := dd_len (srt ltN (oneN 8 (fun s => hd s 8) (s.size / 8) s)); have h2 := HL1.out; show _ ≤ _; omega
      have HOL : Hid (∃ L, L = oneN 8 (fun s => hd s 8) (s.size / 8) s ∧ L.length = k ∧ OwnL w2 (w.heap.size + 1) 57 1 x1 (.slice A k cK) L) := ⟨_, rfl, by rw [oneN_len]; exact hke, by rw [hke]; exact HOW.out⟩
      clear HOWk HOW hke HAS HNX HMR HR
      obtain ⟨L, hLe, hLk, hLo⟩ := HOL.out
      rw [← hLe] at HTL HTS HL1 HLD
      have HLO := Lib.hid hLo
      have HLK := Lib.hid hLk
      clear hLe hLk hLo HOL
      go_wp2_with fail
      refine (HSO.out _ (w.heap.size + 1) (.slice A k cK) L HLO.out (by rw [HLK.out]; have := HKS.out; omega)).mono ?_
      rintro e w6 ⟨rfl, ho6, hg6⟩
      have HO6 := Lib.hid ho6
      have HB6 : Hid (Below w.heap.size w w6) := OwnM.below_grown HLO.out hg6 HBB.out (by have := HBB.out.size; exact this) (by omega)
      clear ho6 hg6 HBB HLO
      go_wp2_with fail
      refine (HCU.out _ (w.heap.size + 1) (.slice A k cK) (srt ltN L) HO6.out (by rw [HL1.out]; have := HKS.out; omega)).mono ?_
      rintro e w7 ⟨v7, rfl, ho7, hg7, hv7⟩
      have HB7 : Hid (Below w.heap.size w w7) := OwnM.below_grown HO6.out hg7 HB6.out (by have := HB6.out.size; exact this) (by omega)
      obtain ⟨A7, c7, rfl⟩ := ho7.form
      have HO7 := Lib.hid ho7
      clear ho7 hg7 hv7 HB6 HO6
      by_cases h64 : 64 < (dd (srt ltN L)).length
      · have HRN := Lib.hid (HTL.out h64)
        obtain ⟨m, hmm⟩ : ∃ m, m = (dd (srt ltN L)).length := ⟨_, rfl⟩
        rw [← hmm] at h64 ⊢
        have h64' : (64 : Int) < (m : Int) := by omega
        clear HTL HTS HLD HO7 hmm
        go_wp2_with fail
        go_ret2
        refine ⟨?_, HB7.out⟩
        rw [HRN.out]
        exact ⟨3, rfl, .inl rfl⟩
      · have HRN := Lib.hid (HTS.out h64)
        have HOF : Hid (RES = some (dd (srt ltN L)) ∧ OwnL w7 (w.heap.size + 1) 57 1 x1 (.slice A7 (dd (srt ltN L)).length c7) (dd (srt ltN L))) := ⟨HRN.out, HO7.out⟩
        clear HTL HTS HLD HRN HO7
        generalize dd (srt ltN L) = D at h64 HOF ⊢
        obtain ⟨m, hmm⟩ : ∃ m, m = D.length := ⟨_, rfl⟩
        rw [← hmm] at h64 HOF ⊢
        have h64' : ¬ (64 : Int) < (m : Int) := by omega
        clear hmm
        go_wp2_with fail
        go_ret2
        refine ⟨?_, HB7.out⟩
        rw [HOF.out.1]
        exact ⟨_, rfl, HOF.out.2⟩
set_option maxRecDepth 100000 in
set_option maxHeartbeats 16000000 in
theorem cread_L (s : ByteArray) (w : World) (hm : (s.size : Int) ≤ 140737488351232) :
    Calls Tryz.prog 116 #[.string s, .int .i64 12, .func (.func 104) #[] #[], .func (.func 117) #[] #[]] w fun e w' => RcPost (w.heap.size + 1) 59 3 Lg.cs (readC 12 lg12 ltL s) w' e ∧ Below w.heap.size w w' := by
  have HNEW := Lib.hid new_any
  have HLE := Lib.hid left_any
  have HON : Hid (∀ (b : Nat) (t : ByteArray) (W : World), RdAt W b t → 12 ≤ t.size → (t.size : Int) ≤ 140737488351232 → Calls Tryz.prog 117 #[.pointer (some ⟨b, 0, none⟩)] W fun e w' => e = .returned (.agg #[.int .u32 ((lg12 t).g : Nat), .int .u32 ((lg12 t).a : Nat), .int .u32 ((lg12 t).b : Nat)]) ∧ RdAt w' b (nx t 12) ∧ W.grownBy w' (some b)) := fun b t W h1 h2 h3 => one12 b t W h1 h2 h3
  have HSO := Lib.hid sort_L
  have HCU := Lib.hid cut_L
  obtain ⟨i0, hi, hz0, hz1, hz2⟩ := info_parts infoLg
  have HI := Lib.hid hi
  have HZ0 := Lib.hid hz0
  have HZ1 := Lib.hid hz1
  have HZ2 := Lib.hid hz2
  have z0 := bytes_none s
  obtain ⟨q0, hq0⟩ : ∃ q, q = (s.size == 0) := ⟨_, rfl⟩
  rw [← hq0] at z0
  clear hi hz0 hz1 hz2
  by_cases hb0 : s.size = 0
  · have HT : Hid (readC 12 lg12 ltL s = none) := readC_none (.inl hb0)
    obtain rfl : q0 = true := by rw [hq0, hb0]; rfl
    clear hq0 hb0
    go_enter Tryz.func116, Tryz.ntmps116
    go_wp2_with fail
    go_ret2
    refine ⟨?_, Below.refl _ _⟩
    rw [HT.out]
    exact ⟨4, rfl, .inr rfl⟩
  obtain rfl : q0 = false := by rw [hq0]; exact beq_eq_false_iff_ne.2 hb0
  clear hq0
  by_cases hb1 : s.size % 12 = 0
  case neg =>
    have HT : Hid (readC 12 lg12 ltL s = none) := readC_none (.inr hb1)
    have z1 : ((s.size : Int) % 12 != 0) = true := bne_iff_ne.2 (by omega)
    have z1' : ((s.size : Int) % 12 == 0) = false := beq_eq_false_iff_ne.2 (by omega)
    have z2 : ((s.size : Int).tmod 12 != 0) = true := by rw [Int.tmod_eq_emod_of_nonneg (by omega)]; exact z1
    have z2' : ((s.size : Int).tmod 12 == 0) = false := by rw [Int.tmod_eq_emod_of_nonneg (by omega)]; exact z1'
    clear hb1
    go_enter Tryz.func116, Tryz.ntmps116
    go_wp2_with fail
    go_ret2
    refine ⟨?_, Below.refl _ _⟩
    rw [HT.out]
    exact ⟨4, rfl, .inr rfl⟩
  have z1 : ((s.size : Int) % 12 != 0) = false := by
    have : (s.size : Int) % 12 = 0 := by omega
    rw [this]
    rfl
  have z1' : ((s.size : Int) % 12 == 0) = true := beq_iff_eq.2 (by omega)
  have z2 : ((s.size : Int).tmod 12 != 0) = false := by rw [Int.tmod_eq_emod_of_nonneg (by omega)]; exact z1
  have z2' : ((s.size : Int).tmod 12 == 0) = true := by rw [Int.tmod_eq_emod_of_nonneg (by omega)]; exact z1'
  have HB0 := Lib.hid hb0
  have HB1 := Lib.hid hb1
  have HTL : Hid (64 < (dd (srt ltL (oneN 12 lg12 (s.size / 12) s))).length → readC 12 lg12 ltL s = none) := fun h => readC_long hb0 hb1 h
  have HTS : Hid (¬ 64 < (dd (srt ltL (oneN 12 lg12 (s.size / 12) s))).length → readC 12 lg12 ltL s = some (dd (srt ltL (oneN 12 lg12 (s.size / 12) s)))) := fun h => readC_some hb0 hb1 h
  generalize readC 12 lg12 ltL s = RES at HTL HTS ⊢
  clear hb1 hb0
  go_enter Tryz.func116, Tryz.ntmps116
  go_wp2_with fail
  refine (HNEW.out s w).mono ?_
  rintro e w1 ⟨rfl, hw1⟩
  have HR1 : Hid (RdAt w1 w.heap.size s) := by
    show RdAt _ _ _
    rw [hw1]
    exact heap_alloc_new w _
  have HBL1 : Hid (Below w.heap.size w w1) := by
    rw [hw1]
    exact (Below.refl _ _).alloc (Nat.le_refl _) _
  clear hw1
  go_wp2_with fail
  go_loopw [11] (fun ov wr => ∃ (k : Nat) (A : Option Addr) (cK : Nat), ov = .slice A k cK ∧ k * 12 ≤ s.size ∧ Hid (RdAt wr w.heap.size (nxN 12 k s)) ∧ Hid (OwnL wr (w.heap.size + 1) 59 3 Lg.cs (.slice A k cK) (oneN 12 lg12 k s)) ∧ Hid (Below w.heap.size w wr)) (fun _x wr => mRd wr w.heap.size)
  case atStart => exact ⟨0, none, 0, rfl, by omega, HR1.out, OwnL.nil _ _ _ _ _, HBL1.out⟩
  case round =>
    clear HR1 HBL1
    obtain ⟨k, A, cK, rfl, hk, HR, HOW, HBB⟩ := hrel
    have hrl := HR.out.lt
    have hts : (nxN 12 k s).size = s.size - k * 12 := nxN_size 12 k s
    have HNX := Lib.hid (nxN_succ 12 k s)
    have HAS := Lib.hid (oneN_succ 12 lg12 k s)
    have HMR := Lib.hid (mRd_at HR.out)
    obtain ⟨t, ht⟩ : ∃ t, t = nxN 12 k s := ⟨_, rfl⟩
    rw [← ht] at HR hts HNX HAS HMR
    clear ht
    go_wp2_with fail
    refine (HLE.out w.heap.size t _ HR.out).mono ?_
    rintro e w2 ⟨rfl, rfl⟩
    by_cases hlt : k * 12 < s.size
    · have h4 : 12 ≤ t.size := by have := HB1.out; omega
      have h0 : (12 : Int) ≤ (t.size : Int) := by omega
      go_wp2_with fail
      refine (HON.out w.heap.size t _ HR.out h4 (by omega)).mono ?_
      rintro e w3 ⟨rfl, hr3, hg3⟩
      have HR3 : Hid (RdAt w3 w.heap.size (nx t 12)) := hr3
      have HOW3 : Hid (OwnL w3 (w.heap.size + 1) 59 3 Lg.cs (.slice A k cK) (oneN 12 lg12 k s)) := HOW.out.off hg3 (show CellsAt w2 w.heap.size #[.bool true, .string t] 110 from HR.out) (by decide)
      have HBB3 : Hid (Below w.heap.size w w3) := HBB.out.grown hg3 (by have := HBB.out.size; omega) (fun q hq => by cases hq; exact Nat.le_refl _)
      have hrl3 : w.heap.size < w3.heap.size := Nat.lt_of_lt_of_le hrl hg3.size
      have HSZ : Hid ((nx t 12).size = t.size - 12) := nx_size t 12
      have HMEAS : Hid (mRd w2 w.heap.size = t.size) := HMR.out
      obtain ⟨x, hx⟩ : ∃ x, x = lg12 t := ⟨_, rfl⟩
      rw [← hx] at HAS ⊢
      clear hr3 hg3 hx HR HOW HBB HMR
      have HCB : Hid (CellsAt (w3.alloc (.cells #[.int .u32 (x.g : Nat), .int .u32 (x.a : Nat), .int .u32 (x.b : Nat)] 59)) w3.heap.size #[.int .u32 (x.g : Nat), .int .u32 (x.a : Nat), .int .u32 (x.b : Nat)] 59) := CellsAt.new _ _ _
      have HS := Lib.hid (Src.block (P := Tryz.prog) (t2 := 38) (size := 3) (m := 1) (c := 1) Tryz.underlying38 HCB.out rfl (by simp [Value.oneCell']))
      have HOa := Lib.hid (HOW3.out.alloc (.cells #[.int .u32 (x.g : Nat), .int .u32 (x.a : Nat), .int .u32 (x.b : Nat)] 59))
      have HBS : Hid (w.heap.size + 1 ≤ (w3.alloc (.cells #[.int .u32 (x.g : Nat), .int .u32 (x.a : Nat), .int .u32 (x.b : Nat)] 59)).heap.size) := by show _ ≤ _; simp; omega
      have HM : Hid (k + 1 ≤ maxLen) := by show _ ≤ _; unfold maxLen; omega
      have HY : Hid ((k + 1) * 12 ≤ 140737488355328) := by show _ ≤ _; omega
      have HOB : Hid (OwnM (w3.alloc (.cells #[.int .u32 (x.g : Nat), .int .u32 (x.a : Nat), .int .u32 (x.b : Nat)] 59)) (w.heap.size + 1) 59 3 (.slice A k cK) k ((oneN 12 lg12 k s).flatMap Lg.cs)) := by
        have h := HOa.out
        unfold OwnL at h
        rwa [oneN_len] at h
      have HRa : Hid (RdAt (w3.alloc (.cells #[.int .u32 (x.g : Nat), .int .u32 (x.a : Nat), .int .u32 (x.b : Nat)] 59)) w.heap.size (nx t 12)) := (Below.heap_alloc _ _ _ HR3.out.lt).trans HR3.out
      have HBa : Hid (Below w.heap.size w (w3.alloc (.cells #[.int .u32 (x.g : Nat), .int .u32 (x.a : Nat), .int .u32 (x.b : Nat)] 59))) := HBB3.out.alloc (by omega) _
      go_wp2_with (at_builtin; refine wpList_append_m rfl (.tmp 27) (.tmp 31) 38 38 rfl (w.heap.size + 1) 59 i0 _ 3 12 Tryz.underlying38 HI.out HZ0.out HZ1.out HZ2.out rfl (by decide) (.slice A k cK) k ((oneN 12 lg12 k s).flatMap Lg.cs) rfl HOB.out _ 1 _ rfl HS.out HM.out HY.out HBS.out ?_)
      intro v' w5 hown hgr hat
      obtain ⟨A6, c6, rfl⟩ := hown.form
      have hob : ∀ q, (Value.slice A k cK).ownBlock = some q → w.heap.size + 1 ≤ q := fun q hq => (OwnM.lt HOB.out q hq).1
      have HN5 : Hid (OwnL w5 (w.heap.size + 1) 59 3 Lg.cs (.slice A6 (k + 1) c6) (oneN 12 lg12 (k + 1) s)) := by
        show OwnL _ _ _ _ _ _ _
        rw [HAS.out]
        refine OwnL.snoc ?_
        rw [oneN_len]
        exact hown
      have HR5 : Hid (RdAt w5 w.heap.size (nxN 12 (k + 1) s)) := by
        show RdAt _ _ _
        rw [HNX.out]
        exact (hgr.block _ HRa.out.lt (fun e => by have := hob _ e.symm; omega)).trans HRa.out
      have HBB5 : Hid (Below w.heap.size w w5) := HBa.out.grown hgr (by simp; omega) (fun q hq => by have := hob _ hq; omega)
      clear hown hgr hat hob HOB HOa HRa HBa
      go_wp2_with fail
      refine ⟨⟨k + 1, A6, c6, rfl, by omega, HR5.out, HN5.out, HBB5.out⟩, ?_⟩
      show mRd _ _ < mRd _ _
      rw [mRd_at HR5.out, HMEAS.out, HNX.out, HSZ.out]
      omega
    · have hke : s.size / 12 = k := by have := HB1.out; omega
      have ht0 : ¬ (12 : Int) ≤ (t.size : Int) := by omega
      have HOWk := HOW
      rw [← hke] at HOWk
      have HKS : Hid (k ≤ 140737488351232) := by show k ≤ _; omega
      have HL1 : Hid ((srt ltL (oneN 12 lg12 (s.size / 12) s)).length = k) := by show _ = _; rw [srt_len, oneN_len, hke]
      have HLD : Hid ((dd (srt ltL (oneN 12 lg12 (s.size / 12) s))).length ≤ k) := by have := dd_len (srt ltL (oneN 12 lg12 (s.size / 12) s)); have h2 := HL1.out; show _ ≤ _; omega
      have HOL : Hid (∃ L, L = oneN 12 lg12 (s.size / 12) s ∧ L.length = k ∧ OwnL w2 (w.heap.size + 1) 59 3 Lg.cs (.slice A k cK) L) := ⟨_, rfl, by rw [oneN_len]; exact hke, by rw [hke]; exact HOW.out⟩
      clear HOWk HOW hke HAS HNX HMR HR
      obtain ⟨L, hLe, hLk, hLo⟩ := HOL.out
      rw [← hLe] at HTL HTS HL1 HLD
      have HLO := Lib.hid hLo
      have HLK := Lib.hid hLk
      clear hLe hLk hLo HOL
      go_wp2_with fail
      refine (HSO.out _ (w.heap.size + 1) (.slice A k cK) L HLO.out (by rw [HLK.out]; have := HKS.out; omega)).mono ?_
      rintro e w6 ⟨rfl, ho6, hg6⟩
      have HO6 := Lib.hid ho6
      have HB6 : Hid (Below w.heap.size w w6) := OwnM.below_grown HLO.out hg6 HBB.out (by have := HBB.out.size; exact this) (by omega)
      clear ho6 hg6 HBB HLO
      go_wp2_with fail
      refine (HCU.out _ (w.heap.size + 1) (.slice A k cK) (srt ltL L) HO6.out (by rw [HL1.out]; have := HKS.out; omega)).mono ?_
      rintro e w7 ⟨v7, rfl, ho7, hg7, hv7⟩
      have HB7 : Hid (Below w.heap.size w w7) := OwnM.below_grown HO6.out hg7 HB6.out (by have := HB6.out.size; exact this) (by omega)
      obtain ⟨A7, c7, rfl⟩ := ho7.form
      have HO7 := Lib.hid ho7
      clear ho7 hg7 hv7 HB6 HO6
      by_cases h64 : 64 < (dd (srt ltL L)).length
      · have HRN := Lib.hid (HTL.out h64)
        obtain ⟨m, hmm⟩ : ∃ m, m = (dd (srt ltL L)).length := ⟨_, rfl⟩
        rw [← hmm] at h64 ⊢
        have h64' : (64 : Int) < (m : Int) := by omega
        clear HTL HTS HLD HO7 hmm
        go_wp2_with fail
        go_ret2
        refine ⟨?_, HB7.out⟩
        rw [HRN.out]
        exact ⟨3, rfl, .inl rfl⟩
      · have HRN := Lib.hid (HTS.out h64)
        have HOF : Hid (RES = some (dd (srt ltL L)) ∧ OwnL w7 (w.heap.size + 1) 59 3 Lg.cs (.slice A7 (dd (srt ltL L)).length c7) (dd (srt ltL L))) := ⟨HRN.out, HO7.out⟩
        clear HTL HTS HLD HRN HO7
        generalize dd (srt ltL L) = D at h64 HOF ⊢
        obtain ⟨m, hmm⟩ : ∃ m, m = D.length := ⟨_, rfl⟩
        rw [← hmm] at h64 HOF ⊢
        have h64' : ¬ (64 : Int) < (m : Int) := by omega
        clear hmm
        go_wp2_with fail
        go_ret2
        refine ⟨?_, HB7.out⟩
        rw [HOF.out.1]
        exact ⟨_, rfl, HOF.out.2⟩
end Go.Proofs.YtkcojblflebomaaGreat
set_option linter.unusedVariables false
set_option linter.unusedSimpArgs false
namespace Go.Proofs.YtkcojblflebomaaGreat
open Go.RowKit Go.MapKept Go.Shelf
open Go.Lib hiding intOf

theorem wpList_store_verdict {ops : Array Oper} {rest : List Oper} {op : Oper} {a : Act} {w : World} {Q : Exit → Act → World → Prop} (hgd : op.guard = none) (x y : Operand) (ho : op.op = .store 42 x y) (b : Nat) (hx : a.eval x = .pointer (some ⟨b, 0, none⟩)) (p : Vd) (hy : a.eval y = .agg #[.int .i64 p.act, .int .u8 p.code, .int .u8 p.sub]) (q : Vd) (hc : CellsAt w b #[.int .i64 q.act, .int .u8 q.code, .int .u8 q.sub] 42)
    (h : wpList Tryz.prog ops Q rest (a.put op.dst undef) (w.setRow b #[.int .i64 p.act, .int .u8 p.code, .int .u8 p.sub])) : wpList Tryz.prog ops Q (op :: rest) a w :=
  wpList_store_row hgd 42 x y ho b p.ar hx hy 42 q.ar hc (by rw [verdict_size]; rfl) rfl (Array.all_eq_true_iff_forall_mem.2 (fun u hu => by
    simp only [Vd.ar, List.mem_toArray, List.mem_cons, List.not_mem_nil, or_false] at hu
    rcases hu with rfl | rfl | rfl <;> rfl)) h
theorem OwnL.raws {w : World} {base : Nat} {v : Value} {L : List Rw} (h : OwnL w base 32 3 Rw.cs v L) (hf : ∀ r ∈ L, r.v.size ≤ 9223372036854775807) : ∃ A c, v = .slice A L.length c ∧ RwsOk w A c L := by
  obtain ⟨A, c, hv, hr, hl, hc⟩ := OwnL.rd Rw.cs_len h
  exact ⟨A, c, hv, hr, hl, hc, hf⟩
theorem one_fits : ∀ r ∈ oneRaws, r.v.size ≤ 140737488351232 := by
  intro r hr
  simp only [oneRaws, List.mem_cons, List.not_mem_nil, or_false] at hr
  rcases hr with rfl | rfl | rfl <;> decide
theorem one_own {w : World} {base : Nat} {v : Value} (h : OwnL w base 32 3 Rw.cs v oneRaws) : ∃ A c, v = .slice A 3 c ∧ RwsOk w A c oneRaws := h.raws (fun r hr => Nat.le_trans (one_fits r hr) (by decide))
theorem work_write (a : Atr) (w : World) (h : AtrOk w a) (hc : a.c = oneC) : Calls Tryz.prog 25 #[a.v, .bool true] w fun e w' => (∃ A c, e = .returned (.tuple #[.slice A 3 c, .int .i64 0]) ∧ RwsOk w' A c oneRaws) ∧ Below w.heap.size w w' := by
  refine (write_ok a true w h (by rw [hc]; exact one_ok) (enc_none (by show a.c.comms = []; rw [hc]; rfl) (by show a.c.exts = []; rw [hc]; rfl) (by show a.c.larges = []; rw [hc]; rfl))).mono ?_
  rintro e w' ⟨⟨v, rfl, ho⟩, hb⟩
  rw [hc, one_write] at ho
  obtain ⟨A, c, rfl, hr⟩ := one_own ho
  exact ⟨⟨A, c, rfl, hr⟩, hb⟩
theorem work_lay (A : Option Addr) (c : Nat) (w : World) (h : RwsOk w A c oneRaws) : Calls Tryz.prog 13 #[.slice A 3 c] w fun e w' => e = .returned (.tuple #[.string (ByteArray.mk #[64, 1, 1, 1, 64, 2, 6, 2, 1, 0, 0, 0, 1, 64, 3, 4, 10, 0, 0, 1]), .int .i64 0]) ∧ Below w.heap.size w w' := by
  have h2 := lay_any A c oneRaws w h
  rw [one_lay] at h2
  exact h2
theorem work_split (w : World) : Calls Tryz.prog 17 #[.string (ByteArray.mk #[64, 1, 1, 1, 64, 2, 6, 2, 1, 0, 0, 0, 1, 64, 3, 4, 10, 0, 0, 1])] w fun e w' => (∃ A c, e = .returned (.tuple #[.slice A 3 c, .bool true]) ∧ RwsOk w' A c oneRaws) ∧ Below w.heap.size w w' := by
  have h2 := split_any laidB w (by decide)
  rw [one_split] at h2
  refine h2.mono ?_
  rintro e w' ⟨⟨v, rfl, ho⟩, hb⟩
  obtain ⟨A, c, rfl, hr⟩ := one_own ho
  exact ⟨⟨A, c, rfl, hr⟩, hb⟩
theorem work_T : ∀ x ∈ oneRaws, ∀ b wr i f, rowF x.t.toNat = some (b, wr, i, f) → TakesT workT x.t.toNat f := by
  intro x hx b wr i f h
  simp only [oneRaws, List.mem_cons, List.not_mem_nil, or_false] at hx
  rcases hx with rfl | rfl | rfl
  · obtain ⟨rfl, rfl, rfl, rfl⟩ : (64 : Int) = b ∧ (2 : Int) = wr ∧ false = i ∧ 73 = f := by simpa [rowF] using h
    exact ⟨takes1, fun v four c => by show (take1 v c).1.clus = c.clus; unfold take1; split <;> rfl⟩
  · obtain ⟨rfl, rfl, rfl, rfl⟩ : (64 : Int) = b ∧ (2 : Int) = wr ∧ false = i ∧ 74 = f := by simpa [rowF] using h
    exact ⟨takes2, fun v four c => by show (take2 v four c).1.clus = c.clus; unfold take2; split <;> rfl⟩
  · obtain ⟨rfl, rfl, rfl, rfl⟩ : (64 : Int) = b ∧ (2 : Int) = wr ∧ false = i ∧ 76 = f := by simpa [rowF] using h
    exact ⟨takes3, fun v four c => by rfl⟩
theorem work_read (A : Option Addr) (c : Nat) (w : World) (h : RwsOk w A c oneRaws) : Calls Tryz.prog 19 #[.slice A 3 c, .bool true, .bool true] w fun e w' => (∃ a : Atr, e = .returned (.tuple #[.agg a.ar, .agg #[.int .i64 0, .int .u8 0, .int .u8 0]]) ∧ AtrOk w' a ∧ a.c = oneC) ∧ Below w.heap.size w w' := by
  refine (read_any workT A c oneRaws true true w h one_fits work_T).mono ?_
  rintro e w' ⟨hp, hb⟩
  rw [show readF workT true true [] noC ⟨0, 0, 0⟩ oneRaws = (oneC, ⟨0, 0, 0⟩) from one_read] at hp
  obtain ⟨a, rfl, ho, hc⟩ := hp
  exact ⟨⟨a, rfl, ho.ok, hc⟩, hb⟩
theorem work_same (a b : Atr) (w : World) (h1 : AtrOk w a) (h2 : AtrOk w b) (e1 : a.c = oneC) (e2 : b.c = oneC) : Calls Tryz.prog 23 #[a.v, b.v] w fun e w' => e = .returned (.bool true) ∧ Below w.heap.size w w' := by
  have h := same_any a b w h1 h2
  rw [decide_eq_true (show a.c = b.c by rw [e1, e2])] at h
  exact h
set_option maxRecDepth 100000 in
set_option maxHeartbeats 4000000 in
theorem works_any (w : World) : Calls Tryz.prog 16 #[] w fun e w' => e = .returned (.bool true) ∧ Below w.heap.size w w' := by
  have HONE := Lib.hid one_any
  have HWR := Lib.hid work_write
  have HLA := Lib.hid work_lay
  have HSP := Lib.hid work_split
  have HRE := Lib.hid work_read
  have HSA := Lib.hid work_same
  go_enter Tryz.func16, Tryz.ntmps16
  go_wp2_with fail
  refine (HONE.out _).mono ?_
  rintro e w1 ⟨⟨a0, rfl, ha0, hc0⟩, hb1⟩
  have HA0 := Lib.hid ha0
  have HC0 := Lib.hid hc0
  have HB1 := Lib.hid hb1
  clear ha0 hc0 hb1
  go_wp2_with fail
  refine (HWR.out a0 _ HA0.out HC0.out).mono ?_
  rintro e w2 ⟨⟨A, c, rfl, hr⟩, hb2⟩
  have HR := Lib.hid hr
  have HB2 := Lib.hid (HB1.out.trans (hb2.mono HB1.out.size))
  clear hr hb2 HB1 HA0 HC0
  go_wp2_with fail
  refine (HLA.out A c _ HR.out).mono ?_
  rintro e w3 ⟨rfl, hb3⟩
  have HB3 := Lib.hid (HB2.out.trans (hb3.mono HB2.out.size))
  clear hb3 HB2 HR
  go_wp2_with fail
  refine (HSP.out _).mono ?_
  rintro e w4 ⟨⟨B, d, rfl, hr⟩, hb4⟩
  have HR := Lib.hid hr
  have HB4 := Lib.hid (HB3.out.trans (hb4.mono HB3.out.size))
  clear hr hb4 HB3
  go_wp2_with fail
  refine (HRE.out B d _ HR.out).mono ?_
  rintro e w5 ⟨⟨a1, rfl, ha1, hc1⟩, hb5⟩
  have HA1 := Lib.hid ha1
  have HC1 := Lib.hid hc1
  have HB5 := Lib.hid (HB4.out.trans (hb5.mono HB4.out.size))
  clear ha1 hc1 hb5 HB4 HR
  have e5 : ∀ cs : Array Value, (w5.alloc (.cells cs 40)).heap.size = w5.heap.size + 1 := fun cs => by simp
  have HZ : Hid (∀ cs : Array Value, CellsAt ((w5.alloc (.cells cs 40)).alloc (.cells #[.int .i64 0, .int .u8 0, .int .u8 0] 42)) w5.heap.size cs 40) := fun cs => (CellsAt.new _ _ _).alloc _
  have HY : Hid (∀ cs : Array Value, CellsAt (((w5.alloc (.cells cs 40)).alloc (.cells #[.int .i64 0, .int .u8 0, .int .u8 0] 42)).setRow w5.heap.size a1.ar) (w5.heap.size + 1) #[.int .i64 0, .int .u8 0, .int .u8 0] 42) := fun cs => by
    have h := CellsAt.new (w5.alloc (.cells cs 40)) #[.int .i64 0, .int .u8 0, .int .u8 0] 42
    rw [e5] at h
    exact h.row (grown_setRow _ _ _) (by omega)
  have HV1 : Hid (∀ cs : Array Value, CellsAt ((((w5.alloc (.cells cs 40)).alloc (.cells #[.int .i64 0, .int .u8 0, .int .u8 0] 42)).setRow w5.heap.size a1.ar).setRow (w5.heap.size + 1) #[.int .i64 0, .int .u8 0, .int .u8 0]) w5.heap.size a1.ar 40) := fun cs => ((HZ.out cs).setRow _).row (grown_setRow _ _ _) (by omega)
  have HV2 : Hid (∀ cs : Array Value, CellsAt ((((w5.alloc (.cells cs 40)).alloc (.cells #[.int .i64 0, .int .u8 0, .int .u8 0] 42)).setRow w5.heap.size a1.ar).setRow (w5.heap.size + 1) #[.int .i64 0, .int .u8 0, .int .u8 0]) (w5.heap.size + 1) #[.int .i64 0, .int .u8 0, .int .u8 0] 42) := fun cs => (HY.out cs).setRow _
  have HV5 : Hid (∀ cs : Array Value, Below w5.heap.size w5 ((((w5.alloc (.cells cs 40)).alloc (.cells #[.int .i64 0, .int .u8 0, .int .u8 0] 42)).setRow w5.heap.size a1.ar).setRow (w5.heap.size + 1) #[.int .i64 0, .int .u8 0, .int .u8 0])) := fun cs => ((((Below.refl _ _).alloc (Nat.le_refl _) _).alloc (by simp) _).grown (grown_setRow _ _ _) (by simp; omega) (fun k hk => by cases hk; omega)).grown (grown_setRow _ _ _) (by simp [setRow_size]; omega) (fun k hk => by cases hk; omega)
  have HV3 : Hid (∀ cs : Array Value, AtrOk ((((w5.alloc (.cells cs 40)).alloc (.cells #[.int .i64 0, .int .u8 0, .int .u8 0] 42)).setRow w5.heap.size a1.ar).setRow (w5.heap.size + 1) #[.int .i64 0, .int .u8 0, .int .u8 0]) a1) := fun cs => HA1.out.below (HV5.out cs) (Nat.le_refl _)
  have hs5 := HB5.out.size
  have HV4 : Hid (∀ cs : Array Value, Below w.heap.size w ((((w5.alloc (.cells cs 40)).alloc (.cells #[.int .i64 0, .int .u8 0, .int .u8 0] 42)).setRow w5.heap.size a1.ar).setRow (w5.heap.size + 1) #[.int .i64 0, .int .u8 0, .int .u8 0])) := fun cs => HB5.out.trans ((HV5.out cs).mono hs5)
  clear HB5 HA1 hs5 HV5 e5
  go_upto_region 5 with (with_reducible show wpList _ _ _ (_ :: _) _ _; first | refine wpList_store_attrs rfl (.tmp 7) (.tmp 26) rfl w5.heap.size rfl a1 rfl noAtr (HZ.out _) ?_ | refine wpList_store_verdict rfl (.tmp 8) (.tmp 27) rfl (w5.heap.size + 1) rfl ⟨0, 0, 0⟩ rfl ⟨0, 0, 0⟩ (HY.out _) ?_)
  refine wp_region_held_drew (S := fun w' => CellsAt w' w5.heap.size a1.ar 40 ∧ CellsAt w' (w5.heap.size + 1) #[.int .i64 0, .int .u8 0, .int .u8 0] 42 ∧ AtrOk w' a1 ∧ Below w.heap.size w w') (by kernel_rfl) (⟨(HV1.out _).drew 1, (HV2.out _).drew 1, (HV3.out _).below (below_drewN (Below.refl _ _) 1) (Nat.le_refl _), below_drewN (HV4.out _) 1⟩) (fun hHeld => ?_)
  refine wpAnyH_take (i := 0) (oi := { dst := some 28, op := Op.move (Operand.tmp 2), type := 23, pos := "outright.go:23", after := #[], guard := none }) (v := ?_) rfl (by kernel_rfl) (by kernel_rfl) (by kernel_rfl) (fun _ _ _ h => h) (Or.inl ⟨by rfl, ?_⟩) hHeld ?_
  rotate_left
  · intro w hSw
    clear hSw
    go_simp
    try with_reducible rfl
  try simp only [Act.put, List.setIfInBounds_toArray, List.set_cons_zero, List.set_cons_succ]
  refine wpAnyH_take (i := 1) (oi := { dst := some 29, op := Op.binOp BinOp.eql 23 (Operand.tmp 28) (Operand.const (Value.int IntKind.i64 0)) 23, type := 4, pos := "outright.go:23", after := #[{ on := 0, ground := Ground.data }], guard := none }) (v := ?_) rfl (by kernel_rfl) (by kernel_rfl) (by kernel_rfl) (fun _ _ _ h => h) (Or.inl ⟨by rfl, ?_⟩) hHeld ?_
  rotate_left
  · intro w hSw
    clear hSw
    go_simp
    try with_reducible rfl
  try simp only [Act.put, List.setIfInBounds_toArray, List.set_cons_zero, List.set_cons_succ]
  refine wpAnyH_take (i := 2) (oi := { dst := some 30, op := Op.move (Operand.tmp 29), type := 4, pos := "outright.go:23", after := #[{ on := 1, ground := Ground.data }], guard := none }) (v := ?_) rfl (by kernel_rfl) (by kernel_rfl) (by kernel_rfl) (fun _ _ _ h => h) (Or.inl ⟨by rfl, ?_⟩) hHeld ?_
  rotate_left
  · intro w hSw
    clear hSw
    go_simp
    try with_reducible rfl
  try simp only [Act.put, List.setIfInBounds_toArray, List.set_cons_zero, List.set_cons_succ]
  refine wpAnyH_take (i := 3) (oi := { dst := some 31, op := Op.move (Operand.tmp 4), type := 23, pos := "outright.go:23", after := #[{ on := 2, ground := Ground.guard }], guard := some (2, true) }) (v := ?_) rfl (by kernel_rfl) (by kernel_rfl) (by kernel_rfl) (fun _ _ _ h => h) (Or.inl ⟨by rfl, ?_⟩) hHeld ?_
  rotate_left
  · intro w hSw
    clear hSw
    go_simp
    try with_reducible rfl
  try simp only [Act.put, List.setIfInBounds_toArray, List.set_cons_zero, List.set_cons_succ]
  refine wpAnyH_take (i := 4) (oi := { dst := some 32, op := Op.binOp BinOp.eql 23 (Operand.tmp 31) (Operand.const (Value.int IntKind.i64 0)) 23, type := 4, pos := "outright.go:23", after := #[{ on := 3, ground := Ground.data }, { on := 2, ground := Ground.guard }], guard := some (2, true) }) (v := ?_) rfl (by kernel_rfl) (by kernel_rfl) (by kernel_rfl) (fun _ _ _ h => h) (Or.inl ⟨by rfl, ?_⟩) hHeld ?_
  rotate_left
  · intro w hSw
    clear hSw
    go_simp
    try with_reducible rfl
  try simp only [Act.put, List.setIfInBounds_toArray, List.set_cons_zero, List.set_cons_succ]
  refine wpAnyH_take (i := 5) (oi := { dst := some 33, op := Op.pick (Operand.tmp 30) (Operand.tmp 32) (Operand.const (Value.bool false)), type := 4, pos := "outright.go:23", after := #[{ on := 2, ground := Ground.data }, { on := 4, ground := Ground.data }], guard := none }) (v := ?_) rfl (by kernel_rfl) (by kernel_rfl) (by kernel_rfl) (fun _ _ _ h => h) (Or.inl ⟨by rfl, ?_⟩) hHeld ?_
  rotate_left
  · intro w hSw
    clear hSw
    go_simp
    try with_reducible rfl
  try simp only [Act.put, List.setIfInBounds_toArray, List.set_cons_zero, List.set_cons_succ]
  refine wpAnyH_take (i := 6) (oi := { dst := some 34, op := Op.move (Operand.tmp 33), type := 4, pos := "outright.go:23", after := #[{ on := 5, ground := Ground.data }, { on := 2, ground := Ground.chain }], guard := none }) (v := ?_) rfl (by kernel_rfl) (by kernel_rfl) (by kernel_rfl) (fun _ _ _ h => h) (Or.inl ⟨by rfl, ?_⟩) hHeld ?_
  rotate_left
  · intro w hSw
    clear hSw
    go_simp
    try with_reducible rfl
  try simp only [Act.put, List.setIfInBounds_toArray, List.set_cons_zero, List.set_cons_succ]
  refine wpAnyH_take (i := 7) (oi := { dst := some 35, op := Op.move (Operand.tmp 3), type := 9, pos := "outright.go:23", after := #[{ on := 6, ground := Ground.guard }], guard := some (6, true) }) (v := ?_) rfl (by kernel_rfl) (by kernel_rfl) (by kernel_rfl) (fun _ _ _ h => h) (Or.inl ⟨by rfl, ?_⟩) hHeld ?_
  rotate_left
  · intro w hSw
    clear hSw
    go_simp
    try with_reducible rfl
  try simp only [Act.put, List.setIfInBounds_toArray, List.set_cons_zero, List.set_cons_succ]
  refine wpAnyH_take (i := 8) (oi := { dst := some 36, op := Op.binOp BinOp.eql 9 (Operand.tmp 35) (Operand.const (Value.string { data := #[64, 1, 1, 1, 64, 2, 6, 2, 1, 0, 0, 0, 1, 64, 3, 4, 10, 0, 0, 1] })) 9, type := 4, pos := "outright.go:23", after := #[{ on := 7, ground := Ground.data }, { on := 6, ground := Ground.guard }], guard := some (6, true) }) (v := ?_) rfl (by kernel_rfl) (by kernel_rfl) (by kernel_rfl) (fun _ _ _ h => h) (Or.inl ⟨by rfl, ?_⟩) hHeld ?_
  rotate_left
  · intro w hSw
    clear hSw
    go_simp
    try with_reducible rfl
  try simp only [Act.put, List.setIfInBounds_toArray, List.set_cons_zero, List.set_cons_succ]
  refine wpAnyH_take (i := 9) (oi := { dst := some 37, op := Op.pick (Operand.tmp 34) (Operand.tmp 36) (Operand.const (Value.bool false)), type := 4, pos := "outright.go:23", after := #[{ on := 6, ground := Ground.data }, { on := 8, ground := Ground.data }], guard := none }) (v := ?_) rfl (by kernel_rfl) (by kernel_rfl) (by kernel_rfl) (fun _ _ _ h => h) (Or.inl ⟨by rfl, ?_⟩) hHeld ?_
  rotate_left
  · intro w hSw
    clear hSw
    go_simp
    try with_reducible rfl
  try simp only [Act.put, List.setIfInBounds_toArray, List.set_cons_zero, List.set_cons_succ]
  refine wpAnyH_take (i := 10) (oi := { dst := some 38, op := Op.move (Operand.tmp 37), type := 4, pos := "outright.go:23", after := #[{ on := 9, ground := Ground.data }, { on := 6, ground := Ground.chain }], guard := none }) (v := ?_) rfl (by kernel_rfl) (by kernel_rfl) (by kernel_rfl) (fun _ _ _ h => h) (Or.inl ⟨by rfl, ?_⟩) hHeld ?_
  rotate_left
  · intro w hSw
    clear hSw
    go_simp
    try with_reducible rfl
  try simp only [Act.put, List.setIfInBounds_toArray, List.set_cons_zero, List.set_cons_succ]
  refine wpAnyH_take (i := 11) (oi := { dst := some 39, op := Op.move (Operand.tmp 6), type := 4, pos := "outright.go:23", after := #[{ on := 10, ground := Ground.guard }], guard := some (10, true) }) (v := ?_) rfl (by kernel_rfl) (by kernel_rfl) (by kernel_rfl) (fun _ _ _ h => h) (Or.inl ⟨by rfl, ?_⟩) hHeld ?_
  rotate_left
  · intro w hSw
    clear hSw
    go_simp
    try with_reducible rfl
  try simp only [Act.put, List.setIfInBounds_toArray, List.set_cons_zero, List.set_cons_succ]
  refine wpAnyH_take (i := 12) (oi := { dst := some 40, op := Op.pick (Operand.tmp 38) (Operand.tmp 39) (Operand.const (Value.bool false)), type := 4, pos := "outright.go:23", after := #[{ on := 10, ground := Ground.data }, { on := 11, ground := Ground.data }], guard := none }) (v := ?_) rfl (by kernel_rfl) (by kernel_rfl) (by kernel_rfl) (fun _ _ _ h => h) (Or.inl ⟨by rfl, ?_⟩) hHeld ?_
  rotate_left
  · intro w hSw
    clear hSw
    go_simp
    try with_reducible rfl
  try simp only [Act.put, List.setIfInBounds_toArray, List.set_cons_zero, List.set_cons_succ]
  refine wpAnyH_take (i := 13) (oi := { dst := some 41, op := Op.move (Operand.tmp 40), type := 4, pos := "outright.go:23", after := #[{ on := 12, ground := Ground.data }, { on := 10, ground := Ground.chain }], guard := none }) (v := ?_) rfl (by kernel_rfl) (by kernel_rfl) (by kernel_rfl) (fun _ _ _ h => h) (Or.inl ⟨by rfl, ?_⟩) hHeld ?_
  rotate_left
  · intro w hSw
    clear hSw
    go_simp
    try with_reducible rfl
  try simp only [Act.put, List.setIfInBounds_toArray, List.set_cons_zero, List.set_cons_succ]
  refine wpAnyH_take (i := 14) (oi := { dst := some 42, op := Op.move (Operand.tmp 5), type := 22, pos := "outright.go:23", after := #[{ on := 13, ground := Ground.guard }], guard := some (13, true) }) (v := ?_) rfl (by kernel_rfl) (by kernel_rfl) (by kernel_rfl) (fun _ _ _ h => h) (Or.inl ⟨by rfl, ?_⟩) hHeld ?_
  rotate_left
  · intro w hSw
    clear hSw
    go_simp
    try with_reducible rfl
  try simp only [Act.put, List.setIfInBounds_toArray, List.set_cons_zero, List.set_cons_succ]
  refine wpAnyH_take (i := 15) (oi := { dst := some 43, op := Op.call { callee := Callee.builtin Builtin.len, args := #[Operand.tmp 42], argTypes := #[22] }, type := 3, pos := "outright.go:23", after := #[{ on := 14, ground := Ground.data }, { on := 13, ground := Ground.guard }], guard := some (13, true) }) (v := ?_) rfl (by kernel_rfl) (by kernel_rfl) (by kernel_rfl) (fun _ _ _ h => h) (Or.inl ⟨by rfl, ?_⟩) hHeld ?_
  rotate_left
  · intro w hSw
    clear hSw
    go_simp
    try with_reducible rfl
  try simp only [Act.put, List.setIfInBounds_toArray, List.set_cons_zero, List.set_cons_succ]
  refine wpAnyH_take (i := 16) (oi := { dst := some 44, op := Op.binOp BinOp.eql 3 (Operand.tmp 43) (Operand.const (Value.int IntKind.i64 3)) 3, type := 4, pos := "outright.go:23", after := #[{ on := 15, ground := Ground.data }, { on := 13, ground := Ground.guard }], guard := some (13, true) }) (v := ?_) rfl (by kernel_rfl) (by kernel_rfl) (by kernel_rfl) (fun _ _ _ h => h) (Or.inl ⟨by rfl, ?_⟩) hHeld ?_
  rotate_left
  · intro w hSw
    clear hSw
    go_simp
    try with_reducible rfl
  try simp only [Act.put, List.setIfInBounds_toArray, List.set_cons_zero, List.set_cons_succ]
  refine wpAnyH_take (i := 17) (oi := { dst := some 45, op := Op.pick (Operand.tmp 41) (Operand.tmp 44) (Operand.const (Value.bool false)), type := 4, pos := "outright.go:23", after := #[{ on := 13, ground := Ground.data }, { on := 16, ground := Ground.data }], guard := none }) (v := ?_) rfl (by kernel_rfl) (by kernel_rfl) (by kernel_rfl) (fun _ _ _ h => h) (Or.inl ⟨by rfl, ?_⟩) hHeld ?_
  rotate_left
  · intro w hSw
    clear hSw
    go_simp
    try with_reducible rfl
  try simp only [Act.put, List.setIfInBounds_toArray, List.set_cons_zero, List.set_cons_succ]
  refine wpAnyH_take (i := 18) (oi := { dst := some 46, op := Op.move (Operand.tmp 45), type := 4, pos := "outright.go:23", after := #[{ on := 17, ground := Ground.data }, { on := 13, ground := Ground.chain }], guard := none }) (v := ?_) rfl (by kernel_rfl) (by kernel_rfl) (by kernel_rfl) (fun _ _ _ h => h) (Or.inl ⟨by rfl, ?_⟩) hHeld ?_
  rotate_left
  · intro w hSw
    clear hSw
    go_simp
    try with_reducible rfl
  try simp only [Act.put, List.setIfInBounds_toArray, List.set_cons_zero, List.set_cons_succ]
  refine wpAnyH_take (i := 19) (oi := { dst := some 47, op := Op.load 42 (Operand.tmp 8), type := 42, pos := "outright.go:23", after := #[{ on := 18, ground := Ground.guard }], guard := some (18, true) }) (v := .agg #[.int .i64 0, .int .u8 0, .int .u8 0]) rfl (by kernel_rfl) (by kernel_rfl) (by kernel_rfl) (fun _ _ _ h => h) (yields_verdict (by rfl) _ rfl (w5.heap.size + 1) (by rfl) ⟨0, 0, 0⟩ (fun w h => h.2.1)) hHeld ?_
  try simp only [Act.put, List.setIfInBounds_toArray, List.set_cons_zero, List.set_cons_succ]
  refine wpAnyH_take (i := 20) (oi := { dst := some 48, op := Op.build 42 #[], type := 42, pos := "outright.go:23", after := #[{ on := 18, ground := Ground.guard }], guard := some (18, true) }) (v := ?_) rfl (by kernel_rfl) (by kernel_rfl) (by kernel_rfl) (fun _ _ _ h => h) (Or.inl ⟨by rfl, ?_⟩) hHeld ?_
  rotate_left
  · intro w hSw
    clear hSw
    go_simp
    try with_reducible rfl
  try simp only [Act.put, List.setIfInBounds_toArray, List.set_cons_zero, List.set_cons_succ]
  refine wpAnyH_take (i := 21) (oi := { dst := some 49, op := Op.binOp BinOp.eql 42 (Operand.tmp 47) (Operand.tmp 48) 42, type := 4, pos := "outright.go:23", after := #[{ on := 19, ground := Ground.data }, { on := 20, ground := Ground.data }, { on := 18, ground := Ground.guard }], guard := some (18, true) }) (v := .bool true) rfl (by kernel_rfl) (by kernel_rfl) (by kernel_rfl) (fun _ _ _ h => h) (Or.inl ⟨by rfl, ?_⟩) hHeld ?_
  · intro w hSw
    clear hSw
    go_simp
    skip
  try simp only [Act.put, List.setIfInBounds_toArray, List.set_cons_zero, List.set_cons_succ]
  refine wpAnyH_take (i := 22) (oi := { dst := some 50, op := Op.pick (Operand.tmp 46) (Operand.tmp 49) (Operand.const (Value.bool false)), type := 4, pos := "outright.go:23", after := #[{ on := 18, ground := Ground.data }, { on := 21, ground := Ground.data }], guard := none }) (v := ?_) rfl (by kernel_rfl) (by kernel_rfl) (by kernel_rfl) (fun _ _ _ h => h) (Or.inl ⟨by rfl, ?_⟩) hHeld ?_
  rotate_left
  · intro w hSw
    clear hSw
    go_simp
    try with_reducible rfl
  try simp only [Act.put, List.setIfInBounds_toArray, List.set_cons_zero, List.set_cons_succ]
  refine wpAnyH_take (i := 23) (oi := { dst := some 51, op := Op.move (Operand.tmp 50), type := 4, pos := "outright.go:23", after := #[{ on := 22, ground := Ground.data }, { on := 18, ground := Ground.chain }], guard := none }) (v := ?_) rfl (by kernel_rfl) (by kernel_rfl) (by kernel_rfl) (fun _ _ _ h => h) (Or.inl ⟨by rfl, ?_⟩) hHeld ?_
  rotate_left
  · intro w hSw
    clear hSw
    go_simp
    try with_reducible rfl
  try simp only [Act.put, List.setIfInBounds_toArray, List.set_cons_zero, List.set_cons_succ]
  refine wpAnyH_take (i := 24) (oi := { dst := some 52, op := Op.load 40 (Operand.tmp 7), type := 40, pos := "outright.go:23", after := #[{ on := 23, ground := Ground.guard }], guard := some (23, true) }) (v := .agg a1.ar) rfl (by kernel_rfl) (by kernel_rfl) (by kernel_rfl) (fun _ _ _ h => h) (yields_attrs (by rfl) _ rfl w5.heap.size (by rfl) a1 (fun w h => h.1)) hHeld ?_
  try simp only [Act.put, List.setIfInBounds_toArray, List.set_cons_zero, List.set_cons_succ]
  refine wpAnyH_ready (rs := [25]) (by kernel_rfl) (by simp) ?_
  refine AllReadyH.cons (o := { dst := some 53, op := Op.call { callee := Callee.value (Operand.func 32), args := #[], argTypes := #[] }, type := 40, pos := "outright.go:23", after := #[{ on := 23, ground := Ground.chain }, { on := 23, ground := Ground.guard }], guard := some (23, true) }) rfl (fun K hK => ?_) AllReadyH.nil
  go_simp
  refine (HONE.out _).mono ?_
  rintro e w6 ⟨⟨a2, rfl, ha2, hc2⟩, hb6⟩
  have HS6 := Lib.hid hHeld
  have HA2 := Lib.hid ha2
  have HC2 := Lib.hid hc2
  refine hK.out _ _ (⟨HS6.out.1.below hb6 HS6.out.1.lt, HS6.out.2.1.below hb6 HS6.out.2.1.lt, HS6.out.2.2.1.below hb6 (Nat.le_refl _), HS6.out.2.2.2.trans (hb6.mono HS6.out.2.2.2.size)⟩) (fun hHeld => ?_)
  clear hK K
  try simp only [Act.put, List.setIfInBounds_toArray, List.set_cons_zero, List.set_cons_succ]
  refine wpAnyH_ready (rs := [26]) (by kernel_rfl) (by simp) ?_
  refine AllReadyH.cons (o := { dst := some 54, op := Op.call { callee := Callee.value (Operand.func 23), args := #[Operand.tmp 52, Operand.tmp 53], argTypes := #[40, 40] }, type := 4, pos := "outright.go:23", after := #[{ on := 24, ground := Ground.data }, { on := 25, ground := Ground.data }, { on := 25, ground := Ground.chain }, { on := 23, ground := Ground.guard }], guard := some (23, true) }) rfl (fun K hK => ?_) AllReadyH.nil
  go_simp
  refine (HSA.out a1 a2 _ hHeld.2.2.1 HA2.out HC1.out HC2.out).mono ?_
  rintro e w7 ⟨rfl, hb7⟩
  have HS7 := Lib.hid hHeld
  refine hK.out _ _ (⟨HS7.out.1.below hb7 HS7.out.1.lt, HS7.out.2.1.below hb7 HS7.out.2.1.lt, HS7.out.2.2.1.below hb7 (Nat.le_refl _), HS7.out.2.2.2.trans (hb7.mono HS7.out.2.2.2.size)⟩) (fun hHeld => ?_)
  clear hK K
  try simp only [Act.put, List.setIfInBounds_toArray, List.set_cons_zero, List.set_cons_succ]
  refine wpAnyH_take (i := 27) (oi := { dst := some 55, op := Op.pick (Operand.tmp 51) (Operand.tmp 54) (Operand.const (Value.bool false)), type := 4, pos := "outright.go:23", after := #[{ on := 23, ground := Ground.data }, { on := 26, ground := Ground.data }], guard := none }) (v := ?_) rfl (by kernel_rfl) (by kernel_rfl) (by kernel_rfl) (fun _ _ _ h => h) (Or.inl ⟨by rfl, ?_⟩) hHeld ?_
  rotate_left
  · intro w hSw
    clear hSw
    go_simp
    try with_reducible rfl
  try simp only [Act.put, List.setIfInBounds_toArray, List.set_cons_zero, List.set_cons_succ]
  refine wpAnyH_take (i := 28) (oi := { dst := some 0, op := Op.assign (Operand.tmp 55), type := 4, pos := "outright.go:23", after := #[{ on := 27, ground := Ground.data }, { on := 26, ground := Ground.chain }, { on := 0, ground := Ground.phase }, { on := 1, ground := Ground.phase }, { on := 2, ground := Ground.phase }, { on := 3, ground := Ground.phase }, { on := 4, ground := Ground.phase }, { on := 5, ground := Ground.phase }, { on := 6, ground := Ground.phase }, { on := 7, ground := Ground.phase }, { on := 8, ground := Ground.phase }, { on := 9, ground := Ground.phase }, { on := 10, ground := Ground.phase }, { on := 11, ground := Ground.phase }, { on := 12, ground := Ground.phase }, { on := 13, ground := Ground.phase }, { on := 14, ground := Ground.phase }, { on := 15, ground := Ground.phase }, { on := 16, ground := Ground.phase }, { on := 17, ground := Ground.phase }, { on := 18, ground := Ground.phase }, { on := 19, ground := Ground.phase }, { on := 20, ground := Ground.phase }, { on := 21, ground := Ground.phase }, { on := 22, ground := Ground.phase }, { on := 23, ground := Ground.phase }, { on := 24, ground := Ground.phase }, { on := 25, ground := Ground.phase }, { on := 26, ground := Ground.phase }, { on := 27, ground := Ground.phase }], guard := none }) (v := ?_) rfl (by kernel_rfl) (by kernel_rfl) (by kernel_rfl) (fun _ _ _ h => h) (Or.inl ⟨by rfl, ?_⟩) hHeld ?_
  rotate_left
  · intro w hSw
    clear hSw
    go_simp
    try with_reducible rfl
  try simp only [Act.put, List.setIfInBounds_toArray, List.set_cons_zero, List.set_cons_succ]
  refine wpAnyH_done (by kernel_rfl) ?_ _
  have HE := Lib.hid hHeld
  clear hHeld
  go_wp2_with fail
  go_ret
  exact ⟨rfl, HE.out.2.2.2⟩
end Go.Proofs.YtkcojblflebomaaGreat
set_option linter.unusedVariables false
set_option linter.unusedSimpArgs false
namespace Go.Proofs.YtkcojblflebomaaGreat
open Go.RowKit Go.MapKept Go.Shelf
open Go.Lib hiding intOf
open Go.Sort hiding Below

theorem atOk_iff (c : AtC) : atOk c = true ↔ (0 ≤ c.origin ∧ c.origin ≤ 2) ∧ pathOk c.path = true ∧ nextOk c.next = true ∧ spareOk c = true ∧ listsOk c = true := by
  unfold atOk
  simp only [Bool.and_eq_true, decide_eq_true_eq, and_assoc]
theorem lists_iff (c : AtC) : listsOk c = true ↔ c.clus.length ≤ 32 ∧ (riseB ltN c.comms = true ∧ c.comms.length ≤ 64) ∧ (riseB ltN c.exts = true ∧ c.exts.length ≤ 64) ∧ (riseB ltL c.larges = true ∧ c.larges.length ≤ 64) := by
  unfold listsOk
  simp only [Bool.and_eq_true, decide_eq_true_eq, and_assoc]
theorem spare_iff (c : AtC) : spareOk c = true ↔ (c.hasMed = true ∨ c.med = 0) ∧ (c.hasPref = true ∨ c.pref = 0) ∧ (c.hasOrig = true ∨ c.orig = 0) ∧ (c.aggAs ≠ 0 ∨ c.aggId = 0) := by
  unfold spareOk
  simp only [Bool.and_eq_true, Bool.or_eq_true, beq_iff_eq, Bool.not_eq_true', beq_eq_false_iff_ne, ne_eq, and_assoc]
theorem tab_1 (v : ByteArray) (four : Bool) (c : AtC) : tab 1 v four c = take1 v c := rfl
theorem tab_2 (v : ByteArray) (four : Bool) (c : AtC) : tab 2 v four c = take2 v four c := rfl
theorem tab_3 (v : ByteArray) (four : Bool) (c : AtC) : tab 3 v four c = take3 v c := rfl
theorem tab_4 (v : ByteArray) (four : Bool) (c : AtC) : tab 4 v four c = take4 v c := rfl
theorem tab_5 (v : ByteArray) (four : Bool) (c : AtC) : tab 5 v four c = take5 v c := rfl
theorem tab_6 (v : ByteArray) (four : Bool) (c : AtC) : tab 6 v four c = take6 v c := rfl
theorem tab_7 (v : ByteArray) (four : Bool) (c : AtC) : tab 7 v four c = take7 v four c := rfl
theorem tab_8 (v : ByteArray) (four : Bool) (c : AtC) : tab 8 v four c = take8 v c := rfl
theorem tab_9 (v : ByteArray) (four : Bool) (c : AtC) : tab 9 v four c = take9 v c := rfl
theorem tab_10 (v : ByteArray) (four : Bool) (c : AtC) : tab 10 v four c = take10 v c := rfl
theorem tab_16 (v : ByteArray) (four : Bool) (c : AtC) : tab 16 v four c = take16 v c := rfl
theorem tab_32 (v : ByteArray) (four : Bool) (c : AtC) : tab 32 v four c = take32 v c := rfl
theorem decP_ok {four : Bool} {s : ByteArray} {l : List (Int × List Nat)} (h : decP four s = some l) : pathOk l = true := by
  unfold decP at h
  split at h
  · cases h
  · split at h
    · rename_i h2
      injection h with h
      subst h
      exact h2
    · cases h
/-- what a type's value leaves may be, where it is none of the wrong ones -/
theorem tab_keeps {t : Nat} {b wr : Int} {i : Bool} {f : FuncId} (h : rowF t = some (b, wr, i, f)) (v : ByteArray) (four : Bool) (c : AtC) (hc : atOk c = true) : (atOk (tab t v four c).1 = true ∨ (tab t v four c).2 = false ∧ wr = 2) ∧ (wr = 1 ∨ wr = 2) := by
  obtain ⟨h1, h2, h3, h4, h5⟩ := (atOk_iff c).1 hc
  obtain ⟨l1, l2, l3, l4⟩ := (lists_iff c).1 h5
  obtain ⟨s1, s2, s3, s4⟩ := (spare_iff c).1 h4
  have hk := row_known h
  rcases hk with rfl | rfl | rfl | rfl | rfl | rfl | rfl | rfl | rfl | rfl | rfl | rfl
  · obtain ⟨-, rfl, -⟩ : b = 64 ∧ wr = 2 ∧ True := by
      have h' : (64, (2 : Int), _, _) = (b, wr, i, f) := Option.some.inj h
      simp only [Prod.mk.injEq] at h'
      exact ⟨h'.1.symm, h'.2.1.symm, trivial⟩
    refine ⟨?_, .inr rfl⟩
    rw [tab_1]
    unfold take1
    split
    · exact .inl ((atOk_iff _).2 ⟨⟨by show (0 : Int) ≤ (hd v 1 : Nat); omega, by rename_i hq; show ((hd v 1 : Nat) : Int) ≤ 2; omega⟩, h2, h3, h4, h5⟩)
    · exact .inl hc
  · obtain rfl : wr = 2 := by
      have h' : (64, (2 : Int), _, _) = (b, wr, i, f) := Option.some.inj h
      simp only [Prod.mk.injEq] at h'
      exact h'.2.1.symm
    refine ⟨?_, .inr rfl⟩
    rw [tab_2]
    unfold take2
    split
    · exact .inr ⟨rfl, rfl⟩
    · rename_i l hl
      exact .inl ((atOk_iff _).2 ⟨h1, decP_ok hl, h3, h4, h5⟩)
  · obtain rfl : wr = 2 := by
      have h' : (64, (2 : Int), _, _) = (b, wr, i, f) := Option.some.inj h
      simp only [Prod.mk.injEq] at h'
      exact h'.2.1.symm
    refine ⟨?_, .inr rfl⟩
    rw [tab_3]
    unfold take3
    cases hv : v.size == 4
    · exact .inr ⟨rfl, rfl⟩
    · exact .inl ((atOk_iff _).2 ⟨h1, h2, by show nextOk v = true; unfold nextOk; rw [hv]; simp, h4, h5⟩)
  · obtain rfl : wr = 2 := by
      have h' : (128, (2 : Int), _, _) = (b, wr, i, f) := Option.some.inj h
      simp only [Prod.mk.injEq] at h'
      exact h'.2.1.symm
    refine ⟨?_, .inr rfl⟩
    rw [tab_4]
    unfold take4
    split
    · exact .inl ((atOk_iff _).2 ⟨h1, h2, h3, (spare_iff _).2 ⟨.inl rfl, s2, s3, s4⟩, h5⟩)
    · exact .inl hc
  · obtain rfl : wr = 2 := by
      have h' : (64, (2 : Int), _, _) = (b, wr, i, f) := Option.some.inj h
      simp only [Prod.mk.injEq] at h'
      exact h'.2.1.symm
    refine ⟨?_, .inr rfl⟩
    rw [tab_5]
    unfold take5
    split
    · exact .inl ((atOk_iff _).2 ⟨h1, h2, h3, (spare_iff _).2 ⟨s1, .inl rfl, s3, s4⟩, h5⟩)
    · exact .inl hc
  · obtain rfl : wr = 1 := by
      have h' : (64, (1 : Int), _, _) = (b, wr, i, f) := Option.some.inj h
      simp only [Prod.mk.injEq] at h'
      exact h'.2.1.symm
    exact ⟨.inl ((atOk_iff _).2 ⟨h1, h2, h3, h4, h5⟩), .inl rfl⟩
  · obtain rfl : wr = 1 := by
      have h' : (192, (1 : Int), _, _) = (b, wr, i, f) := Option.some.inj h
      simp only [Prod.mk.injEq] at h'
      exact h'.2.1.symm
    refine ⟨?_, .inl rfl⟩
    rw [tab_7]
    unfold take7
    split
    · rename_i hq
      exact .inl ((atOk_iff _).2 ⟨h1, h2, h3, (spare_iff _).2 ⟨s1, s2, s3, .inl hq.2⟩, h5⟩)
    · exact .inl hc
  · obtain rfl : wr = 2 := by
      have h' : (192, (2 : Int), _, _) = (b, wr, i, f) := Option.some.inj h
      simp only [Prod.mk.injEq] at h'
      exact h'.2.1.symm
    refine ⟨?_, .inr rfl⟩
    rw [tab_8]
    unfold take8
    split
    · exact .inr ⟨rfl, rfl⟩
    · rename_i l hl
      exact .inl ((atOk_iff _).2 ⟨h1, h2, h3, h4, (lists_iff _).2 ⟨l1, readC_ok swoN ltN_total hl, l3, l4⟩⟩)
  · obtain rfl : wr = 2 := by
      have h' : (128, (2 : Int), _, _) = (b, wr, i, f) := Option.some.inj h
      simp only [Prod.mk.injEq] at h'
      exact h'.2.1.symm
    refine ⟨?_, .inr rfl⟩
    rw [tab_9]
    unfold take9
    split
    · exact .inl ((atOk_iff _).2 ⟨h1, h2, h3, (spare_iff _).2 ⟨s1, s2, .inl rfl, s4⟩, h5⟩)
    · exact .inl hc
  · obtain rfl : wr = 2 := by
      have h' : (128, (2 : Int), _, _) = (b, wr, i, f) := Option.some.inj h
      simp only [Prod.mk.injEq] at h'
      exact h'.2.1.symm
    refine ⟨?_, .inr rfl⟩
    rw [tab_10]
    unfold take10
    split
    · exact .inl hc
    · rename_i hq
      refine .inl ((atOk_iff _).2 ⟨h1, h2, h3, h4, (lists_iff _).2 ⟨?_, l2, l3, l4⟩⟩)
      show (asN 4 (v.size / 4) v).length ≤ 32
      rw [asN_len]
      omega
  · obtain rfl : wr = 2 := by
      have h' : (192, (2 : Int), _, _) = (b, wr, i, f) := Option.some.inj h
      simp only [Prod.mk.injEq] at h'
      exact h'.2.1.symm
    refine ⟨?_, .inr rfl⟩
    rw [tab_16]
    unfold take16
    split
    · exact .inr ⟨rfl, rfl⟩
    · rename_i l hl
      exact .inl ((atOk_iff _).2 ⟨h1, h2, h3, h4, (lists_iff _).2 ⟨l1, l2, readC_ok swoN ltN_total hl, l4⟩⟩)
  · obtain rfl : wr = 2 := by
      have h' : (192, (2 : Int), _, _) = (b, wr, i, f) := Option.some.inj h
      simp only [Prod.mk.injEq] at h'
      exact h'.2.1.symm
    refine ⟨?_, .inr rfl⟩
    rw [tab_32]
    unfold take32
    split
    · exact .inr ⟨rfl, rfl⟩
    · rename_i l hl
      exact .inl ((atOk_iff _).2 ⟨h1, h2, h3, h4, (lists_iff _).2 ⟨l1, l2, l3, readC_ok swoL ltL_total hl⟩⟩)
/-- what of an external neighbour is never taken -/
def outOk (c : AtC) : Prop := c.hasPref = false ∧ c.hasOrig = false ∧ c.clus = []
theorem tab_out {t : Nat} {b wr : Int} {f : FuncId} (h : rowF t = some (b, wr, false, f)) (v : ByteArray) (four : Bool) (c : AtC) (hc : outOk c) : outOk (tab t v four c).1 := by
  rcases row_known h with rfl | rfl | rfl | rfl | rfl | rfl | rfl | rfl | rfl | rfl | rfl | rfl
  · rw [tab_1]; unfold take1; split <;> exact hc
  · rw [tab_2]; unfold take2; split <;> exact hc
  · exact hc
  · rw [tab_4]; unfold take4; split <;> exact hc
  · have h' : ((64 : Int), (2 : Int), true, _) = (b, wr, false, f) := Option.some.inj h
    simp at h'
  · exact hc
  · rw [tab_7]; unfold take7; split <;> exact hc
  · rw [tab_8]; unfold take8; split <;> exact hc
  · have h' : ((128 : Int), (2 : Int), true, _) = (b, wr, false, f) := Option.some.inj h
    simp at h'
  · have h' : ((128 : Int), (2 : Int), true, _) = (b, wr, false, f) := Option.some.inj h
    simp at h'
  · rw [tab_16]; unfold take16; split <;> exact hc
  · rw [tab_32]; unfold take32; split <;> exact hc
/-- what Read has in hand, judged -/
structure JI (internal : Bool) (c : AtC) (v : Vd) : Prop where
  ok : v.act < 2 → atOk c = true
  a0 : 0 ≤ v.act
  a3 : v.act ≤ 3
  code : v.act = 3 → v.code = 3 ∧ (v.sub = 1 ∨ v.sub = 2)
  none : v.act ≠ 3 → v.code = 0 ∧ v.sub = 0
  out : internal = false → outOk c
theorem JI.judge {internal : Bool} {c c' : AtC} {v : Vd} (h : JI internal c v) (x : Vd) (hx : (x.act = 1 ∨ x.act = 2) ∧ x.code = 0 ∧ x.sub = 0 ∨ x.act = 3 ∧ x.code = 3 ∧ (x.sub = 1 ∨ x.sub = 2)) (hok : v.act < 2 → x.act < 2 → atOk c' = true) (ho : internal = false → outOk c') : JI internal c' (judgeF v x) := by
  unfold judgeF
  split
  · rename_i hlt
    exact ⟨fun h1 => hok (by omega) h1, by omega, by omega, fun e => by omega, fun e => by omega, ho⟩
  · rename_i hge
    exact ⟨fun h1 => hok h1 (by omega), h.a0, h.a3, h.code, h.none, ho⟩
theorem JI.step {four internal : Bool} {met : List UInt8} {c : AtC} {v : Vd} (h : JI internal c v) (x : Rw) : JI internal (readStep tab four internal met c v x).1 (readStep tab four internal met c v x).2 := by
  unfold readStep
  split
  · split
    · exact h.judge ⟨3, 3, 1⟩ (.inr ⟨rfl, rfl, .inl rfl⟩) (fun h1 _ => h.ok h1) h.out
    · exact h
  · split
    · exact h
    · split
      · split
        · exact h.judge ⟨3, 3, 2⟩ (.inr ⟨rfl, rfl, .inr rfl⟩) (fun h1 _ => h.ok h1) h.out
        · exact h
      · rename_i b wr i f hrow
        split
        · exact h.judge ⟨1, 0, 0⟩ (.inl ⟨.inl rfl, rfl, rfl⟩) (fun h1 _ => h.ok h1) h.out
        · rename_i hin
          split
          · exact h.judge ⟨2, 0, 0⟩ (.inl ⟨.inr rfl, rfl, rfl⟩) (fun h1 _ => h.ok h1) h.out
          · have hout : internal = false → outOk (tab x.t.toNat x.v four c).1 := fun e => by
              subst e
              have hi : i = false := by cases i <;> simp at hin ⊢
              subst hi
              exact tab_out hrow _ _ _ (h.out rfl)
            have hk := tab_keeps hrow x.v four c
            split
            · rename_i hT
              exact ⟨fun h1 => ((hk (h.ok h1)).1).elim id (fun q => by rw [hT] at q; cases q.1), h.a0, h.a3, h.code, h.none, hout⟩
            · have hwr : wr = 1 ∨ wr = 2 := by
                rcases row_known hrow with e | e | e | e | e | e | e | e | e | e | e | e
                all_goals
                  rw [e] at hrow
                  have h' := Option.some.inj hrow
                  simp only [Prod.mk.injEq] at h'
                  have := h'.2.1
                  omega
              refine h.judge ⟨wr, 0, 0⟩ (.inl ⟨hwr, rfl, rfl⟩) (fun h1 h2 => ?_) hout
              rcases (hk (h.ok h1)).1 with q | q
              · exact q
              · have : wr < 2 := h2
                omega
theorem JI.all {four internal : Bool} : ∀ (L : List Rw) (met : List UInt8) (c : AtC) (v : Vd), JI internal c v → JI internal (readF tab four internal met c v L).1 (readF tab four internal met c v L).2
  | [], _, _, _, h => h
  | x :: r, met, c, v, h => JI.all r (x.t :: met) _ _ (h.step x)
theorem noC_ok : atOk noC = true := by decide
theorem JI.start (internal : Bool) : JI internal noC ⟨0, 0, 0⟩ := ⟨fun _ => noC_ok, by decide, by decide, fun h => absurd h (by decide), fun _ => ⟨rfl, rfl⟩, fun _ => ⟨rfl, rfl, rfl⟩⟩
end Go.Proofs.YtkcojblflebomaaGreat
set_option linter.unusedVariables false
set_option linter.unusedSimpArgs false
namespace Go.Proofs.YtkcojblflebomaaGreat
open Go.RowKit Go.MapKept Go.Shelf
open Go.Lib hiding intOf
open Go.Sort hiding Below

/-- what of attributes belongs to a type -/
def grp (t : Nat) (c : AtC) : AtC :=
  if t = 1 then { noC with origin := c.origin } else
  if t = 2 then { noC with path := c.path } else
  if t = 3 then { noC with next := c.next } else
  if t = 4 then { noC with hasMed := c.hasMed, med := c.med } else
  if t = 5 then { noC with hasPref := c.hasPref, pref := c.pref } else
  if t = 6 then { noC with atomic := c.atomic } else
  if t = 7 then { noC with aggAs := c.aggAs, aggId := c.aggId } else
  if t = 8 then { noC with comms := c.comms } else
  if t = 9 then { noC with hasOrig := c.hasOrig, orig := c.orig } else
  if t = 10 then { noC with clus := c.clus } else
  if t = 16 then { noC with exts := c.exts } else
  if t = 32 then { noC with larges := c.larges } else noC
def knownT (t : Nat) : Prop := t = 1 ∨ t = 2 ∨ t = 3 ∨ t = 4 ∨ t = 5 ∨ t = 6 ∨ t = 7 ∨ t = 8 ∨ t = 9 ∨ t = 10 ∨ t = 16 ∨ t = 32
theorem grp_no {t : Nat} (h : ¬ knownT t) (c : AtC) : grp t c = noC := by
  unfold knownT at h
  unfold grp
  rw [if_neg (by omega), if_neg (by omega), if_neg (by omega), if_neg (by omega), if_neg (by omega), if_neg (by omega), if_neg (by omega), if_neg (by omega), if_neg (by omega), if_neg (by omega), if_neg (by omega), if_neg (by omega)]
theorem grp_ext {c d : AtC} (h : ∀ t, grp t c = grp t d) : c = d := by
  have e1 : c.origin = d.origin := (by have q := congrArg AtC.origin (h 1); exact q)
  have e2 : c.path = d.path := (by have q := congrArg AtC.path (h 2); exact q)
  have e3 : c.next = d.next := (by have q := congrArg AtC.next (h 3); exact q)
  have e4 : c.hasMed = d.hasMed := (by have q := congrArg AtC.hasMed (h 4); exact q)
  have e5 : c.med = d.med := (by have q := congrArg AtC.med (h 4); exact q)
  have e6 : c.hasPref = d.hasPref := (by have q := congrArg AtC.hasPref (h 5); exact q)
  have e7 : c.pref = d.pref := (by have q := congrArg AtC.pref (h 5); exact q)
  have e8 : c.atomic = d.atomic := (by have q := congrArg AtC.atomic (h 6); exact q)
  have e9 : c.aggAs = d.aggAs := (by have q := congrArg AtC.aggAs (h 7); exact q)
  have e10 : c.aggId = d.aggId := (by have q := congrArg AtC.aggId (h 7); exact q)
  have e11 : c.comms = d.comms := (by have q := congrArg AtC.comms (h 8); exact q)
  have e12 : c.exts = d.exts := (by have q := congrArg AtC.exts (h 16); exact q)
  have e13 : c.larges = d.larges := (by have q := congrArg AtC.larges (h 32); exact q)
  have e14 : c.hasOrig = d.hasOrig := (by have q := congrArg AtC.hasOrig (h 9); exact q)
  have e15 : c.orig = d.orig := (by have q := congrArg AtC.orig (h 9); exact q)
  have e16 : c.clus = d.clus := (by have q := congrArg AtC.clus (h 10); exact q)
  cases c
  cases d
  simp only at e1 e2 e3 e4 e5 e6 e7 e8 e9 e10 e11 e12 e13 e14 e15 e16
  subst e1 e2 e3 e4 e5 e6 e7 e8 e9 e10 e11 e12 e13 e14 e15 e16
  rfl
theorem tab_is {t : Nat} (h : knownT t) (v : ByteArray) (four : Bool) (c d : AtC) : (tab t v four c).2 = (tab t v four d).2 := by
  rcases h with rfl | rfl | rfl | rfl | rfl | rfl | rfl | rfl | rfl | rfl | rfl | rfl
  · rw [tab_1, tab_1]; unfold take1; split <;> rfl
  · rw [tab_2, tab_2]; unfold take2; split <;> rfl
  · rfl
  · rw [tab_4, tab_4]; unfold take4; split <;> rfl
  · rw [tab_5, tab_5]; unfold take5; split <;> rfl
  · rfl
  · rw [tab_7, tab_7]; unfold take7; split <;> rfl
  · rw [tab_8, tab_8]; unfold take8; split <;> rfl
  · rw [tab_9, tab_9]; unfold take9; split <;> rfl
  · rw [tab_10, tab_10]; unfold take10; split <;> rfl
  · rw [tab_16, tab_16]; unfold take16; split <;> rfl
  · rw [tab_32, tab_32]; unfold take32; split <;> rfl
theorem tab_same {t : Nat} (h : knownT t) (v : ByteArray) (four : Bool) (c d : AtC) (hg : grp t c = grp t d) : grp t (tab t v four c).1 = grp t (tab t v four d).1 := by
  rcases h with rfl | rfl | rfl | rfl | rfl | rfl | rfl | rfl | rfl | rfl | rfl | rfl
  · rw [tab_1, tab_1]; unfold take1; split; rfl; exact hg
  · rw [tab_2, tab_2]; unfold take2; split <;> rfl
  · rfl
  · rw [tab_4, tab_4]; unfold take4; split; rfl; exact hg
  · rw [tab_5, tab_5]; unfold take5; split; rfl; exact hg
  · rfl
  · rw [tab_7, tab_7]; unfold take7; split; rfl; exact hg
  · rw [tab_8, tab_8]; unfold take8; split <;> rfl
  · rw [tab_9, tab_9]; unfold take9; split; rfl; exact hg
  · rw [tab_10, tab_10]; unfold take10; split; exact hg; rfl
  · rw [tab_16, tab_16]; unfold take16; split <;> rfl
  · rw [tab_32, tab_32]; unfold take32; split <;> rfl
theorem grp_cases (P : Nat → Prop) (h1 : P 1) (h2 : P 2) (h3 : P 3) (h4 : P 4) (h5 : P 5) (h6 : P 6) (h7 : P 7) (h8 : P 8) (h9 : P 9) (h10 : P 10) (h16 : P 16) (h32 : P 32) (h0 : ∀ s, ¬ knownT s → P s) (s : Nat) : P s := by
  by_cases h : knownT s
  · rcases h with rfl | rfl | rfl | rfl | rfl | rfl | rfl | rfl | rfl | rfl | rfl | rfl <;> assumption
  · exact h0 s h
theorem tab_other {t : Nat} (h : knownT t) (v : ByteArray) (four : Bool) (c : AtC) (s : Nat) (hs : s ≠ t) : grp s (tab t v four c).1 = grp s c := by
  rcases h with rfl | rfl | rfl | rfl | rfl | rfl | rfl | rfl | rfl | rfl | rfl | rfl
  · rw [tab_1]; unfold take1; split
    · revert hs; refine grp_cases (fun s => s ≠ 1 → grp s _ = grp s c) ?_ ?_ ?_ ?_ ?_ ?_ ?_ ?_ ?_ ?_ ?_ ?_ (fun s hn _ => by rw [grp_no hn, grp_no hn]) s <;> intro hs <;> first | exact absurd rfl hs | rfl
    · rfl
  · rw [tab_2]; unfold take2; split <;> (revert hs; refine grp_cases (fun s => s ≠ 2 → grp s _ = grp s c) ?_ ?_ ?_ ?_ ?_ ?_ ?_ ?_ ?_ ?_ ?_ ?_ (fun s hn _ => by rw [grp_no hn, grp_no hn]) s <;> intro hs <;> first | exact absurd rfl hs | rfl)
  · rw [tab_3]; unfold take3; revert hs; refine grp_cases (fun s => s ≠ 3 → grp s _ = grp s c) ?_ ?_ ?_ ?_ ?_ ?_ ?_ ?_ ?_ ?_ ?_ ?_ (fun s hn _ => by rw [grp_no hn, grp_no hn]) s <;> intro hs <;> first | exact absurd rfl hs | rfl
  · rw [tab_4]; unfold take4; split
    · revert hs; refine grp_cases (fun s => s ≠ 4 → grp s _ = grp s c) ?_ ?_ ?_ ?_ ?_ ?_ ?_ ?_ ?_ ?_ ?_ ?_ (fun s hn _ => by rw [grp_no hn, grp_no hn]) s <;> intro hs <;> first | exact absurd rfl hs | rfl
    · rfl
  · rw [tab_5]; unfold take5; split
    · revert hs; refine grp_cases (fun s => s ≠ 5 → grp s _ = grp s c) ?_ ?_ ?_ ?_ ?_ ?_ ?_ ?_ ?_ ?_ ?_ ?_ (fun s hn _ => by rw [grp_no hn, grp_no hn]) s <;> intro hs <;> first | exact absurd rfl hs | rfl
    · rfl
  · rw [tab_6]; unfold take6; revert hs; refine grp_cases (fun s => s ≠ 6 → grp s _ = grp s c) ?_ ?_ ?_ ?_ ?_ ?_ ?_ ?_ ?_ ?_ ?_ ?_ (fun s hn _ => by rw [grp_no hn, grp_no hn]) s <;> intro hs <;> first | exact absurd rfl hs | rfl
  · rw [tab_7]; unfold take7; split
    · revert hs; refine grp_cases (fun s => s ≠ 7 → grp s _ = grp s c) ?_ ?_ ?_ ?_ ?_ ?_ ?_ ?_ ?_ ?_ ?_ ?_ (fun s hn _ => by rw [grp_no hn, grp_no hn]) s <;> intro hs <;> first | exact absurd rfl hs | rfl
    · rfl
  · rw [tab_8]; unfold take8; split <;> (revert hs; refine grp_cases (fun s => s ≠ 8 → grp s _ = grp s c) ?_ ?_ ?_ ?_ ?_ ?_ ?_ ?_ ?_ ?_ ?_ ?_ (fun s hn _ => by rw [grp_no hn, grp_no hn]) s <;> intro hs <;> first | exact absurd rfl hs | rfl)
  · rw [tab_9]; unfold take9; split
    · revert hs; refine grp_cases (fun s => s ≠ 9 → grp s _ = grp s c) ?_ ?_ ?_ ?_ ?_ ?_ ?_ ?_ ?_ ?_ ?_ ?_ (fun s hn _ => by rw [grp_no hn, grp_no hn]) s <;> intro hs <;> first | exact absurd rfl hs | rfl
    · rfl
  · rw [tab_10]; unfold take10; split
    · rfl
    · revert hs; refine grp_cases (fun s => s ≠ 10 → grp s _ = grp s c) ?_ ?_ ?_ ?_ ?_ ?_ ?_ ?_ ?_ ?_ ?_ ?_ (fun s hn _ => by rw [grp_no hn, grp_no hn]) s <;> intro hs <;> first | exact absurd rfl hs | rfl
  · rw [tab_16]; unfold take16; split <;> (revert hs; refine grp_cases (fun s => s ≠ 16 → grp s _ = grp s c) ?_ ?_ ?_ ?_ ?_ ?_ ?_ ?_ ?_ ?_ ?_ ?_ (fun s hn _ => by rw [grp_no hn, grp_no hn]) s <;> intro hs <;> first | exact absurd rfl hs | rfl)
  · rw [tab_32]; unfold take32; split <;> (revert hs; refine grp_cases (fun s => s ≠ 32 → grp s _ = grp s c) ?_ ?_ ?_ ?_ ?_ ?_ ?_ ?_ ?_ ?_ ?_ ?_ (fun s hn _ => by rw [grp_no hn, grp_no hn]) s <;> intro hs <;> first | exact absurd rfl hs | rfl)
/-- what a raw attribute does to attributes, where none ahead has its type -/
def effC (four internal : Bool) (x : Rw) (c : AtC) : AtC :=
  if x.t.toNat = 14 ∨ x.t.toNat = 15 then c
  else match rowF x.t.toNat with
    | none => c
    | some (b, wrong, inside, _) => if (inside && !internal) = true then c
      else if ((x.f &&& 192).toNat : Int) ≠ b then c
      else (tab x.t.toNat x.v four c).1
/-- what it adds to the verdict -/
def effV (four internal : Bool) (x : Rw) : Option Vd :=
  if x.t.toNat = 14 ∨ x.t.toNat = 15 then none
  else match rowF x.t.toNat with
    | none => if x.f &&& 128 = 0 then some ⟨3, 3, 2⟩ else none
    | some (b, wrong, inside, _) => if (inside && !internal) = true then some ⟨1, 0, 0⟩
      else if ((x.f &&& 192).toNat : Int) ≠ b then some ⟨2, 0, 0⟩
      else if (tab x.t.toNat x.v four noC).2 = true then none else some ⟨wrong, 0, 0⟩
def jo (v : Vd) : Option Vd → Vd
  | none => v
  | some x => judgeF v x
theorem step_unmet {four internal : Bool} {met : List UInt8} {c : AtC} {v : Vd} {x : Rw} (h : met.contains x.t = false) : readStep tab four internal met c v x = (effC four internal x c, jo v (effV four internal x)) := by
  unfold readStep effC effV
  by_cases h1 : x.t.toNat = 14 ∨ x.t.toNat = 15
  · rw [if_pos h1, if_pos h1, if_pos h1, h]
    rfl
  · rw [if_neg h1, if_neg h1, if_neg h1, h]
    rw [if_neg (by simp)]
    cases hr : rowF x.t.toNat with
    | none =>
      dsimp only
      split <;> rfl
    | some p =>
      obtain ⟨b, wr, i, f⟩ := p
      dsimp only
      split
      · rfl
      · split
        · rfl
        · rw [tab_is (row_known hr) x.v four c noC]
          split <;> rfl
theorem step_met {four internal : Bool} {met : List UInt8} {c : AtC} {v : Vd} {x : Rw} (h : met.contains x.t = true) (h1 : ¬ (x.t.toNat = 14 ∨ x.t.toNat = 15)) : readStep tab four internal met c v x = (c, v) := by
  unfold readStep
  rw [if_neg h1, if_pos h]
theorem eff_other {four internal : Bool} {x : Rw} {c : AtC} {s : Nat} (hs : s ≠ x.t.toNat) : grp s (effC four internal x c) = grp s c := by
  unfold effC
  split
  · rfl
  · cases hr : rowF x.t.toNat with
    | none => rfl
    | some p =>
      obtain ⟨b, wr, i, f⟩ := p
      dsimp only
      split
      · rfl
      · split
        · rfl
        · exact tab_other (row_known hr) _ _ _ _ hs
theorem eff_same {four internal : Bool} {x : Rw} {c d : AtC} (h : grp x.t.toNat c = grp x.t.toNat d) : grp x.t.toNat (effC four internal x c) = grp x.t.toNat (effC four internal x d) := by
  unfold effC
  split
  · exact h
  · cases hr : rowF x.t.toNat with
    | none => exact h
    | some p =>
      obtain ⟨b, wr, i, f⟩ := p
      dsimp only
      split
      · exact h
      · split
        · exact h
        · exact tab_same (row_known hr) _ _ _ _ h
/-- of unlike types, and none that is laid elsewhere -/
def Unlike : List Rw → Prop
  | [] => True
  | x :: r => ¬ (x.t.toNat = 14 ∨ x.t.toNat = 15) ∧ (∀ y ∈ r, y.t ≠ x.t) ∧ Unlike r
theorem Unlike.some {L : List Rw} (h : Unlike L) : ∀ x ∈ L, ¬ (x.t.toNat = 14 ∨ x.t.toNat = 15) := by
  induction L with
  | nil => intro x hx; cases hx
  | cons a r ih =>
    intro x hx
    rcases List.mem_cons.1 hx with rfl | hx
    · exact h.1
    · exact ih h.2.2 x hx
theorem unlike_snoc : ∀ {L : List Rw} {x : Rw}, Unlike L → ¬ (x.t.toNat = 14 ∨ x.t.toNat = 15) → (∀ y ∈ L, x.t ≠ y.t) → Unlike (L ++ [x])
  | [], x, _, h1, _ => ⟨h1, (fun y hy => by cases hy), trivial⟩
  | a :: r, x, h, h1, h2 => ⟨h.1, fun y hy => by
      rcases List.mem_append.1 hy with hy | hy
      · exact h.2.1 y hy
      · rw [List.mem_singleton.1 hy]; exact h2 a (List.mem_cons_self ..), unlike_snoc h.2.2 h1 (fun y hy => h2 y (List.mem_cons_of_mem _ hy))⟩
theorem unlike_rev : ∀ {L : List Rw}, Unlike L → Unlike L.reverse
  | [], _ => trivial
  | a :: r, h => by
    rw [List.reverse_cons]
    exact unlike_snoc (unlike_rev h.2.2) h.1 (fun y hy e => h.2.1 y (List.mem_reverse.1 hy) e.symm)
theorem tnat_ne {a b : UInt8} (h : a ≠ b) : a.toNat ≠ b.toNat := fun e => h (UInt8.toNat_inj.1 e)
theorem read_grp {four internal : Bool} : ∀ (L : List Rw) (met : List UInt8) (c : AtC) (v : Vd), Unlike L → (∀ x ∈ L, met.contains x.t = false) → (∀ x ∈ L, grp x.t.toNat c = grp x.t.toNat noC) → ∀ s, grp s (readF tab four internal met c v L).1 = (match L.find? (fun x => x.t.toNat == s) with
    | some x => grp s (effC four internal x noC)
    | none => grp s c)
  | [], met, c, v, _, _, _, s => rfl
  | x :: r, met, c, v, hU, hm, hg, s => by
    have hst := step_unmet (four := four) (internal := internal) (c := c) (v := v) (hm x (List.mem_cons_self ..))
    have ih := read_grp (four := four) (internal := internal) r (x.t :: met) (effC four internal x c) (jo v (effV four internal x)) hU.2.2 (fun y hy => by
      rw [List.contains_cons, hm y (List.mem_cons_of_mem _ hy), Bool.or_false, beq_eq_false_iff_ne]
      exact hU.2.1 y hy) (fun y hy => by
      rw [eff_other (tnat_ne (hU.2.1 y hy))]
      exact hg y (List.mem_cons_of_mem _ hy)) s
    show grp s (readF tab four internal (x.t :: met) (readStep tab four internal met c v x).1 (readStep tab four internal met c v x).2 r).1 = _
    rw [hst, ih, List.find?_cons]
    by_cases e : x.t.toNat = s
    · have e2 : (x.t.toNat == s) = true := beq_iff_eq.2 e
      rw [e2]
      have hn : r.find? (fun x => x.t.toNat == s) = none := by
        rw [List.find?_eq_none]
        intro y hy h2
        exact tnat_ne (hU.2.1 y hy) ((beq_iff_eq.1 h2).trans e.symm)
      rw [hn]
      dsimp only
      rw [← e]
      exact eff_same (hg x (List.mem_cons_self ..))
    · have e2 : (x.t.toNat == s) = false := beq_eq_false_iff_ne.2 e
      rw [e2]
      cases hf : r.find? (fun x => x.t.toNat == s) with
      | none =>
        dsimp only
        exact eff_other (fun q => e q.symm)
      | some y => rfl
theorem find_rev {L : List Rw} (h : Unlike L) (s : Nat) : L.reverse.find? (fun x => x.t.toNat == s) = L.find? (fun x => x.t.toNat == s) := by
  induction L with
  | nil => rfl
  | cons a r ih =>
    rw [List.reverse_cons, List.find?_append, List.find?_cons, ih h.2.2]
    by_cases e : a.t.toNat = s
    · have e2 : (a.t.toNat == s) = true := beq_iff_eq.2 e
      have hn : r.find? (fun x => x.t.toNat == s) = none := by
        rw [List.find?_eq_none]
        intro y hy h2
        exact tnat_ne (h.2.1 y hy) ((beq_iff_eq.1 h2).trans e.symm)
      rw [hn, e2]
      simp [List.find?_cons, e2]
    · have e2 : (a.t.toNat == s) = false := beq_eq_false_iff_ne.2 e
      rw [e2]
      simp [List.find?_cons, e2]
theorem turned_c {four internal : Bool} {L : List Rw} (h : Unlike L) : (readF tab four internal [] noC ⟨0, 0, 0⟩ L.reverse).1 = (readF tab four internal [] noC ⟨0, 0, 0⟩ L).1 :=
  grp_ext fun s => by
    rw [read_grp L.reverse [] noC _ (unlike_rev h) (fun _ _ => rfl) (fun _ _ => rfl) s, read_grp L [] noC _ h (fun _ _ => rfl) (fun _ _ => rfl) s, find_rev h]
def actO : Option Vd → Int
  | none => 0
  | some x => x.act
theorem jo_act (v : Vd) (o : Option Vd) (h : 0 ≤ v.act) : (jo v o).act = max v.act (actO o) := by
  cases o with
  | none => show v.act = max v.act 0; omega
  | some x =>
    show (judgeF v x).act = max v.act x.act
    unfold judgeF
    split <;> omega
def supA (four internal : Bool) : List Rw → Int
  | [] => 0
  | x :: r => max (actO (effV four internal x)) (supA four internal r)
theorem supA_nonneg (four internal : Bool) : ∀ L, 0 ≤ supA four internal L
  | [] => Int.le_refl _
  | x :: r => by
    have := supA_nonneg four internal r
    show 0 ≤ max _ _
    omega
theorem supA_snoc (four internal : Bool) (x : Rw) : ∀ L, supA four internal (L ++ [x]) = max (actO (effV four internal x)) (supA four internal L)
  | [] => rfl
  | y :: r => by
    have := supA_snoc four internal x r
    show max _ (supA four internal (r ++ [x])) = max _ (max _ _)
    rw [this]
    omega
theorem supA_rev (four internal : Bool) : ∀ L, supA four internal L.reverse = supA four internal L
  | [] => rfl
  | y :: r => by
    rw [List.reverse_cons, supA_snoc, supA_rev four internal r]
    rfl
theorem read_act {four internal : Bool} : ∀ (L : List Rw) (met : List UInt8) (c : AtC) (v : Vd), Unlike L → (∀ x ∈ L, met.contains x.t = false) → 0 ≤ v.act → (readF tab four internal met c v L).2.act = max v.act (supA four internal L)
  | [], met, c, v, _, _, h0 => by
    show v.act = max v.act 0
    omega
  | x :: r, met, c, v, hU, hm, h0 => by
    have hst := step_unmet (four := four) (internal := internal) (c := c) (v := v) (hm x (List.mem_cons_self ..))
    have hj := jo_act v (effV four internal x) h0
    have ih := read_act (four := four) (internal := internal) r (x.t :: met) (effC four internal x c) (jo v (effV four internal x)) hU.2.2 (fun y hy => by
      rw [List.contains_cons, hm y (List.mem_cons_of_mem _ hy), Bool.or_false, beq_eq_false_iff_ne]
      exact hU.2.1 y hy) (by rw [hj]; omega)
    show (readF tab four internal (x.t :: met) (readStep tab four internal met c v x).1 (readStep tab four internal met c v x).2 r).2.act = max _ (max _ _)
    rw [hst, ih, hj]
    omega
theorem turned_act {four internal : Bool} {L : List Rw} (h : Unlike L) : (readF tab four internal [] noC ⟨0, 0, 0⟩ L.reverse).2.act = (readF tab four internal [] noC ⟨0, 0, 0⟩ L).2.act := by
  rw [read_act L.reverse [] noC _ (unlike_rev h) (fun _ _ => rfl) (Int.le_refl _), read_act L [] noC _ h (fun _ _ => rfl) (Int.le_refl _), supA_rev]
theorem read_app {T : Nat → ByteArray → Bool → AtC → AtC × Bool} {four internal : Bool} : ∀ (A B : List Rw) (met : List UInt8) (c : AtC) (v : Vd), readF T four internal met c v (A ++ B) = readF T four internal ((A.map (·.t)).reverse ++ met) (readF T four internal met c v A).1 (readF T four internal met c v A).2 B
  | [], B, met, c, v => rfl
  | x :: r, B, met, c, v => by
    show readF T four internal (x.t :: met) _ _ (r ++ B) = _
    rw [read_app r B, List.map_cons, List.reverse_cons, List.append_assoc]
    rfl
theorem read_met {four internal : Bool} : ∀ (L : List Rw) (met : List UInt8) (c : AtC) (v : Vd), (∀ x ∈ L, met.contains x.t = true ∧ ¬ (x.t.toNat = 14 ∨ x.t.toNat = 15)) → readF tab four internal met c v L = (c, v)
  | [], met, c, v, _ => rfl
  | x :: r, met, c, v, h => by
    obtain ⟨h1, h2⟩ := h x (List.mem_cons_self ..)
    show readF tab four internal (x.t :: met) (readStep tab four internal met c v x).1 (readStep tab four internal met c v x).2 r = _
    rw [step_met h1 h2]
    exact read_met r _ _ _ (fun y hy => by
      obtain ⟨q1, q2⟩ := h y (List.mem_cons_of_mem _ hy)
      exact ⟨by rw [List.contains_cons, q1, Bool.or_true], q2⟩)
/-- each, and behind it all so far once more -/
def twN (L : List Rw) : Nat → List Rw
  | 0 => []
  | k + 1 => twN L k ++ ((L.drop k).take 1 ++ L.take (k + 1))
theorem twN_mem {L : List Rw} {x : Rw} : ∀ k, x ∈ twN L k ↔ x ∈ L.take k
  | 0 => by simp [twN]
  | k + 1 => by
    have ih := twN_mem (x := x) (L := L) k
    have e : L.take (k + 1) = L.take k ++ (L.drop k).take 1 := by rw [← List.take_add]
    unfold twN
    rw [List.mem_append, List.mem_append, ih, e, List.mem_append]
    constructor
    · rintro (h | h | h | h)
      · exact .inl h
      · exact .inr h
      · exact .inl h
      · exact .inr h
    · rintro (h | h)
      · exact .inl h
      · exact .inr (.inl h)
theorem unlike_at : ∀ {L : List Rw} {k : Nat} {x y : Rw}, Unlike L → L[k]? = some x → y ∈ L.take k → y.t ≠ x.t
  | [], k, x, y, _, h, _ => by simp at h
  | a :: r, 0, x, y, hU, h, hy => by cases hy
  | a :: r, k + 1, x, y, hU, h, hy => by
    rw [List.getElem?_cons_succ] at h
    rw [List.take_succ_cons] at hy
    rcases List.mem_cons.1 hy with rfl | hy
    · exact fun e => hU.2.1 x (List.mem_of_getElem? h) e.symm
    · exact unlike_at hU.2.2 h hy
theorem types_has {A : List Rw} {t : UInt8} : ((A.map (·.t)).reverse ++ ([] : List UInt8)).contains t = true ↔ ∃ x ∈ A, x.t = t := by
  simp [List.contains_iff_mem]
theorem read_twice {four internal : Bool} {L : List Rw} (h : Unlike L) : ∀ k, readF tab four internal [] noC ⟨0, 0, 0⟩ (twN L k) = readF tab four internal [] noC ⟨0, 0, 0⟩ (L.take k)
  | 0 => rfl
  | k + 1 => by
    have ih := read_twice (four := four) (internal := internal) h k
    have e : L.take (k + 1) = L.take k ++ (L.drop k).take 1 := by rw [← List.take_add]
    have eR : readF tab four internal [] noC ⟨0, 0, 0⟩ (L.take (k + 1)) = readF tab four internal (((L.take k).map (·.t)).reverse ++ []) (readF tab four internal [] noC ⟨0, 0, 0⟩ (L.take k)).1 (readF tab four internal [] noC ⟨0, 0, 0⟩ (L.take k)).2 ((L.drop k).take 1) := by
      rw [e, read_app]
    rw [eR, ← ih]
    show readF tab four internal [] noC ⟨0, 0, 0⟩ (twN L k ++ ((L.drop k).take 1 ++ L.take (k + 1))) = _
    rw [read_app, read_app]
    generalize (readF tab four internal [] noC ⟨0, 0, 0⟩ (twN L k)).1 = c
    generalize (readF tab four internal [] noC ⟨0, 0, 0⟩ (twN L k)).2 = v
    rw [read_met]
    · by_cases hk : k < L.length
      · obtain ⟨x, hx⟩ : ∃ x, L[k]? = some x := ⟨L[k], List.getElem?_eq_getElem hk⟩
        have e1 : (L.drop k).take 1 = [x] := by
          rw [List.drop_eq_getElem_cons hk]
          rw [List.getElem?_eq_getElem hk] at hx
          injection hx with hx
          rw [hx]
          rfl
        rw [e1]
        have m1 : (((twN L k).map (·.t)).reverse ++ ([] : List UInt8)).contains x.t = false := by
          rw [Bool.eq_false_iff]
          intro q
          obtain ⟨y, hy, e2⟩ := types_has.1 q
          exact unlike_at h hx ((twN_mem k).1 hy) e2
        have m2 : (((L.take k).map (·.t)).reverse ++ ([] : List UInt8)).contains x.t = false := by
          rw [Bool.eq_false_iff]
          intro q
          obtain ⟨y, hy, e2⟩ := types_has.1 q
          exact unlike_at h hx hy e2
        show readStep tab four internal _ c v x = readStep tab four internal _ c v x
        rw [step_unmet m1, step_unmet m2]
      · have e1 : (L.drop k).take 1 = [] := by rw [List.drop_eq_nil_of_le (by omega)]; rfl
        rw [e1]
        rfl
    · intro x hx
      exact ⟨by
        have hx2 : x ∈ twN L (k + 1) := (twN_mem (k + 1)).2 hx
        rw [List.contains_iff_mem]
        have hx3 : x ∈ twN L k ∨ x ∈ (L.drop k).take 1 := by
          rw [e] at hx
          rcases List.mem_append.1 hx with q | q
          · exact .inl ((twN_mem k).2 q)
          · exact .inr q
        rw [List.mem_append]
        rcases hx3 with q | q
        · exact .inr (List.mem_append_left _ (List.mem_reverse.2 (List.mem_map_of_mem q)))
        · exact .inl (List.mem_reverse.2 (List.mem_map_of_mem q)), h.some x (List.mem_of_mem_take hx)⟩
end Go.Proofs.YtkcojblflebomaaGreat
set_option linter.unusedVariables false
set_option linter.unusedSimpArgs false
namespace Go.Proofs.YtkcojblflebomaaGreat
open Go.RowKit Go.MapKept Go.Shelf
open Go.Lib hiding intOf
open Go.Sort hiding Below

theorem hd_u64 (v : ByteArray) : hd v 8 < 18446744073709551616 := Nat.lt_of_lt_of_le (hd_lt v 8) (by decide)
set_option maxHeartbeats 4000000 in
theorem cdec_8 (s : ByteArray) (w : World) (hm : (s.size : Int) ≤ 140737488351232) :
    Calls Tryz.prog 83 #[.string s] w fun e w' => RcPost (w.heap.size + 1) 35 1 u1 (readC 4 (fun s => hd s 4) ltN s) w' e ∧ Below w.heap.size w w' := by
  have HC := Lib.hid (cread_u32 s w hm)
  generalize readC 4 (fun s => hd s 4) ltN s = RES at HC ⊢
  go_enter Tryz.func83, Tryz.ntmps83
  go_wp2_with fail
  refine HC.out.mono ?_
  rintro e w1 ⟨hp, hb⟩
  have HB := Lib.hid hb
  clear hb HC
  cases RES with
  | none =>
    obtain ⟨n, rfl, hn⟩ := hp
    go_wp2_with fail
    go_ret2
    exact ⟨⟨n, rfl, hn⟩, HB.out⟩
  | some l =>
    obtain ⟨v, rfl, ho⟩ := hp
    have HO := Lib.hid ho
    clear ho
    go_wp2_with fail
    go_ret2
    exact ⟨⟨v, rfl, HO.out⟩, HB.out⟩
set_option maxHeartbeats 8000000 in
theorem take8s : Takes 82 (fun v _ c => take8 v c) := by
  intro b c v four w h hm
  have HDEC := Lib.hid (cdec_8 v w hm)
  obtain ⟨a, hc, ho, hac⟩ := h.x
  have HC := Lib.hid hc
  have HO := Lib.hid ho
  have HAC := Lib.hid hac
  have hlt := hc.lt
  have HT : Hid (take8 v c = match readC 4 (fun s => hd s 4) ltN v with
    | none => ({ c with comms := [] }, false)
    | some l => ({ c with comms := l }, true)) := rfl
  have HFT : Hid (∀ l, readC 4 (fun s => hd s 4) ltN v = some l → ∀ x ∈ l, (fun n : Nat => n < 4294967296) x) := fun l hl => readC_all (p := (fun n : Nat => n < 4294967296)) (fun s => hd_u32 s) hl
  clear hc ho hac h
  generalize readC 4 (fun s => hd s 4) ltN v = RES at HDEC HT HFT
  show Calls _ _ _ _ fun e w' => e = .returned (.bool (take8 v c).2) ∧ AtVar w' b (take8 v c).1 ∧ Tk w w' b
  generalize take8 v c = res at HT ⊢
  go_enter Tryz.func82, Tryz.ntmps82
  go_wp2_with fail
  refine HDEC.out.mono ?_
  rintro e w1 ⟨hpost, hb⟩
  have HC1 : Hid (CellsAt w1 b a.ar 40) := HC.out.below hb hlt
  have HO1 : Hid (AtO w1 (b + 1) a) := HO.out.below hb
  have HB1 := Lib.hid hb
  obtain ⟨c0, c1, c2, c3, c4, c5, c6, c7, c8, c9, c10, c11, c12, c13, c14, c15⟩ := atr_cells HC1.out
  have cf := HC1.out.unfrozen 10
  clear c0 c1 c2 c3 c4 c5 c6 c7 c8 c9 c11 c12 c13 c14 c15
  clear hb HDEC
  cases RES with
  | none =>
    obtain ⟨n, rfl, hn⟩ := hpost
    have hn0 : (n == 0) = false := beq_eq_false_iff_ne.2 (by omega)
    clear hn
    go_wp2_with fail
    go_ret
    refine ⟨by rw [HT.out]; rfl, ?_, Tk.below_set _ HB1.out hlt⟩
    rw [HT.out]
    exact ⟨⟨{ a with mA := none, comms := [], mC := 0 }, HC1.out.setAt 10 _, { HO1.out.setc with comms := OwnL.nil _ _ _ _ _, mfit := fun x hx => by cases hx }, ⟨by rw [← HAC.out.1]; rfl, HAC.out.2⟩⟩⟩
  | some l =>
    obtain ⟨pv, rfl, hso⟩ := hpost
    obtain ⟨A, cc, rfl⟩ := hso.form
    have HSG : Hid (OwnL w1 (b + 1) 35 1 u1 (.slice A l.length cc) l) := OwnM.lower hso (by omega)
    clear hso
    go_wp2_with fail
    go_ret
    refine ⟨by rw [HT.out]; rfl, ?_, Tk.below_set _ HB1.out hlt⟩
    rw [HT.out]
    exact ⟨⟨{ a with mA := A, comms := l, mC := cc }, HC1.out.setAt 10 _, { HO1.out.setc with comms := HSG.out.keep (fun k h1 _ => Below.heap_setCell w1 _ _ k (by show k ≠ b; omega)), mfit := HFT.out l rfl }, ⟨by rw [← HAC.out.1]; rfl, HAC.out.2⟩⟩⟩
set_option maxHeartbeats 4000000 in
theorem cdec_16 (s : ByteArray) (w : World) (hm : (s.size : Int) ≤ 140737488351232) :
    Calls Tryz.prog 87 #[.string s] w fun e w' => RcPost (w.heap.size + 1) 57 1 x1 (readC 8 (fun s => hd s 8) ltN s) w' e ∧ Below w.heap.size w w' := by
  have HC := Lib.hid (cread_u64 s w hm)
  generalize readC 8 (fun s => hd s 8) ltN s = RES at HC ⊢
  go_enter Tryz.func87, Tryz.ntmps87
  go_wp2_with fail
  refine HC.out.mono ?_
  rintro e w1 ⟨hp, hb⟩
  have HB := Lib.hid hb
  clear hb HC
  cases RES with
  | none =>
    obtain ⟨n, rfl, hn⟩ := hp
    go_wp2_with fail
    go_ret2
    exact ⟨⟨n, rfl, hn⟩, HB.out⟩
  | some l =>
    obtain ⟨v, rfl, ho⟩ := hp
    have HO := Lib.hid ho
    clear ho
    go_wp2_with fail
    go_ret2
    exact ⟨⟨v, rfl, HO.out⟩, HB.out⟩
set_option maxHeartbeats 8000000 in
theorem take16s : Takes 86 (fun v _ c => take16 v c) := by
  intro b c v four w h hm
  have HDEC := Lib.hid (cdec_16 v w hm)
  obtain ⟨a, hc, ho, hac⟩ := h.x
  have HC := Lib.hid hc
  have HO := Lib.hid ho
  have HAC := Lib.hid hac
  have hlt := hc.lt
  have HT : Hid (take16 v c = match readC 8 (fun s => hd s 8) ltN v with
    | none => ({ c with exts := [] }, false)
    | some l => ({ c with exts := l }, true)) := rfl
  have HFT : Hid (∀ l, readC 8 (fun s => hd s 8) ltN v = some l → ∀ x ∈ l, (fun n : Nat => n < 18446744073709551616) x) := fun l hl => readC_all (p := (fun n : Nat => n < 18446744073709551616)) (fun s => hd_u64 s) hl
  clear hc ho hac h
  generalize readC 8 (fun s => hd s 8) ltN v = RES at HDEC HT HFT
  show Calls _ _ _ _ fun e w' => e = .returned (.bool (take16 v c).2) ∧ AtVar w' b (take16 v c).1 ∧ Tk w w' b
  generalize take16 v c = res at HT ⊢
  go_enter Tryz.func86, Tryz.ntmps86
  go_wp2_with fail
  refine HDEC.out.mono ?_
  rintro e w1 ⟨hpost, hb⟩
  have HC1 : Hid (CellsAt w1 b a.ar 40) := HC.out.below hb hlt
  have HO1 : Hid (AtO w1 (b + 1) a) := HO.out.below hb
  have HB1 := Lib.hid hb
  obtain ⟨c0, c1, c2, c3, c4, c5, c6, c7, c8, c9, c10, c11, c12, c13, c14, c15⟩ := atr_cells HC1.out
  have cf := HC1.out.unfrozen 11
  clear c0 c1 c2 c3 c4 c5 c6 c7 c8 c9 c10 c12 c13 c14 c15
  clear hb HDEC
  cases RES with
  | none =>
    obtain ⟨n, rfl, hn⟩ := hpost
    have hn0 : (n == 0) = false := beq_eq_false_iff_ne.2 (by omega)
    clear hn
    go_wp2_with fail
    go_ret
    refine ⟨by rw [HT.out]; rfl, ?_, Tk.below_set _ HB1.out hlt⟩
    rw [HT.out]
    exact ⟨⟨{ a with xA := none, exts := [], xC := 0 }, HC1.out.setAt 11 _, { HO1.out.setc with exts := OwnL.nil _ _ _ _ _, xfit := fun x hx => by cases hx }, ⟨by rw [← HAC.out.1]; rfl, HAC.out.2⟩⟩⟩
  | some l =>
    obtain ⟨pv, rfl, hso⟩ := hpost
    obtain ⟨A, cc, rfl⟩ := hso.form
    have HSG : Hid (OwnL w1 (b + 1) 57 1 x1 (.slice A l.length cc) l) := OwnM.lower hso (by omega)
    clear hso
    go_wp2_with fail
    go_ret
    refine ⟨by rw [HT.out]; rfl, ?_, Tk.below_set _ HB1.out hlt⟩
    rw [HT.out]
    exact ⟨⟨{ a with xA := A, exts := l, xC := cc }, HC1.out.setAt 11 _, { HO1.out.setc with exts := HSG.out.keep (fun k h1 _ => Below.heap_setCell w1 _ _ k (by show k ≠ b; omega)), xfit := HFT.out l rfl }, ⟨by rw [← HAC.out.1]; rfl, HAC.out.2⟩⟩⟩
set_option maxHeartbeats 4000000 in
theorem cdec_32 (s : ByteArray) (w : World) (hm : (s.size : Int) ≤ 140737488351232) :
    Calls Tryz.prog 89 #[.string s] w fun e w' => RcPost (w.heap.size + 1) 59 3 Lg.cs (readC 12 lg12 ltL s) w' e ∧ Below w.heap.size w w' := by
  have HC := Lib.hid (cread_L s w hm)
  generalize readC 12 lg12 ltL s = RES at HC ⊢
  go_enter Tryz.func89, Tryz.ntmps89
  go_wp2_with fail
  refine HC.out.mono ?_
  rintro e w1 ⟨hp, hb⟩
  have HB := Lib.hid hb
  clear hb HC
  cases RES with
  | none =>
    obtain ⟨n, rfl, hn⟩ := hp
    go_wp2_with fail
    go_ret2
    exact ⟨⟨n, rfl, hn⟩, HB.out⟩
  | some l =>
    obtain ⟨v, rfl, ho⟩ := hp
    have HO := Lib.hid ho
    clear ho
    go_wp2_with fail
    go_ret2
    exact ⟨⟨v, rfl, HO.out⟩, HB.out⟩
set_option maxHeartbeats 8000000 in
theorem take32s : Takes 88 (fun v _ c => take32 v c) := by
  intro b c v four w h hm
  have HDEC := Lib.hid (cdec_32 v w hm)
  obtain ⟨a, hc, ho, hac⟩ := h.x
  have HC := Lib.hid hc
  have HO := Lib.hid ho
  have HAC := Lib.hid hac
  have hlt := hc.lt
  have HT : Hid (take32 v c = match readC 12 lg12 ltL v with
    | none => ({ c with larges := [] }, false)
    | some l => ({ c with larges := l }, true)) := rfl
  have HFT : Hid (∀ l, readC 12 lg12 ltL v = some l → ∀ x ∈ l, (fun x : Lg => x.g < 4294967296 ∧ x.a < 4294967296 ∧ x.b < 4294967296) x) := fun l hl => readC_all (p := (fun x : Lg => x.g < 4294967296 ∧ x.a < 4294967296 ∧ x.b < 4294967296)) (fun s => ⟨hd_u32 _, hd_u32 _, hd_u32 _⟩) hl
  clear hc ho hac h
  generalize readC 12 lg12 ltL v = RES at HDEC HT HFT
  show Calls _ _ _ _ fun e w' => e = .returned (.bool (take32 v c).2) ∧ AtVar w' b (take32 v c).1 ∧ Tk w w' b
  generalize take32 v c = res at HT ⊢
  go_enter Tryz.func88, Tryz.ntmps88
  go_wp2_with fail
  refine HDEC.out.mono ?_
  rintro e w1 ⟨hpost, hb⟩
  have HC1 : Hid (CellsAt w1 b a.ar 40) := HC.out.below hb hlt
  have HO1 : Hid (AtO w1 (b + 1) a) := HO.out.below hb
  have HB1 := Lib.hid hb
  obtain ⟨c0, c1, c2, c3, c4, c5, c6, c7, c8, c9, c10, c11, c12, c13, c14, c15⟩ := atr_cells HC1.out
  have cf := HC1.out.unfrozen 12
  clear c0 c1 c2 c3 c4 c5 c6 c7 c8 c9 c10 c11 c13 c14 c15
  clear hb HDEC
  cases RES with
  | none =>
    obtain ⟨n, rfl, hn⟩ := hpost
    have hn0 : (n == 0) = false := beq_eq_false_iff_ne.2 (by omega)
    clear hn
    go_wp2_with fail
    go_ret
    refine ⟨by rw [HT.out]; rfl, ?_, Tk.below_set _ HB1.out hlt⟩
    rw [HT.out]
    exact ⟨⟨{ a with lA := none, larges := [], lC := 0 }, HC1.out.setAt 12 _, { HO1.out.setc with larges := OwnL.nil _ _ _ _ _, lfit := fun x hx => by cases hx }, ⟨by rw [← HAC.out.1]; rfl, HAC.out.2⟩⟩⟩
  | some l =>
    obtain ⟨pv, rfl, hso⟩ := hpost
    obtain ⟨A, cc, rfl⟩ := hso.form
    have HSG : Hid (OwnL w1 (b + 1) 59 3 Lg.cs (.slice A l.length cc) l) := OwnM.lower hso (by omega)
    clear hso
    go_wp2_with fail
    go_ret
    refine ⟨by rw [HT.out]; rfl, ?_, Tk.below_set _ HB1.out hlt⟩
    rw [HT.out]
    exact ⟨⟨{ a with lA := A, larges := l, lC := cc }, HC1.out.setAt 12 _, { HO1.out.setc with larges := HSG.out.keep (fun k h1 _ => Below.heap_setCell w1 _ _ k (by show k ≠ b; omega)), lfit := HFT.out l rfl }, ⟨by rw [← HAC.out.1]; rfl, HAC.out.2⟩⟩⟩
theorem row_is {t : Nat} {b wr b' wr' : Int} {i i' : Bool} {f f' : FuncId} (h : rowF t = some (b, wr, i, f)) (h' : rowF t = some (b', wr', i', f')) : f = f' := by
  rw [h] at h'
  injection h' with h'
  simp only [Prod.mk.injEq] at h'
  exact h'.2.2.2
/-- each type is taken so -/
theorem tab_takes (n : Nat) (b wr : Int) (i : Bool) (f : FuncId) (h : rowF n = some (b, wr, i, f)) : TakesT tab n f := by
  have hk := row_known h
  unfold TakesT
  rcases hk with rfl | rfl | rfl | rfl | rfl | rfl | rfl | rfl | rfl | rfl | rfl | rfl
  · rw [if_neg (by decide), row_is h (show rowF 1 = some (_, _, _, _) from rfl)]
    exact ⟨takes1, fun v four c => by show (take1 v c).1.clus = c.clus; unfold take1; split <;> rfl⟩
  · rw [if_neg (by decide), row_is h (show rowF 2 = some (_, _, _, _) from rfl)]
    exact ⟨takes2, fun v four c => by show (take2 v four c).1.clus = c.clus; unfold take2; split <;> rfl⟩
  · rw [if_neg (by decide), row_is h (show rowF 3 = some (_, _, _, _) from rfl)]
    exact ⟨takes3, fun v four c => rfl⟩
  · rw [if_neg (by decide), row_is h (show rowF 4 = some (_, _, _, _) from rfl)]
    exact ⟨take4s, fun v four c => by show (take4 v c).1.clus = c.clus; unfold take4; split <;> rfl⟩
  · rw [if_neg (by decide), row_is h (show rowF 5 = some (_, _, _, _) from rfl)]
    exact ⟨take5s, fun v four c => by show (take5 v c).1.clus = c.clus; unfold take5; split <;> rfl⟩
  · rw [if_neg (by decide), row_is h (show rowF 6 = some (_, _, _, _) from rfl)]
    exact ⟨take6s, fun v four c => rfl⟩
  · rw [if_neg (by decide), row_is h (show rowF 7 = some (_, _, _, _) from rfl)]
    exact ⟨take7s, fun v four c => by show (take7 v four c).1.clus = c.clus; unfold take7; split <;> rfl⟩
  · rw [if_neg (by decide), row_is h (show rowF 8 = some (_, _, _, _) from rfl)]
    exact ⟨take8s, fun v four c => by show (take8 v c).1.clus = c.clus; unfold take8; split <;> rfl⟩
  · rw [if_neg (by decide), row_is h (show rowF 9 = some (_, _, _, _) from rfl)]
    exact ⟨take9s, fun v four c => by show (take9 v c).1.clus = c.clus; unfold take9; split <;> rfl⟩
  · rw [if_pos rfl, row_is h (show rowF 10 = some (_, _, _, _) from rfl)]
    exact take10s
  · rw [if_neg (by decide), row_is h (show rowF 16 = some (_, _, _, _) from rfl)]
    exact ⟨take16s, fun v four c => by show (take16 v c).1.clus = c.clus; unfold take16; split <;> rfl⟩
  · rw [if_neg (by decide), row_is h (show rowF 32 = some (_, _, _, _) from rfl)]
    exact ⟨take32s, fun v four c => by show (take32 v c).1.clus = c.clus; unfold take32; split <;> rfl⟩
end Go.Proofs.YtkcojblflebomaaGreat
set_option linter.unusedVariables false
set_option linter.unusedSimpArgs false
namespace Go.Proofs.YtkcojblflebomaaGreat
open Go.RowKit Go.MapKept Go.Shelf
open Go.Lib hiding intOf

theorem wp_name {P : Program} {c : Code} {Q : Exit → Act → World → Prop} {a : Act} {w : World} (h : ∀ W, W = w → Code.wp P c Q a W) : Code.wp P c Q a w := h w rfl
def vdV (v : Vd) : Array Value := #[.int .i64 v.act, .int .u8 v.code, .int .u8 v.sub]
/-- two variables, stored into one behind the other -/
def rdW (w : World) (cs xs : Array Value) (v : Vd) : World := (((w.alloc (.cells cs 40)).alloc (.cells #[.int .i64 0, .int .u8 0, .int .u8 0] 42)).setRow w.heap.size xs).setRow (w.heap.size + 1) #[.int .i64 v.act, .int .u8 v.code, .int .u8 v.sub]
theorem rd_z (w : World) (cs : Array Value) : CellsAt ((w.alloc (.cells cs 40)).alloc (.cells #[.int .i64 0, .int .u8 0, .int .u8 0] 42)) w.heap.size cs 40 := (CellsAt.new _ _ _).alloc _
theorem rd_y (w : World) (cs xs : Array Value) : CellsAt (((w.alloc (.cells cs 40)).alloc (.cells #[.int .i64 0, .int .u8 0, .int .u8 0] 42)).setRow w.heap.size xs) (w.heap.size + 1) #[.int .i64 0, .int .u8 0, .int .u8 0] 42 := by
  have h := CellsAt.new (w.alloc (.cells cs 40)) #[.int .i64 0, .int .u8 0, .int .u8 0] 42
  have e5 : (w.alloc (.cells cs 40)).heap.size = w.heap.size + 1 := by simp
  rw [e5] at h
  exact h.row (grown_setRow' _ _ _) (by omega)
theorem rd_a (w : World) (cs xs : Array Value) (v : Vd) : CellsAt (rdW w cs xs v) w.heap.size xs 40 := ((rd_z w cs).setRow' _).row (grown_setRow' _ _ _) (by omega)
theorem rd_v (w : World) (cs xs : Array Value) (v : Vd) : CellsAt (rdW w cs xs v) (w.heap.size + 1) #[.int .i64 v.act, .int .u8 v.code, .int .u8 v.sub] 42 := (rd_y w cs xs).setRow' _
theorem rd_b (w : World) (cs xs : Array Value) (v : Vd) : Below w.heap.size w (rdW w cs xs v) := ((((Below.refl _ _).alloc (Nat.le_refl _) _).alloc (by simp) _).grown (grown_setRow' _ _ _) (by simp; omega) (fun k hk => by cases hk; omega)).grown (grown_setRow' _ _ _) (by rw [setRow_size]; simp; omega) (fun k hk => by cases hk; omega)
theorem rd_size (w : World) (cs xs : Array Value) (v : Vd) : (rdW w cs xs v).heap.size = w.heap.size + 2 := by
  unfold rdW
  rw [setRow_size, setRow_size]
  simp
/-- attr.Read over the whole table -/
theorem read_tab (A : Option Addr) (cap : Nat) (L : List Rw) (four internal : Bool) (w : World) (h : RwsOk w A cap L) (hsz : ∀ r ∈ L, r.v.size ≤ 140737488351232) :
    Calls Tryz.prog 19 #[.slice A L.length cap, .bool four, .bool internal] w fun e w' => (∃ a : Atr, e = .returned (.tuple #[.agg a.ar, .agg #[.int .i64 (readF tab four internal [] noC ⟨0, 0, 0⟩ L).2.act, .int .u8 (readF tab four internal [] noC ⟨0, 0, 0⟩ L).2.code, .int .u8 (readF tab four internal [] noC ⟨0, 0, 0⟩ L).2.sub]]) ∧ AtO w' w.heap.size a ∧ a.c = (if 2 ≤ (readF tab four internal [] noC ⟨0, 0, 0⟩ L).2.act then noC else (readF tab four internal [] noC ⟨0, 0, 0⟩ L).1)) ∧ Below w.heap.size w w' := by
  refine (read_any tab A cap L four internal w h hsz (fun x hx b wr i f hr => tab_takes _ b wr i f hr)).mono ?_
  rintro e w' ⟨⟨a, he, ho, hc⟩, hb⟩
  exact ⟨⟨a, he, ho, hc⟩, hb⟩
theorem check_ok (a : Atr) (w : World) (h : AtrOk w a) (hc : atOk a.c = true) : Calls Tryz.prog 26 #[.agg a.ar] w fun e w' => e = .returned (.int .i64 0) ∧ Below w.heap.size w w' := by
  have h2 := check_any a w h
  rw [hc] at h2
  exact h2
theorem same_yes (a b : Atr) (w : World) (h1 : AtrOk w a) (h2 : AtrOk w b) (hc : a.c = b.c) : Calls Tryz.prog 23 #[.agg a.ar, .agg b.ar] w fun e w' => e = .returned (.bool true) ∧ Below w.heap.size w w' := by
  have h := same_any a b w h1 h2
  rw [decide_eq_true hc] at h
  exact h
theorem wpList_load_attrs_g {ops : Array Oper} {rest : List Oper} {op : Oper} {a : Act} {w : World} {Q : Exit → Act → World → Prop} (hw : Region.wanted op (yielded ops a.tmps) = true) (src : Operand) (ho : op.op = .load 40 src) (b : Nat) (hx : a.eval src = .pointer (some ⟨b, 0, none⟩)) (p : Atr) (hc : CellsAt w b p.ar 40)
    (h : wpList Tryz.prog ops Q rest (a.put op.dst p.v) w) : wpList Tryz.prog ops Q (op :: rest) a w := by
  obtain ⟨fs, hu⟩ := attrs_under
  refine wpList_step fun K hK => ?_
  rw [if_pos hw]
  exact wp_load_mid 40 src ho b 0 hx p.ar.toList _ hc.range hu rfl (by rw [attrs_size]; rfl) (hK _ _ h)
theorem noAtr_ok (w : World) : AtrOk w noAtr := (noAtr_own w 0).ok
end Go.Proofs.YtkcojblflebomaaGreat
set_option linter.unusedVariables false
set_option linter.unusedSimpArgs false
namespace Go.Proofs.YtkcojblflebomaaGreat
open Go.RowKit Go.MapKept Go.Shelf
open Go.ChangeShapes Go.WideShapes Go.ChangeAt
open Go.Lib hiding intOf

theorem infoBool : (Tryz.prog.info? 4).map (fun i => (i.zero, i.size, i.bytes)) = some (some (.bool false), 1, 1) := by kernel_rfl
theorem mk_met (u : World) : (Instr.makeSlice 53 (.int .i64 256) (.int .i64 256)).run Tryz.prog u = .ok (.slice (some ⟨u.heap.size, 0, none⟩) 256 256) (u.alloc (.cells (metA []) 4)) := by
  obtain ⟨i0, hi, hz0, hz1, hz2⟩ := info_parts infoBool
  have h := run_make (P := Tryz.prog) u 53 4 i0 (.bool false) Tryz.underlying53 hi hz0 .i64 .i64 256 256 (by omega) (by omega) (by rw [hz2]; omega) (by omega)
  have e : madeCells (Value.cells (.bool false)) ((256 : Int).toNat * i0.size) = metA [] := by
    rw [hz1]
    kernel_rfl
  rw [e] at h
  exact h
/-- a list of raw attributes that grows -/
def RawL (w : World) (base : Nat) (v : Value) (O : List Rw) : Prop := OwnL w base 32 3 Rw.cs v O
theorem raw_ok {w : World} {base : Nat} {A : Option Addr} {c : Nat} {O : List Rw} (h : RawL w base (.slice A O.length c) O) (hf : ∀ r ∈ O, r.v.size ≤ 140737488351232) : RwsOk w A c O := by
  obtain ⟨A2, c2, hv, hok⟩ := OwnL.raws h (fun r hr => by have := hf r hr; omega)
  injection hv with e1 e2 e3
  subst e1
  subst e3
  exact hok
theorem infoRaw3 : (Tryz.prog.info? 32).map (fun i => (i.zero, i.size, i.bytes)) = some (some (.agg #[.int .u8 0, .int .u8 0, .string ⟨#[]⟩]), 3, 24) := by kernel_rfl
/-- one more raw attribute -/
theorem wpList_raw_one {ops : Array Oper} {rest : List Oper} {op : Oper} {a : Act} {Q : Exit → Act → World → Prop} {W : World} (hgd : op.guard = none) (s p : Operand) (ho : op.op = .call { callee := .builtin .append, args := #[s, p], argTypes := #[22, 22] })
    (base : Nat) (A : Option Addr) (n c : Nat) (O : List Rw) (hn : n = O.length) (hs : a.eval s = .slice A n c) (hown : RawL W base (.slice A n c) O) (x : Rw) (g : Nat) (hp : a.eval p = .slice (some ⟨g, 0, none⟩) 1 1) (hg : CellsAt W g #[.int .u8 x.f.toNat, .int .u8 x.t.toNat, .string x.v] 32) (hb : base ≤ W.heap.size) (hl : O.length ≤ 100000)
    (h : ∀ A' c' w', Hid (RawL w' base (.slice A' (n + 1) c') (O ++ [x])) → Hid (W.grownBy w' (Value.slice A n c).ownBlock) → wpList Tryz.prog ops Q rest (a.put op.dst (.slice A' (n + 1) c')) w') : wpList Tryz.prog ops Q (op :: rest) a W := by
  obtain ⟨i0, hi, hz0, hz1, hz2⟩ := info_parts infoRaw3
  subst hn
  have hS := Src.block (P := Tryz.prog) (t2 := 22) (size := 3) (m := 1) (c := 1) Tryz.underlying22 hg rfl (by simp [Value.oneCell'])
  refine wpList_append_m hgd s p 22 22 ho base 32 i0 _ 3 24 Tryz.underlying22 hi hz0 hz1 hz2 rfl (by decide) (.slice A O.length c) O.length (O.flatMap Rw.cs) hs hown _ 1 _ hp hS (by unfold maxLen; omega) (by omega) hb ?_
  intro v' w5 hown5 hgr hat
  obtain ⟨A6, c6, rfl⟩ := hown5.form
  have h2 : OwnL w5 base 32 3 Rw.cs (.slice A6 (O.length + 1) c6) (O ++ [x]) := OwnL.snoc hown5
  exact h A6 c6 w5 h2 hgr
/-- some more raw attributes -/
theorem wpList_raw_more {ops : Array Oper} {rest : List Oper} {op : Oper} {a : Act} {Q : Exit → Act → World → Prop} {W : World} (hgd : op.guard = none) (s p : Operand) (ho : op.op = .call { callee := .builtin .append, args := #[s, p], argTypes := #[22, 22] })
    (base : Nat) (A : Option Addr) (n c : Nat) (O : List Rw) (hn : n = O.length) (hs : a.eval s = .slice A n c) (hown : RawL W base (.slice A n c) O) (X : List Rw) (B : Option Addr) (m d : Nat) (hm : m = X.length) (hp : a.eval p = .slice B m d) (hr : RwsOk W B d X) (hb : base ≤ W.heap.size) (hl : O.length + X.length ≤ 100000)
    (h : ∀ A' c' w', Hid (RawL w' base (.slice A' (n + m) c') (O ++ X)) → Hid (W.grownBy w' (Value.slice A n c).ownBlock) → wpList Tryz.prog ops Q rest (a.put op.dst (.slice A' (n + m) c')) w') : wpList Tryz.prog ops Q (op :: rest) a W := by
  obtain ⟨i0, hi, hz0, hz1, hz2⟩ := info_parts infoRaw3
  subst hn
  subst hm
  have hS := Rd.src (P := Tryz.prog) (t := 22) Tryz.underlying22 (by decide) Rw.cs_len Rw.ones (c := d) hr.rd
  refine wpList_append_m hgd s p 22 22 ho base 32 i0 _ 3 24 Tryz.underlying22 hi hz0 hz1 hz2 rfl (by decide) (.slice A O.length c) O.length (O.flatMap Rw.cs) hs hown _ X.length _ hp hS (by unfold maxLen; omega) (by omega) hb ?_
  intro v' w5 hown5 hgr hat
  obtain ⟨A6, c6, rfl⟩ := hown5.form
  have h2 : OwnL w5 base 32 3 Rw.cs (.slice A6 (O.length + X.length) c6) (O ++ X) := by
    show OwnM _ _ _ _ _ _ _
    rw [List.length_append, List.flatMap_append]
    exact hown5
  exact h A6 c6 w5 h2 hgr
theorem RwsOk.cut {w : World} {A : Option Addr} {c N : Nat} {L : List Rw} (h : RwsOk w A c L) (hN : N ≤ L.length) : RwsOk w A c (L.take N) := by
  refine ⟨fun hl => ?_, by rw [List.length_take]; have := h.len; omega, h.cap, fun r hr => h.fits r (List.mem_of_mem_take hr)⟩
  rw [List.length_map, List.length_take] at hl
  obtain ⟨b, off, hA, hb, hc⟩ := h.rd (by rw [List.length_map]; omega)
  refine ⟨b, off, hA, hb, fun i cs hi j u hu => hc i cs ?_ j u hu⟩
  rw [List.getElem?_map] at hi ⊢
  by_cases hin : i < N
  · rwa [List.getElem?_take_of_lt hin] at hi
  · rw [List.getElem?_take_eq_none (by omega)] at hi
    cases hi
theorem rw_here {w : World} {b off : Nat} {L : List Rw} {i : Nat} {x : Rw} (h : Rd w (some ⟨b, off, none⟩) 3 (L.map Rw.cs)) (hi : L[i]? = some x) : w.cell? ⟨b, off + i * 3, none⟩ = some (.int .u8 x.f.toNat) ∧ w.cell? ⟨b, off + i * 3 + 1, none⟩ = some (.int .u8 x.t.toNat) ∧ w.cell? ⟨b, off + i * 3 + 2, none⟩ = some (.string x.v) := by
  obtain ⟨b2, o2, hA, _, p0, p1, p2⟩ := rw_at h hi
  simp only [Option.some.injEq, Addr.mk.injEq, and_true] at hA
  obtain ⟨rfl, rfl⟩ := hA
  exact ⟨p0, p1, p2⟩
theorem twN_len (L : List Rw) (h : L.length ≤ 40) : ∀ k, (twN L k).length ≤ 41 * k
  | 0 => by simp [twN]
  | k + 1 => by
    have ih := twN_len L h k
    unfold twN
    rw [List.length_append, List.length_append]
    have h1 : ((L.drop k).take 1).length ≤ 1 := List.length_take_le _ _
    have h2 : (L.take (k + 1)).length ≤ 40 := by rw [List.length_take]; omega
    omega
theorem take_one {L : List Rw} {k : Nat} {x : Rw} (h : L[k]? = some x) : (L.drop k).take 1 = [x] := by
  obtain ⟨hk, e⟩ := List.getElem?_eq_some_iff.1 h
  rw [List.drop_eq_getElem_cons hk, e]
  rfl
theorem rev_step {L : List Rw} {k : Nat} {x : Rw} (h : L[k]? = some x) : (L.drop (k + 1)).reverse ++ [x] = (L.drop k).reverse := by
  obtain ⟨hk, e⟩ := List.getElem?_eq_some_iff.1 h
  rw [List.drop_eq_getElem_cons hk, List.reverse_cons, e]
set_option maxRecDepth 100000 in
set_option maxHeartbeats 16000000 in
theorem turned_walk (A : Option Addr) (l : List Rw) (cap : Nat) (four internal : Bool) (w : World) (h : RwsOk w A cap l) (hsz : ∀ r ∈ l, r.v.size ≤ 140737488351232) :
    Calls Tryz.prog 9 #[.slice A l.length cap, .bool four, .bool internal] w fun e w' => e = .returned (.bool true) ∧ Below w.heap.size w w' := by
  have hcl := h.len
  have hcp := h.cap
  have HL := Lib.hid h
  have HSZ := Lib.hid hsz
  have HWK := Lib.hid works_any
  have hmk := mk_met
  obtain ⟨n, hn⟩ : ∃ n, n = l.length := ⟨_, rfl⟩
  rw [← hn] at hcl ⊢
  have HN := Lib.hid hn
  clear h hsz hn
  go_enter Tryz.func9, Tryz.ntmps9
  go_wp2_with fail
  refine (HWK.out _).mono ?_
  rintro e w1 ⟨rfl, hb1⟩
  have HB1 := Lib.hid hb1
  have HLB := Lib.hid (HL.out.below hb1 (Nat.le_refl _))
  clear hb1
  have HM0 : Hid (CellsAt (w1.alloc (.cells (metA []) 4)) w1.heap.size (metA []) 4) := CellsAt.new _ _ _
  have HBM : Hid (Below w.heap.size w (w1.alloc (.cells (metA []) 4))) := HB1.out.alloc HB1.out.size _
  have hs0 : w1.heap.size + 1 ≤ (w1.alloc (.cells (metA []) 4)).heap.size := by simp
  go_upto_block 0 with fail
  go_cut [11, 8] (fun i ov wx => ∃ (O : List Rw) (B : Option Addr) (m c : Nat), i = i ∧ ov = .slice B m c ∧ Hid (m = O.length) ∧ m ≤ 40 ∧ Hid (RwsOk wx B c O) ∧ Hid (Unlike O) ∧ Hid (∀ x ∈ O, x.v.size ≤ 140737488351232) ∧ Hid (Below w.heap.size w wx))
  case first =>
    go_wp2_with fail
    go_loopw [11, 8] (fun i ov wr => ∃ (k : Nat) (O : List Rw) (M : List UInt8) (B : Option Addr) (m c : Nat), i = .int .i64 k ∧ ov = .slice B m c ∧ k ≤ n ∧ k ≤ 40 ∧ Hid (m = O.length) ∧ m ≤ k ∧ Hid (RawL wr (w1.heap.size + 1) (.slice B m c) O) ∧ Hid (CellsAt wr w1.heap.size (metA M) 4) ∧ Hid (Unlike O) ∧ Hid (∀ x ∈ O, M.contains x.t = true) ∧ Hid (∀ x ∈ O, x.v.size ≤ 140737488351232) ∧ Hid (Below w.heap.size w wr) ∧ w1.heap.size + 1 ≤ wr.heap.size) (fun i _ _ => n + 1 - (intOf i).toNat)
    case atStart => exact ⟨0, [], [], none, 0, 0, rfl, rfl, by omega, by omega, rfl, by omega, OwnL.nil _ _ _ _ _, HM0.out, trivial, (fun x hx => by cases hx), (fun x hx => by cases hx), HBM.out, hs0⟩
    case round =>
      clear HM0 HBM hs0 HLB
      obtain ⟨k, O, M, B, m, c, rfl, rfl, hk, hk40, HM, hmk2, HO, HC, HU, HIN, HF, HB, hws⟩ := hrel
      by_cases hlt : k < n
      · by_cases hl40 : k < 40
        · obtain ⟨x, hx⟩ : ∃ x, l[k]? = some x := ⟨l[k]'(by rw [← HN.out]; exact hlt), List.getElem?_eq_getElem _⟩
          have hxs := HSZ.out x (List.mem_of_getElem? hx)
          obtain ⟨b0, o0, rfl, hb0, p0, p1, p2⟩ := rw_at (HL.out.below HB.out (Nat.le_refl _)).rd hx
          have hx256 : x.t.toNat < 256 := x.t.toNat_lt
          have hc1 := (HC.out.c x.t.toNat).trans (metA_at M x.t)
          have hc2 := HC.out.unfrozen x.t.toNat
          have hX256 : (x.t.toNat : Int) < 256 := by omega
          have HX := Lib.hid hx
          clear hx
          by_cases hM : M.contains x.t = true
          · rw [hM] at hc1
            go_wp2_with fail
            exact ⟨⟨k + 1, O, M, B, m, c, by go_num, rfl, by omega, by omega, HM.out, by omega, HO.out, HC.out, HU.out, HIN.out, HF.out, HB.out, hws⟩, by simp [intOf]; omega⟩
          · rw [Bool.not_eq_true] at hM
            rw [hM] at hc1
            by_cases h14 : x.t.toNat = 14
            · have z14 : ((x.t.toNat : Int) == 14) = true := beq_iff_eq.2 (by omega)
              clear h14
              go_wp2_with fail
              exact ⟨⟨k + 1, O, M, B, m, c, by go_num, rfl, by omega, by omega, HM.out, by omega, HO.out, HC.out, HU.out, HIN.out, HF.out, HB.out, hws⟩, by simp [intOf]; omega⟩
            · have z14 : ((x.t.toNat : Int) == 14) = false := beq_eq_false_iff_ne.2 (by omega)
              by_cases h15 : x.t.toNat = 15
              · have z15 : ((x.t.toNat : Int) == 15) = true := beq_iff_eq.2 (by omega)
                clear h15 h14
                go_wp2_with fail
                exact ⟨⟨k + 1, O, M, B, m, c, by go_num, rfl, by omega, by omega, HM.out, by omega, HO.out, HC.out, HU.out, HIN.out, HF.out, HB.out, hws⟩, by simp [intOf]; omega⟩
              · have z15 : ((x.t.toNat : Int) == 15) = false := beq_eq_false_iff_ne.2 (by omega)
                have HNT : Hid (¬ (x.t.toNat = 14 ∨ x.t.toNat = 15)) := by show ¬ _; omega
                have HMF := Lib.hid hM
                obtain ⟨V, hV⟩ : ∃ V, V = wr.setCell ⟨w1.heap.size, x.t.toNat, none⟩ (.bool true) := ⟨_, rfl⟩
                have hgs : wr.grownBy V (some w1.heap.size) := by rw [hV]; exact grown_setCell wr ⟨w1.heap.size, x.t.toNat, none⟩ (.bool true)
                have HCV : Hid (CellsAt V w1.heap.size (metA (x.t :: M)) 4) := by
                  have h2 := HC.out.setAt x.t.toNat (.bool true)
                  rw [metA_set, ← hV] at h2
                  exact h2
                have HOV : Hid (RawL V (w1.heap.size + 1) (.slice B m c) O) := OwnL.off HO.out hgs HC.out (by decide)
                have HBV : Hid (Below w.heap.size w V) := HB.out.grown hgs HB.out.size (fun q hq => by cases hq; exact HB1.out.size)
                have hwsV : w1.heap.size + 1 ≤ V.heap.size := Nat.le_trans hws hgs.size
                have HVX := Lib.hid hV
                obtain ⟨r0, r1, r2⟩ := rw_here (HL.out.below HBV.out (Nat.le_refl _)).rd HX.out
                clear h14 h15 hM HC HO HB hgs hws
                go_upto_region 10 with fail
                rw [← HVX.out]
                clear HVX hV p0 p1 p2 hc1 hc2
                have HBK : Hid (CellsAt (V.alloc (.cells #[.int .u8 x.f.toNat, .int .u8 x.t.toNat, .string x.v] 32)) V.heap.size #[.int .u8 x.f.toNat, .int .u8 x.t.toNat, .string x.v] 32) := CellsAt.new _ _ _
                have HCW : Hid (CellsAt (V.alloc (.cells #[.int .u8 x.f.toNat, .int .u8 x.t.toNat, .string x.v] 32)) w1.heap.size (metA (x.t :: M)) 4) := HCV.out.alloc _
                have HOW : Hid (RawL (V.alloc (.cells #[.int .u8 x.f.toNat, .int .u8 x.t.toNat, .string x.v] 32)) (w1.heap.size + 1) (.slice B m c) O) := HOV.out.alloc _
                have HBW : Hid (Below w.heap.size w (V.alloc (.cells #[.int .u8 x.f.toNat, .int .u8 x.t.toNat, .string x.v] 32))) := HBV.out.alloc HBV.out.size _
                have hwsW : w1.heap.size + 1 ≤ (V.alloc (.cells #[.int .u8 x.f.toNat, .int .u8 x.t.toNat, .string x.v] 32)).heap.size := by simp; omega
                have hVs : (V.alloc (.cells #[.int .u8 x.f.toNat, .int .u8 x.t.toNat, .string x.v] 32)).heap.size = V.heap.size + 1 := by simp
                have HVS := Lib.hid hVs
                clear hVs HCV HOV HBV
                go_wp2_with (with_reducible show wpList _ _ _ (⟨some 70, _, _, _, _, _⟩ :: _) _ _; refine wpList_raw_one rfl (.tmp 64) (.tmp 69) rfl (w1.heap.size + 1) B m c O HM.out rfl HOW.out x V.heap.size rfl HBK.out hwsW (by rw [← HM.out]; omega) ?_)
                intro B5 c5 w5 HO5 HG5
                have hob : ∀ q, (Value.slice B m c).ownBlock = some q → w1.heap.size + 1 ≤ q ∧ q < (V.alloc (.cells #[.int .u8 x.f.toNat, .int .u8 x.t.toNat, .string x.v] 32)).heap.size := fun q hq => OwnM.lt HOW.out q hq
                have HC5 : Hid (CellsAt w5 w1.heap.size (metA (x.t :: M)) 4) := HCW.out.own HG5.out (fun e => by have := hob _ e.symm; omega)
                have HB5 : Hid (Below w.heap.size w w5) := HBW.out.grown HG5.out HBW.out.size (fun q hq => by have := hob _ hq; have := HB1.out.size; omega)
                have hws5 : w1.heap.size + 1 ≤ w5.heap.size := Nat.le_trans hwsW HG5.out.size
                have HMM : Hid (m + 1 = (O ++ [x]).length) := by show _ = _; rw [List.length_append, ← HM.out]; rfl
                have HU5 : Hid (Unlike (O ++ [x])) := unlike_snoc HU.out HNT.out (fun y hy e => by
                  have h1 := HIN.out y hy
                  rw [← e, HMF.out] at h1
                  cases h1)
                have HI5 : Hid (∀ y ∈ O ++ [x], (x.t :: M).contains y.t = true) := fun y hy => by
                  rw [List.contains_cons, Bool.or_eq_true, beq_iff_eq]
                  rcases List.mem_append.1 hy with hy | hy
                  · exact .inr (HIN.out y hy)
                  · rw [List.mem_singleton.1 hy]; exact .inl rfl
                have HF5 : Hid (∀ y ∈ O ++ [x], y.v.size ≤ 140737488351232) := fun y hy => by
                  rcases List.mem_append.1 hy with hy | hy
                  · exact HF.out y hy
                  · rw [List.mem_singleton.1 hy]; exact hxs
                clear hob HG5 HCW HOW HBW HBK r0 r1 r2
                go_wp2_with fail
                exact ⟨⟨k + 1, O ++ [x], x.t :: M, B5, m + 1, c5, by go_num, rfl, by omega, by omega, HMM.out, by omega, HO5.out, HC5.out, HU5.out, HI5.out, HF5.out, HB5.out, hws5⟩, by simp [intOf]; omega⟩
        · have HOK : Hid (RwsOk wr B c O) := by
            have h := HO.out
            rw [HM.out] at h
            exact raw_ok h HF.out
          go_wp2_with fail
          go_meet
          exact ⟨O, B, m, c, trivial, rfl, HM.out, by omega, HOK.out, HU.out, HF.out, HB.out⟩
      · have HOK : Hid (RwsOk wr B c O) := by
          have h := HO.out
          rw [HM.out] at h
          exact raw_ok h HF.out
        go_wp2_with fail
        go_meet
        exact ⟨O, B, m, c, trivial, rfl, HM.out, by omega, HOK.out, HU.out, HF.out, HB.out⟩
  case rest =>
  obtain ⟨O, B, m, c, _, rfl, HM, hm40, HOK, HU, HF, HB⟩ := hcut
  clear HM0 HBM hs0 HLB HB1 HL HSZ HN hmk
  obtain ⟨wa, hwa⟩ : ∃ x, x = wc := ⟨_, rfl⟩
  subst hwa
  have hmc : m ≤ c := by rw [HM.out]; exact HOK.out.len
  have hcx : c ≤ 9223372036854775807 := HOK.out.cap
  obtain ⟨z, hz⟩ : ∃ z, z = (m : Int) - 1 := ⟨_, rfl⟩
  have hz1 : IntKind.i64.wrap ((m : Int) - 1) = z := by rw [hz]; exact IntWalk.i64_in _ (by omega)
  have HZ := Lib.hid hz
  clear hz
  go_upto_block 2 with fail
  go_cut [12, 9] (fun i ov wx => ∃ (B2 : Option Addr) (m2 c2 : Nat), i = i ∧ ov = .slice B2 m2 c2 ∧ Hid (m2 = O.reverse.length) ∧ Hid (RwsOk wx B2 c2 O.reverse) ∧ Hid (Below wa.heap.size wa wx))
  case first =>
    go_wp2_with fail
    go_loopw [12, 9] (fun i ov wr => ∃ (y : Int) (B2 : Option Addr) (m2 c2 : Nat), i = .int .i64 y ∧ ov = .slice B2 m2 c2 ∧ -1 ≤ y ∧ y < m ∧ Hid (m2 = (O.drop (y + 1).toNat).reverse.length) ∧ Hid (RawL wr wa.heap.size (.slice B2 m2 c2) (O.drop (y + 1).toNat).reverse) ∧ Hid (Below wa.heap.size wa wr)) (fun i _ _ => (intOf i + 1).toNat)
    case atStart =>
      have hd : O.drop (z + 1).toNat = [] := List.drop_eq_nil_of_le (by have := HZ.out; have := HM.out; omega)
      exact ⟨z, none, 0, 0, rfl, rfl, by have := HZ.out; omega, by have := HZ.out; omega, by rw [hd]; rfl, by rw [hd]; exact OwnL.nil _ _ _ _ _, Below.refl _ _⟩
    case round =>
      obtain ⟨y, B2, m2, c2, rfl, rfl, hy0, hy1, HM2, HR2, HB2⟩ := hrel
      by_cases hlt : 0 ≤ y
      · obtain ⟨k, rfl⟩ : ∃ k : Nat, y = k := ⟨y.toNat, by omega⟩
        obtain ⟨x, hx⟩ : ∃ x, O[k]? = some x := ⟨O[k]'(by have := HM.out; omega), List.getElem?_eq_getElem _⟩
        obtain ⟨b0, o0, rfl, hb0, p0, p1, p2⟩ := rw_at (HOK.out.below HB2.out (Nat.le_refl _)).rd hx
        have HSTEP : Hid ((O.drop ((k : Int) + 1).toNat).reverse ++ [x] = (O.drop (((k : Int) - 1) + 1).toNat).reverse) := by
          show _ = _
          rw [show ((k : Int) + 1).toNat = k + 1 by omega, show (((k : Int) - 1) + 1).toNat = k by omega]
          exact rev_step hx
        have HLEN : Hid ((O.drop ((k : Int) + 1).toNat).reverse.length ≤ 40) := by show _ ≤ _; rw [List.length_reverse, List.length_drop, ← HM.out]; omega
        obtain ⟨y', hy'⟩ : ∃ y', y' = (k : Int) - 1 := ⟨_, rfl⟩
        have hw1 : IntKind.i64.wrap ((k : Int) - 1) = y' := by rw [hy']; exact IntWalk.i64_in _ (by omega)
        rw [← hy'] at HSTEP
        have hkm : k < m := by omega
        have HY := Lib.hid hy'
        have HBK : Hid (CellsAt (wr.alloc (.cells #[.int .u8 x.f.toNat, .int .u8 x.t.toNat, .string x.v] 32)) wr.heap.size #[.int .u8 x.f.toNat, .int .u8 x.t.toNat, .string x.v] 32) := CellsAt.new _ _ _
        have HRW : Hid (RawL (wr.alloc (.cells #[.int .u8 x.f.toNat, .int .u8 x.t.toNat, .string x.v] 32)) wa.heap.size (.slice B2 m2 c2) (O.drop ((k : Int) + 1).toNat).reverse) := HR2.out.alloc _
        have HBW : Hid (Below wa.heap.size wa (wr.alloc (.cells #[.int .u8 x.f.toNat, .int .u8 x.t.toNat, .string x.v] 32))) := HB2.out.alloc HB2.out.size _
        have hsW : wa.heap.size ≤ (wr.alloc (.cells #[.int .u8 x.f.toNat, .int .u8 x.t.toNat, .string x.v] 32)).heap.size := HBW.out.size
        clear hx hy' hy0 hy1 hlt HR2
        generalize (O.drop ((k : Int) + 1).toNat).reverse = R at HM2 HRW HSTEP HLEN
        go_wp2_with (with_reducible show wpList _ _ _ (⟨some 84, _, _, _, _, _⟩ :: _) _ _; refine wpList_raw_one rfl (.tmp 78) (.tmp 83) rfl wa.heap.size B2 m2 c2 R HM2.out rfl HRW.out x wr.heap.size rfl HBK.out hsW (by have := HLEN.out; omega) ?_)
        intro B5 c5 w5 HO5 HG5
        have hob : ∀ q, (Value.slice B2 m2 c2).ownBlock = some q → wa.heap.size ≤ q ∧ q < (wr.alloc (.cells #[.int .u8 x.f.toNat, .int .u8 x.t.toNat, .string x.v] 32)).heap.size := fun q hq => OwnM.lt HRW.out q hq
        have HB5 : Hid (Below wa.heap.size wa w5) := HBW.out.grown HG5.out HBW.out.size (fun q hq => (hob q hq).1)
        have HO6 : Hid (m2 + 1 = (O.drop (y' + 1).toNat).reverse.length ∧ RawL w5 wa.heap.size (.slice B5 (m2 + 1) c5) (O.drop (y' + 1).toNat).reverse) := ⟨by rw [← HSTEP.out, List.length_append, ← HM2.out]; rfl, by rw [← HSTEP.out]; exact HO5.out⟩
        clear hob HG5 HBW HRW HBK HO5 p0 p1 p2
        go_wp2_with fail
        exact ⟨⟨y', B5, m2 + 1, c5, rfl, rfl, by have := HY.out; omega, by have := HY.out; omega, HO6.out.1, HO6.out.2, HB5.out⟩, by have := HY.out; simp [intOf]; omega⟩
      · obtain rfl : y = -1 := by omega
        have HE : Hid (m2 = O.reverse.length ∧ RwsOk wr B2 c2 O.reverse) := by
          have h1 := HM2.out
          have h2 := HR2.out
          rw [show ((-1 : Int) + 1).toNat = 0 by rfl, List.drop_zero] at h1 h2
          refine ⟨h1, ?_⟩
          rw [h1] at h2
          exact raw_ok h2 (fun r hr => HF.out r (List.mem_reverse.1 hr))
        go_wp2_with fail
        go_meet
        exact ⟨B2, m2, c2, trivial, rfl, HE.out.1, HE.out.2, HB2.out⟩
  case rest =>
  obtain ⟨B2, m2, c2, _, rfl, HM2, HOK2, HB2⟩ := hcut
  have HOKA := Lib.hid (HOK.out.below HB2.out (Nat.le_refl _))
  have HBA := Lib.hid (HB.out.trans (HB2.out.mono HB.out.size))
  obtain ⟨wb, hwb⟩ : ∃ x, x = wc := ⟨_, rfl⟩
  subst hwb
  clear hz1 HZ HB2 HB HOK
  go_upto_block 4 with fail
  go_cut [13, 10] (fun i ov wx => ∃ (B3 : Option Addr) (m3 c3 : Nat), i = i ∧ ov = .slice B3 m3 c3 ∧ Hid (m3 = (twN O m).length) ∧ Hid (RwsOk wx B3 c3 (twN O m)) ∧ Hid (Below wb.heap.size wb wx))
  case first =>
    go_wp2_with fail
    go_loopw [13, 10] (fun i ov wr => ∃ (k : Nat) (B3 : Option Addr) (m3 c3 : Nat), i = .int .i64 k ∧ ov = .slice B3 m3 c3 ∧ k ≤ m ∧ Hid (m3 = (twN O k).length) ∧ Hid (RawL wr wb.heap.size (.slice B3 m3 c3) (twN O k)) ∧ Hid (Below wb.heap.size wb wr)) (fun i _ _ => m + 1 - (intOf i).toNat)
    case atStart => exact ⟨0, none, 0, 0, rfl, rfl, by omega, rfl, OwnL.nil _ _ _ _ _, Below.refl _ _⟩
    case round =>
      obtain ⟨k, B3, m3, c3, rfl, rfl, hk, HM3, HR3, HB3⟩ := hrel
      have HLEN : Hid (m3 ≤ 41 * k) := by show _ ≤ _; rw [HM3.out]; exact twN_len O (by rw [← HM.out]; exact hm40) k
      by_cases hlt : k < m
      · obtain ⟨x, hx⟩ : ∃ x, O[k]? = some x := ⟨O[k]'(by have := HM.out; omega), List.getElem?_eq_getElem _⟩
        obtain ⟨b0, o0, rfl, hb0, p0, p1, p2⟩ := rw_at (HOKA.out.below HB3.out (Nat.le_refl _)).rd hx
        have HSTEP : Hid ((twN O k ++ [x]) ++ O.take (k + 1) = twN O (k + 1)) := by
          show _ = twN O k ++ ((O.drop k).take 1 ++ O.take (k + 1))
          rw [take_one hx, List.append_assoc]
        have HTL : Hid (k + 1 = (O.take (k + 1)).length) := by show _ = _; rw [List.length_take, ← HM.out]; omega
        have HBK : Hid (CellsAt (wr.alloc (.cells #[.int .u8 x.f.toNat, .int .u8 x.t.toNat, .string x.v] 32)) wr.heap.size #[.int .u8 x.f.toNat, .int .u8 x.t.toNat, .string x.v] 32) := CellsAt.new _ _ _
        have HRW : Hid (RawL (wr.alloc (.cells #[.int .u8 x.f.toNat, .int .u8 x.t.toNat, .string x.v] 32)) wb.heap.size (.slice B3 m3 c3) (twN O k)) := HR3.out.alloc _
        have HBW : Hid (Below wb.heap.size wb (wr.alloc (.cells #[.int .u8 x.f.toNat, .int .u8 x.t.toNat, .string x.v] 32))) := HB3.out.alloc HB3.out.size _
        have hsW : wb.heap.size ≤ (wr.alloc (.cells #[.int .u8 x.f.toNat, .int .u8 x.t.toNat, .string x.v] 32)).heap.size := HBW.out.size
        have hkc : (k : Int) + 1 ≤ (c : Int) := by omega
        clear hx HR3
        go_wp2_with (with_reducible show wpList _ _ _ (⟨some 97, _, _, _, _, _⟩ :: _) _ _; refine wpList_raw_one rfl (.tmp 91) (.tmp 96) rfl wb.heap.size B3 m3 c3 (twN O k) HM3.out rfl HRW.out x wr.heap.size rfl HBK.out hsW (by rw [← HM3.out]; have := HLEN.out; omega) ?_)
        intro B5 c5 w5 HO5 HG5
        have hob : ∀ q, (Value.slice B3 m3 c3).ownBlock = some q → wb.heap.size ≤ q ∧ q < (wr.alloc (.cells #[.int .u8 x.f.toNat, .int .u8 x.t.toNat, .string x.v] 32)).heap.size := fun q hq => OwnM.lt HRW.out q hq
        have HB5 : Hid (Below wb.heap.size wb w5) := HBW.out.grown HG5.out HBW.out.size (fun q hq => (hob q hq).1)
        have HMM : Hid (m3 + 1 = (twN O k ++ [x]).length) := by show _ = _; rw [List.length_append, ← HM3.out]; rfl
        have HTK : Hid (RwsOk w5 (some ⟨b0, o0, none⟩) c (O.take (k + 1))) := (HOKA.out.below HB5.out (Nat.le_refl _)).cut (by rw [← HM.out]; omega)
        have hsW5 : wb.heap.size ≤ w5.heap.size := HB5.out.size
        clear hob HG5 HBW HRW HBK p0 p1 p2 HM3 hsW
        go_wp2_with (with_reducible show wpList _ _ _ (⟨some 103, _, _, _, _, _⟩ :: _) _ _; refine wpList_raw_more rfl (.tmp 98) (.tmp 102) rfl wb.heap.size B5 (m3 + 1) c5 (twN O k ++ [x]) HMM.out rfl HO5.out (O.take (k + 1)) (some ⟨b0, o0, none⟩) (k + 1) c HTL.out rfl HTK.out hsW5 (by rw [← HMM.out, ← HTL.out]; have := HLEN.out; omega) ?_)
        intro B6 c6 w6 HO6 HG6
        have hob : ∀ q, (Value.slice B5 (m3 + 1) c5).ownBlock = some q → wb.heap.size ≤ q ∧ q < w5.heap.size := fun q hq => OwnM.lt HO5.out q hq
        have HB6 : Hid (Below wb.heap.size wb w6) := HB5.out.grown HG6.out HB5.out.size (fun q hq => (hob q hq).1)
        have HO7 : Hid (m3 + 1 + (k + 1) = (twN O (k + 1)).length ∧ RawL w6 wb.heap.size (.slice B6 (m3 + 1 + (k + 1)) c6) (twN O (k + 1))) := ⟨by rw [← HSTEP.out, List.length_append, ← HMM.out, ← HTL.out], by rw [← HSTEP.out, List.append_assoc]; exact HO6.out⟩
        clear hob HG6 HO6 HO5 HB5 HTK
        go_wp2_with fail
        exact ⟨⟨k + 1, B6, m3 + 1 + (k + 1), c6, by go_num, rfl, by omega, HO7.out.1, HO7.out.2, HB6.out⟩, by simp [intOf]; omega⟩
      · obtain rfl : m = k := by omega
        have HE : Hid (RwsOk wr B3 c3 (twN O m)) := by
          have h2 := HR3.out
          rw [HM3.out] at h2
          exact raw_ok h2 (fun r hr => HF.out r (List.mem_of_mem_take ((twN_mem m).1 hr)))
        go_wp2_with fail
        go_meet
        exact ⟨B3, m3, c3, trivial, rfl, HM3.out, HE.out, HB3.out⟩
  case rest =>
  obtain ⟨B3, m3, c3, _, rfl, HM3, HOK3, HB3⟩ := hcut
  have HOK1 := Lib.hid (HOKA.out.below HB3.out (Nat.le_refl _))
  have HOKT := Lib.hid (HOK2.out.below HB3.out (Nat.le_refl _))
  have HBC := Lib.hid (HBA.out.trans (HB3.out.mono HBA.out.size))
  obtain ⟨wz, hwz⟩ : ∃ x, x = wc := ⟨_, rfl⟩
  subst hwz
  have HFT : Hid (∀ x ∈ O.reverse, x.v.size ≤ 140737488351232) := fun r hr => HF.out r (List.mem_reverse.1 hr)
  have HF3 : Hid (∀ x ∈ twN O m, x.v.size ≤ 140737488351232) := fun r hr => HF.out r (List.mem_of_mem_take ((twN_mem m).1 hr))
  have hTW := read_twice (four := four) (internal := internal) HU.out m
  rw [List.take_of_length_le (by rw [← HM.out]; exact Nat.le_refl _)] at hTW
  have hTC := turned_c (four := four) (internal := internal) HU.out
  have hTA := turned_act (four := four) (internal := internal) HU.out
  have HRE1 : Hid (∀ W, RwsOk W B c O → Calls Tryz.prog 19 #[.slice B m c, .bool four, .bool internal] W fun e w' => (∃ a : Atr, e = .returned (.tuple #[.agg a.ar, .agg #[.int .i64 (readF tab four internal [] noC ⟨0, 0, 0⟩ O).2.act, .int .u8 (readF tab four internal [] noC ⟨0, 0, 0⟩ O).2.code, .int .u8 (readF tab four internal [] noC ⟨0, 0, 0⟩ O).2.sub]]) ∧ AtrOk w' a ∧ a.c = (if 2 ≤ (readF tab four internal [] noC ⟨0, 0, 0⟩ O).2.act then noC else (readF tab four internal [] noC ⟨0, 0, 0⟩ O).1)) ∧ Below W.heap.size W w') := fun W h => by
    have h2 := read_tab B c O four internal W h HF.out
    rw [← HM.out] at h2
    refine h2.mono ?_
    rintro e w' ⟨⟨a, he, ho, hc⟩, hb⟩
    exact ⟨⟨a, he, ho.ok, hc⟩, hb⟩
  have HRE2 : Hid (∀ W, RwsOk W B2 c2 O.reverse → Calls Tryz.prog 19 #[.slice B2 m2 c2, .bool four, .bool internal] W fun e w' => (∃ (a : Atr) (p q : Nat), e = .returned (.tuple #[.agg a.ar, .agg #[.int .i64 (readF tab four internal [] noC ⟨0, 0, 0⟩ O).2.act, .int .u8 p, .int .u8 q]]) ∧ AtrOk w' a ∧ a.c = (if 2 ≤ (readF tab four internal [] noC ⟨0, 0, 0⟩ O).2.act then noC else (readF tab four internal [] noC ⟨0, 0, 0⟩ O).1)) ∧ Below W.heap.size W w') := fun W h => by
    have h2 := read_tab B2 c2 O.reverse four internal W h HFT.out
    rw [← HM2.out, hTA, hTC] at h2
    refine h2.mono ?_
    rintro e w' ⟨⟨a, he, ho, hc⟩, hb⟩
    exact ⟨⟨a, _, _, he, ho.ok, hc⟩, hb⟩
  have HRE3 : Hid (∀ W, RwsOk W B3 c3 (twN O m) → Calls Tryz.prog 19 #[.slice B3 m3 c3, .bool four, .bool internal] W fun e w' => (∃ a : Atr, e = .returned (.tuple #[.agg a.ar, .agg #[.int .i64 (readF tab four internal [] noC ⟨0, 0, 0⟩ O).2.act, .int .u8 (readF tab four internal [] noC ⟨0, 0, 0⟩ O).2.code, .int .u8 (readF tab four internal [] noC ⟨0, 0, 0⟩ O).2.sub]]) ∧ AtrOk w' a ∧ a.c = (if 2 ≤ (readF tab four internal [] noC ⟨0, 0, 0⟩ O).2.act then noC else (readF tab four internal [] noC ⟨0, 0, 0⟩ O).1)) ∧ Below W.heap.size W w') := fun W h => by
    have h2 := read_tab B3 c3 (twN O m) four internal W h HF3.out
    rw [← HM3.out, hTW] at h2
    refine h2.mono ?_
    rintro e w' ⟨⟨a, he, ho, hc⟩, hb⟩
    exact ⟨⟨a, he, ho.ok, hc⟩, hb⟩
  clear hTW hTC hTA HFT HF3 HB3 HOKA HOK2 HBA
  generalize (if 2 ≤ (readF tab four internal [] noC ⟨0, 0, 0⟩ O).2.act then noC else (readF tab four internal [] noC ⟨0, 0, 0⟩ O).1) = C at HRE1 HRE2 HRE3
  generalize (readF tab four internal [] noC ⟨0, 0, 0⟩ O).2 = v at HRE1 HRE2 HRE3
  obtain ⟨act, code, sub⟩ := v
  change Hid (∀ W, RwsOk W B c O → Calls Tryz.prog 19 #[.slice B m c, .bool four, .bool internal] W fun e w' => (∃ a : Atr, e = .returned (.tuple #[.agg a.ar, .agg #[.int .i64 act, .int .u8 code, .int .u8 sub]]) ∧ AtrOk w' a ∧ a.c = C) ∧ Below W.heap.size W w') at HRE1
  change Hid (∀ W, RwsOk W B2 c2 O.reverse → Calls Tryz.prog 19 #[.slice B2 m2 c2, .bool four, .bool internal] W fun e w' => (∃ (a : Atr) (p q : Nat), e = .returned (.tuple #[.agg a.ar, .agg #[.int .i64 act, .int .u8 p, .int .u8 q]]) ∧ AtrOk w' a ∧ a.c = C) ∧ Below W.heap.size W w') at HRE2
  change Hid (∀ W, RwsOk W B3 c3 (twN O m) → Calls Tryz.prog 19 #[.slice B3 m3 c3, .bool four, .bool internal] W fun e w' => (∃ a : Atr, e = .returned (.tuple #[.agg a.ar, .agg #[.int .i64 act, .int .u8 code, .int .u8 sub]]) ∧ AtrOk w' a ∧ a.c = C) ∧ Below W.heap.size W w') at HRE3
  have HSA := Lib.hid same_yes
  go_wp2_with fail
  refine (HRE1.out _ HOK1.out).mono ?_
  rintro e w1r ⟨⟨a1, rfl, ha1, hc1⟩, hb1⟩
  have HA1 := Lib.hid ha1
  have HC1 := Lib.hid hc1
  have HOT1 := Lib.hid (HOKT.out.below hb1 (Nat.le_refl _))
  have HOW1 := Lib.hid (HOK3.out.below hb1 (Nat.le_refl _))
  have HB1 := Lib.hid (HBC.out.trans (hb1.mono HBC.out.size))
  clear ha1 hc1 hb1 HOK1 HOKT HOK3 HBC
  go_upto_region 21 with (with_reducible show wpList _ _ _ (_ :: _) _ _; first | refine wpList_store_attrs rfl (.tmp 14) (.tmp 109) rfl w1r.heap.size rfl a1 rfl noAtr (rd_z _ _) ?_ | refine wpList_store_verdict rfl (.tmp 15) (.tmp 110) rfl (w1r.heap.size + 1) rfl ⟨act, code, sub⟩ rfl ⟨0, 0, 0⟩ (rd_y _ _ _) ?_)
  refine wp_name fun V1 hV1 => ?_
  have HBV1 : Hid (Below w1r.heap.size w1r V1) := by rw [hV1]; exact rd_b _ _ _ ⟨act, code, sub⟩
  have HCA1 : Hid (CellsAt V1 w1r.heap.size a1.ar 40) := by rw [hV1]; exact rd_a _ _ _ ⟨act, code, sub⟩
  have HCV1 : Hid (CellsAt V1 (w1r.heap.size + 1) #[.int .i64 act, .int .u8 code, .int .u8 sub] 42) := by rw [hV1]; exact rd_v _ _ _ ⟨act, code, sub⟩
  have HA1V := Lib.hid (HA1.out.below HBV1.out (Nat.le_refl _))
  have HOT2 := Lib.hid (HOT1.out.below HBV1.out (Nat.le_refl _))
  have HOW2 := Lib.hid (HOW1.out.below HBV1.out (Nat.le_refl _))
  have HB2 := Lib.hid (HB1.out.trans (HBV1.out.mono HB1.out.size))
  have hl1 := HCA1.out.lt
  have hl2 := HCV1.out.lt
  obtain ⟨g1, hg1⟩ : ∃ g, g = w1r.heap.size := ⟨_, rfl⟩
  rw [← hg1] at HCA1 HCV1 hl1 hl2 ⊢
  clear hV1 hg1 HBV1 HB1 HOW1 HOT1 HA1
  go_wp2_with fail
  refine (HRE2.out _ HOT2.out).mono ?_
  rintro e w2r ⟨⟨a2, p, q, rfl, ha2, hc2⟩, hb2⟩
  have HA2 := Lib.hid ha2
  have HC2 := Lib.hid hc2
  have HCA2 : Hid (CellsAt w2r g1 a1.ar 40) := HCA1.out.below hb2 hl1
  have HCV2 : Hid (CellsAt w2r (g1 + 1) #[.int .i64 act, .int .u8 code, .int .u8 sub] 42) := HCV1.out.below hb2 hl2
  have HA12 := Lib.hid (HA1V.out.below hb2 (Nat.le_refl _))
  have HOW3 := Lib.hid (HOW2.out.below hb2 (Nat.le_refl _))
  have HB3 := Lib.hid (HB2.out.trans (hb2.mono HB2.out.size))
  have hl3 := HCA2.out.lt
  have hl4 := HCV2.out.lt
  clear ha2 hc2 hb2 HCA1 HCV1 HA1V HOT2 HOW2 HB2 hl1 hl2
  go_upto_region 22 with (with_reducible show wpList _ _ _ (_ :: _) _ _; first | refine wpList_store_attrs rfl (.tmp 16) (.tmp 116) rfl w2r.heap.size rfl a2 rfl noAtr (rd_z _ _) ?_ | refine wpList_store_verdict rfl (.tmp 17) (.tmp 117) rfl (w2r.heap.size + 1) rfl ⟨act, p, q⟩ rfl ⟨0, 0, 0⟩ (rd_y _ _ _) ?_)
  refine wp_name fun V2 hV2 => ?_
  have HBV2 : Hid (Below w2r.heap.size w2r V2) := by rw [hV2]; exact rd_b _ _ _ ⟨act, p, q⟩
  have HDA2 : Hid (CellsAt V2 w2r.heap.size a2.ar 40) := by rw [hV2]; exact rd_a _ _ _ ⟨act, p, q⟩
  have HDV2 : Hid (CellsAt V2 (w2r.heap.size + 1) #[.int .i64 act, .int .u8 p, .int .u8 q] 42) := by rw [hV2]; exact rd_v _ _ _ ⟨act, p, q⟩
  have HCA3 : Hid (CellsAt V2 g1 a1.ar 40) := HCA2.out.below HBV2.out hl3
  have HCV3 : Hid (CellsAt V2 (g1 + 1) #[.int .i64 act, .int .u8 code, .int .u8 sub] 42) := HCV2.out.below HBV2.out hl4
  have HA13 := Lib.hid (HA12.out.below HBV2.out (Nat.le_refl _))
  have HA23 := Lib.hid (HA2.out.below HBV2.out (Nat.le_refl _))
  have HOW4 := Lib.hid (HOW3.out.below HBV2.out (Nat.le_refl _))
  have HB4 := Lib.hid (HB3.out.trans (HBV2.out.mono HB3.out.size))
  have hl5 := HCA3.out.lt
  have hl6 := HCV3.out.lt
  have hl7 := HDA2.out.lt
  have hl8 := HDV2.out.lt
  obtain ⟨g2, hg2⟩ : ∃ g, g = w2r.heap.size := ⟨_, rfl⟩
  rw [← hg2] at HDA2 HDV2 hl7 hl8 ⊢
  clear hV2 hg2 HBV2 HB3 HOW3 HA2 HA12 HCA2 HCV2 hl3 hl4
  go_wp2_with fail
  refine (HRE3.out _ HOW4.out).mono ?_
  rintro e w3r ⟨⟨a3, rfl, ha3, hc3⟩, hb3⟩
  have HA3 := Lib.hid ha3
  have HC3 := Lib.hid hc3
  have HCA4 : Hid (CellsAt w3r g1 a1.ar 40) := HCA3.out.below hb3 hl5
  have HCV4 : Hid (CellsAt w3r (g1 + 1) #[.int .i64 act, .int .u8 code, .int .u8 sub] 42) := HCV3.out.below hb3 hl6
  have HDA4 : Hid (CellsAt w3r g2 a2.ar 40) := HDA2.out.below hb3 hl7
  have HDV4 : Hid (CellsAt w3r (g2 + 1) #[.int .i64 act, .int .u8 p, .int .u8 q] 42) := HDV2.out.below hb3 hl8
  have HA14 := Lib.hid (HA13.out.below hb3 (Nat.le_refl _))
  have HA24 := Lib.hid (HA23.out.below hb3 (Nat.le_refl _))
  have HB5 := Lib.hid (HB4.out.trans (hb3.mono HB4.out.size))
  have hl1 := HCA4.out.lt
  have hl2 := HCV4.out.lt
  have hl3 := HDA4.out.lt
  have hl4 := HDV4.out.lt
  clear ha3 hc3 hb3 HCA3 HCV3 HDA2 HDV2 HA13 HA23 HB4 HOW4 hl5 hl6 hl7 hl8
  go_upto_region 23 with (with_reducible show wpList _ _ _ (_ :: _) _ _; first | refine wpList_store_attrs rfl (.tmp 18) (.tmp 123) rfl w3r.heap.size rfl a3 rfl noAtr (rd_z _ _) ?_ | refine wpList_store_verdict rfl (.tmp 19) (.tmp 124) rfl (w3r.heap.size + 1) rfl ⟨act, code, sub⟩ rfl ⟨0, 0, 0⟩ (rd_y _ _ _) ?_)
  refine wp_name fun V3 hV3 => ?_
  have HBV3 : Hid (Below w3r.heap.size w3r V3) := by rw [hV3]; exact rd_b _ _ _ ⟨act, code, sub⟩
  have HEA : Hid (CellsAt V3 w3r.heap.size a3.ar 40) := by rw [hV3]; exact rd_a _ _ _ ⟨act, code, sub⟩
  have HEV : Hid (CellsAt V3 (w3r.heap.size + 1) #[.int .i64 act, .int .u8 code, .int .u8 sub] 42) := by rw [hV3]; exact rd_v _ _ _ ⟨act, code, sub⟩
  have HCA : Hid (CellsAt V3 g1 a1.ar 40) := HCA4.out.below HBV3.out hl1
  have HCV : Hid (CellsAt V3 (g1 + 1) #[.int .i64 act, .int .u8 code, .int .u8 sub] 42) := HCV4.out.below HBV3.out hl2
  have HDA : Hid (CellsAt V3 g2 a2.ar 40) := HDA4.out.below HBV3.out hl3
  have HDV : Hid (CellsAt V3 (g2 + 1) #[.int .i64 act, .int .u8 p, .int .u8 q] 42) := HDV4.out.below HBV3.out hl4
  have HA1 := Lib.hid (HA14.out.below HBV3.out (Nat.le_refl _))
  have HA2 := Lib.hid (HA24.out.below HBV3.out (Nat.le_refl _))
  have HA3V := Lib.hid (HA3.out.below HBV3.out (Nat.le_refl _))
  have HB6 := Lib.hid (HB5.out.trans (HBV3.out.mono HB5.out.size))
  obtain ⟨g3, hg3⟩ : ∃ g, g = w3r.heap.size := ⟨_, rfl⟩
  rw [← hg3] at HEA HEV ⊢
  clear hV3 hg3 HBV3 HB5 HA3 HA14 HA24 HCA4 HCV4 HDA4 HDV4 hl1 hl2 hl3 hl4
  have hl1 := HCA.out.lt
  have hl2 := HCV.out.lt
  have hl3 := HEA.out.lt
  have hl4 := HEV.out.lt
  have hl5 := HDV.out.lt
  go_wp2_with (with_reducible show wpList _ _ _ (_ :: _) _ _; first | refine wpList_load_attrs_g (by kernel_rfl) (.tmp 14) rfl g1 rfl a1 HCA.out ?_ | refine wpList_load_attrs_g (by kernel_rfl) (.tmp 16) rfl g2 rfl a2 HDA.out ?_)
  refine (HSA.out a1 a2 _ HA1.out HA2.out (HC1.out.trans HC2.out.symm)).mono ?_
  rintro e w7 ⟨rfl, hb7⟩
  have HCA7 : Hid (CellsAt w7 g1 a1.ar 40) := HCA.out.below hb7 hl1
  have HCV7 : Hid (CellsAt w7 (g1 + 1) #[.int .i64 act, .int .u8 code, .int .u8 sub] 42) := HCV.out.below hb7 hl2
  have HEA7 : Hid (CellsAt w7 g3 a3.ar 40) := HEA.out.below hb7 hl3
  have HEV7 : Hid (CellsAt w7 (g3 + 1) #[.int .i64 act, .int .u8 code, .int .u8 sub] 42) := HEV.out.below hb7 hl4
  have HDV7 : Hid (CellsAt w7 (g2 + 1) #[.int .i64 act, .int .u8 p, .int .u8 q] 42) := HDV.out.below hb7 hl5
  have HA17 := Lib.hid (HA1.out.below hb7 (Nat.le_refl _))
  have HA37 := Lib.hid (HA3V.out.below hb7 (Nat.le_refl _))
  have HB7 := Lib.hid (HB6.out.trans (hb7.mono HB6.out.size))
  clear hb7 HCA HCV HEA HEV HDV HDA HA1 HA2 HA3V HB6 hl1 hl2 hl3 hl4 hl5
  obtain ⟨c0, c1, c2⟩ := CellsAt.c3 HCV7.out
  obtain ⟨d0, d1, d2⟩ := CellsAt.c3 HDV7.out
  have hl2 := HCV7.out.lt
  have hl4 := HEV7.out.lt
  have za : (act == act) = true := beq_iff_eq.2 rfl
  go_wp2_with (with_reducible show wpList _ _ _ (_ :: _) _ _; first | refine wpList_load_attrs_g (by kernel_rfl) (.tmp 14) rfl g1 rfl a1 HCA7.out ?_ | refine wpList_load_attrs_g (by kernel_rfl) (.tmp 18) rfl g3 rfl a3 HEA7.out ?_)
  refine (HSA.out a1 a3 _ HA17.out HA37.out (HC1.out.trans HC3.out.symm)).mono ?_
  rintro e w8 ⟨rfl, hb8⟩
  have HCV8 : Hid (CellsAt w8 (g1 + 1) #[.int .i64 act, .int .u8 code, .int .u8 sub] 42) := HCV7.out.below hb8 hl2
  have HEV8 : Hid (CellsAt w8 (g3 + 1) #[.int .i64 act, .int .u8 code, .int .u8 sub] 42) := HEV7.out.below hb8 hl4
  have HB8 := Lib.hid (HB7.out.trans (hb8.mono HB7.out.size))
  clear hb8 c0 c1 c2 d0 d1 d2 HCV7 HEV7 HEA7 HCA7 HDV7 HA17 HA37 HB7 hl2 hl4
  obtain ⟨c0, c1, c2⟩ := CellsAt.c3 HCV8.out
  obtain ⟨d0, d1, d2⟩ := CellsAt.c3 HEV8.out
  go_wp2_with fail
  go_ret
  exact ⟨rfl, HB8.out⟩
set_option maxHeartbeats 4000000 in
set_option maxRecDepth 100000 in
theorem attrTurned_lifted (os : Os) (started : os.Started) (H : Type) (enc : TypeId × Value → H) :
    ReturnsInHanded {} Tryz.checked os 9 .any (Rows.attrTurnedSpec.pre6 enc Tryz.prog Tryz.f9 Rows.attrTurnedRow.domain false) (Rows.attrTurnedSpec.post enc Tryz.prog Tryz.f9 false true false false) := by
  refine returnsInHanded_of_change_sized (C := Tryz.checked) own started (by kernel_rfl) Tryz.func9
    (ChangeSpec.witness6 (enc := enc) (C := Tryz.checked) false ⟨#[], #[.slice none 0 0, .bool false, .bool false], []⟩ 8 (by kernel_rfl) (by kernel_rfl) (by kernel_rfl) (by kernel_rfl)) ?_
  intro W base args ds gs before hval0 hW hcnd hsz _
  have hval : ∀ (j : Nat) t v, Tryz.f9.params[j]? = some t → args[j]? = some v → Value.okWide Tryz.prog W .any base t v := hval0
  have hW' := hW
  obtain ⟨p, q, hA0, hV, rfl, hfz, hnd⟩ := hW
  have hA : DataW.TrodAll enc Tryz.prog W 0 (fun _ => true) true Tryz.f9.params.toList args.toList ds p := hA0
  rw [Tryz.params9] at hA hval
  obtain ⟨v0, vs0, d0, ds0, p0, q0, hargs, rfl, rfl, h0, r0⟩ := trodAll_cons hA
  obtain ⟨v1, vs1, d1, ds1, p1, q1, rfl, rfl, rfl, h1, r1⟩ := trodAll_cons r0
  obtain ⟨v2, vs2, d2, ds2, p2, q2, rfl, rfl, rfl, h2, r2⟩ := trodAll_cons r1
  obtain ⟨rfl, rfl, rfl⟩ := trodAll_nil r2
  obtain rfl : args = #[v0, v1, v2] := by cases args; simp_all
  obtain ⟨rfl, rfl⟩ := trodVars_none hV
  obtain ⟨A0, len0, cap0, rfl⟩ := okWide_slice Tryz.underlying22 (hval 0 22 v0 rfl rfl)
  obtain ⟨fu0, hf0⟩ := h0
  obtain ⟨A, l, cap, hv0, hok, hs, hlen⟩ := open_raws (v := .slice A0 len0 cap0) (x := (d0, p0)) hf0 (light_of hsz (j := 0) rfl rfl)
  injection hv0 with ea0 eb0 ec0
  subst ea0
  subst eb0
  subst ec0
  obtain ⟨four, rfl, rfl, rfl⟩ := open_bool Tryz.underlying4 (hval 1 4 v1 rfl rfl) h1
  obtain ⟨internal, rfl, rfl, rfl⟩ := open_bool Tryz.underlying4 (hval 2 4 v2 rfl rfl) h2
  refine (turned_walk A0 l cap0 four internal W hok hs).mono fun e W' ⟨he, bel⟩ => ?_
  exact ⟨_, he, law_post laidOut (by kernel_rfl) rfl (by kernel_rfl) Tryz.underlying4 hW' rfl bel⟩

theorem attrTurned_holds : Rows.AttrTurnedSaid :=
  OpenClaim.holds_of_wide 9 Tryz.f9 rfl rfl rfl rfl rfl rfl rfl ⟨rfl, rfl, rfl, rfl, rfl⟩ rfl rfl rfl rfl rfl (by kernel_rfl) Tryz.func9 (by kernel_rfl)
    (of_decide_eq_true (by kernel_rfl)) (by unfold Func.isWrapper; first | (rw [if_pos (by decide +kernel)]; kernel_rfl) | (rw [if_neg (by decide +kernel)]; exact ⟨rfl, rfl⟩))
    (fun os started H enc _ => attrTurned_lifted os started H enc)
end Go.Proofs.YtkcojblflebomaaGreat
