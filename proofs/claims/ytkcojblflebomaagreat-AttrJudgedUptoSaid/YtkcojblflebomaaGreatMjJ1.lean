/-
  AttrJudged: for all bytes (up to the small bulk) the law answers true. Conditions: none of its own.
-/
import Derived.Test.YtkcojblflebomaaGreatAdA
import Derived.OrdersHeld
import Derived.Test.YtkcojblflebomaaGreatAcV
import Derived.Test.YtkcojblflebomaaGreatAbL
import Derived.Test.YtkcojblflebomaaGreatAcD
import Derived.Test.YtkcojblflebomaaGreatAbM
import Derived.Test.YtkcojblflebomaaGreatAbN
import Derived.Test.YtkcojblflebomaaGreatAaO
import Derived.Test.YtkcojblflebomaaGreatAcN
import Derived.Deep.MidRow
set_option linter.unusedVariables false
set_option linter.unusedSimpArgs false
namespace Go.Proofs.YtkcojblflebomaaGreat
open Go.RowKit Go.MapKept Go.Shelf
open Go.Lib hiding intOf

def LgC (w : World) (g o : Nat) (x : Lg) : Prop := w.cell? ⟨g, o, none⟩ = some (.int .u32 (x.g : Nat)) ∧ w.cell? ⟨g, o + 1, none⟩ = some (.int .u32 (x.a : Nat)) ∧ w.cell? ⟨g, o + 2, none⟩ = some (.int .u32 (x.b : Nat))
theorem own_lg {w : World} {base g n cap i : Nat} {cur : List Lg} {x : Lg} (h : OwnM w base 59 3 (.slice (some ⟨g, 0, none⟩) n cap) n (cur.flatMap Lg.cs)) (hn : 0 < n) (hx : cur[i]? = some x) : LgC w g (i * 3) x := by
  obtain ⟨g2, cap2, hv, _, _, _, _, hc, _⟩ := OwnM.cells h hn
  simp only [Value.slice.injEq, Option.some.injEq, Addr.mk.injEq] at hv
  obtain ⟨⟨rfl, _⟩, _, rfl⟩ := hv
  exact ⟨hc _ _ (flat_at Lg.cs_len cur i x 0 _ hx rfl), hc _ _ (flat_at Lg.cs_len cur i x 1 _ hx rfl), hc _ _ (flat_at Lg.cs_len cur i x 2 _ hx rfl)⟩
theorem own_there {w : World} {base g n cap : Nat} {xs : List Value} (h : OwnM w base 59 3 (.slice (some ⟨g, 0, none⟩) n cap) n xs) (hn : 0 < n) : w.there g 0 (n * 3) := by
  obtain ⟨g2, cap2, hv, _, _, _, _, ht⟩ := OwnM.there h hn
  simp only [Value.slice.injEq, Option.some.injEq, Addr.mk.injEq] at hv
  obtain ⟨⟨rfl, _⟩, _, rfl⟩ := hv
  exact ht
theorem zero_large : ∀ w, (zeroValue 59).run Tryz.prog w = .ok (.agg #[.int .u32 0, .int .u32 0, .int .u32 0]) w := Tryz.zeroValue59
theorem clear_L {w : World} {base g n cap k : Nat} {xs : List Value} (h : OwnM w base 59 3 (.slice (some ⟨g, 0, none⟩) n cap) n xs) (hk : k < n) (c : Nat) (ty : TypeId) :
    ∃ w', (Builtin.clear_ #[38] ty #[.slice (some ⟨g, k * 3, none⟩) (n - k) c]).run Tryz.prog w = .ok (.tuple #[]) w' ∧ OwnM w' base 59 3 (.slice (some ⟨g, 0, none⟩) k cap) k (xs.take (k * 3)) ∧ w.grownBy w' (some g) := by
  have ht := own_there h (by omega)
  refine ⟨_, run_clear_k (P := Tryz.prog) w 38 59 ty (.agg #[.int .u32 0, .int .u32 0, .int .u32 0]) Tryz.underlying38 zero_large (by simp [Value.cells, Value.oneCell']) (by decide) g (k * 3) (n - k) c (by omega) (fun j hj => ?_) (fun j hj => ?_), ?_, grown_setCells g _ _ w⟩
  · have := (ht (k * 3 + j) (by simp [Value.cells] at hj; omega)).1
    rwa [Nat.zero_add] at this
  · have := (ht (k * 3 + j) (by simp [Value.cells] at hj; omega)).2
    rwa [Nat.zero_add] at this
  · have h1 := OwnM.setMany (Builtin.zeroCells (Value.agg #[.int .u32 0, .int .u32 0, .int .u32 0]).cells (n - k)).toList (k * 3) w xs h (by simp [Builtin.zeroCells, Value.cells]; omega)
    have h2 := h1.cut (m := k) (by omega)
    rwa [setL_take _ _ _ _ (Nat.le_refl _)] at h2
/-- large ones compared: the fields -/
theorem lg_unlike {x y : Lg} (h : ¬ y = x) : ¬ (y.g = x.g ∧ y.a = x.a ∧ y.b = x.b) := fun e => h (Lg.eq_iff.1 e)
theorem grown_drewN {w w' : World} {row : Option Nat} (h : w.grownBy w' row) (n : Nat) : w.grownBy (w'.drewN n) row := ⟨h.os, h.tape, h.output, h.size, h.block⟩
set_option maxRecDepth 100000 in
set_option maxHeartbeats 16000000 in
theorem cut_L (w : World) (base : Nat) (v : Value) (l : List Lg) (h : OwnL w base 59 3 Lg.cs v l) (hl : l.length ≤ 4611686018427387904) :
    Calls Tryz.prog 130 #[v] w (CmpPost w base 59 3 Lg.cs v (dd l)) := by
  by_cases h1 : l.length < 2
  · have hdd : dd l = l := by
      match l, h1 with
      | [], _ => rfl
      | [a], _ => rfl
    rw [hdd]
    obtain ⟨A, c, rfl⟩ := h.form
    have HH := Lib.hid h
    have h1' : (l.length : Int) < 2 := by omega
    clear h hdd
    go_enter Tryz.func130, Tryz.ntmps130
    go_wp2_with fail
    go_ret
    exact ⟨_, rfl, HH.out, grown_refl _ _, rfl⟩
  obtain ⟨g, cap, rfl, hb, hg, hn, hc, _⟩ := OwnM.cells h (show 0 < l.length by omega)
  have HH : Hid (OwnM w base 59 3 (.slice (some ⟨g, 0, none⟩) l.length cap) l.length (l.flatMap Lg.cs)) := h
  have HRET : Hid (∀ (k : Nat) (W : World), Hid (∃ cur : List Lg, Cmp l cur l.length k ∧ OwnM W base 59 3 (.slice (some ⟨g, 0, none⟩) k cap) k ((cur.flatMap Lg.cs).take (k * 3)) ∧ w.grownBy W (some g)) → CmpPost w base 59 3 Lg.cs (.slice (some ⟨g, 0, none⟩) l.length cap) (dd l) (.returned (.slice (some ⟨g, 0, none⟩) k cap)) W) := fun k W hx => by
    obtain ⟨cur, h1, h2, h3⟩ := hx.out
    obtain ⟨f1, f2⟩ := h1.fin
    refine ⟨_, rfl, ?_, h3, rfl⟩
    unfold OwnL
    rw [f2, ← f1, ← flat_take Lg.cs_len]
    exact h2
  have HALL : Hid (∀ (W : World), dd l = l → OwnL W base 59 3 Lg.cs (.slice (some ⟨g, 0, none⟩) l.length cap) l → w.grownBy W (some g) → CmpPost w base 59 3 Lg.cs (.slice (some ⟨g, 0, none⟩) l.length cap) (dd l) (.returned (.slice (some ⟨g, 0, none⟩) l.length cap)) W) := fun W e h2 h3 => by
    rw [e]
    exact ⟨_, rfl, h2, h3, rfl⟩
  generalize CmpPost w base 59 3 Lg.cs (.slice (some ⟨g, 0, none⟩) l.length cap) (dd l) = POST at HRET HALL ⊢
  obtain ⟨n, hnn⟩ : ∃ n, n = l.length := ⟨_, rfl⟩
  rw [← hnn] at HH HALL HRET h1 hn hl ⊢
  have HN := Lib.hid hnn
  have h1' : ¬ ((n : Int) < 2) := by omega
  clear h hnn
  go_enter Tryz.func130, Tryz.ntmps130
  go_wp2_with fail
  go_loopw [3] (fun i wr => ∃ k : Nat, k + 1 ≤ n ∧ i = .int .i64 ((k : Int) + 1) ∧ Hid (dd (l.take (k + 1)) = l.take (k + 1)) ∧ Hid (OwnM wr base 59 3 (.slice (some ⟨g, 0, none⟩) n cap) n (l.flatMap Lg.cs)) ∧ Hid (w.grownBy wr (some g))) (fun i _ => n + 2 - (intOf i).toNat)
  case atStart => exact ⟨0, by omega, rfl, by
    cases l with
    | nil => rfl
    | cons a r => rfl, HH.out, grown_refl _ _⟩
  case round =>
    clear HH
    obtain ⟨k, hk, rfl, HD, HO, HG⟩ := hrel
    have hv1 : IntKind.i64.wrap ((k : Int) + 1 - 1) = k := by rw [show (k : Int) + 1 - 1 = k by omega]; exact IntWalk.i64_in _ (by omega)
    by_cases hlt : k + 1 < n
    · obtain ⟨x, hx⟩ : ∃ x, l[k]? = some x := ⟨l[k]'(by have := HN.out; omega), List.getElem?_eq_getElem _⟩
      obtain ⟨y, hy⟩ : ∃ y, l[k + 1]? = some y := ⟨l[k + 1]'(by have := HN.out; omega), List.getElem?_eq_getElem _⟩
      have HX := Lib.hid hx
      have HY := Lib.hid hy
      obtain ⟨p0, p1, p2⟩ := own_lg HO.out (by omega) hx
      obtain ⟨q0, q1, q2⟩ := own_lg HO.out (by omega) hy
      have hlt' : (k : Int) + 1 < (n : Int) := by omega
      clear hx hy
      by_cases hxy : y = x
      · subst hxy
        have hne0 : ((y.g : Int) != (y.g : Int)) = false := by simp
        have hne1 : ((y.a : Int) != (y.a : Int)) = false := by simp
        have hne2 : ((y.b : Int) != (y.b : Int)) = false := by simp
        have he0 : ((y.g : Int) == (y.g : Int)) = true := by simp
        have he1 : ((y.a : Int) == (y.a : Int)) = true := by simp
        have he2 : ((y.b : Int) == (y.b : Int)) = true := by simp
        go_wp2_with fail
        go_quiet (fail)
        go_wp2_with fail
        have HS0 : Hid (∃ cur : List Lg, Cmp l cur (k + 2) (k + 1) ∧ OwnM wr base 59 3 (.slice (some ⟨g, 0, none⟩) n cap) n (cur.flatMap Lg.cs)) := ⟨l, Cmp.start HD.out HX.out HY.out, HO.out⟩
        clear p0 p1 p2 q0 q1 q2 hne0 hne1 hne2 he0 he1 he2 HO HX HY HD
        go_loopw [3, 5] (fun i i2 wq => ∃ (m j : Nat), i = .int .i64 (m : Nat) ∧ i2 = .int .i64 ((j : Int) + 1) ∧ k + 1 + j + 1 ≤ n ∧ Hid (∃ cur : List Lg, Cmp l cur (k + 1 + j + 1) m ∧ OwnM wq base 59 3 (.slice (some ⟨g, 0, none⟩) n cap) n (cur.flatMap Lg.cs)) ∧ Hid (w.grownBy wq (some g))) (fun _ i2 _ => n + 2 - (intOf i2).toNat)
        case atStart => exact ⟨k + 1, 0, by go_num, rfl, by omega, HS0.out, grown_drewN HG.out _⟩
        case round =>
          clear HS0 HG
          obtain ⟨m, j, rfl, rfl, hj, HS, HG⟩ := hrel
          obtain ⟨cur, hcm, ho⟩ := HS.out
          have hmk := hcm.k1
          have hcl := hcm.len
          have hmn : m < n := by omega
          have HCM := Lib.hid hcm
          have HO := Lib.hid ho
          have HNN : Hid (cur.length = n) := hcl.trans HN.out.symm
          clear HS hcl
          by_cases hlt2 : k + 1 + j + 1 < n
          · obtain ⟨x, hx⟩ : ∃ x, cur[k + 1 + j]? = some x := ⟨cur[k + 1 + j]'(by have := HNN.out; omega), List.getElem?_eq_getElem _⟩
            obtain ⟨z, hz⟩ : ∃ z, cur[k + 1 + j + 1]? = some z := ⟨cur[k + 1 + j + 1]'(by have := HNN.out; omega), List.getElem?_eq_getElem _⟩
            have HX : Hid (l[k + 1 + j]? = some x) := by
              show _ = _
              rw [← hcm.rest _ (by omega)]
              exact hx
            have HZ : Hid (l[k + 1 + j + 1]? = some z) := by
              show _ = _
              rw [← hcm.rest _ (by omega)]
              exact hz
            have hpx := own_lg ho (by omega) hx
            have hpz := own_lg ho (by omega) hz
            rw [show (k + 1 + j) * 3 = (k + 1) * 3 + j * 3 by omega] at hpx
            rw [show (k + 1 + j + 1) * 3 = (k + 1) * 3 + (j + 1) * 3 by omega] at hpz
            obtain ⟨p0, p1, p2⟩ := hpx
            obtain ⟨q0, q1, q2⟩ := hpz
            have hjj : (j : Int) + 1 < ((n - (k + 1) : Nat) : Int) := by omega
            have hj0 : 0 ≤ (j : Int) := by omega
            have hj1 : (j : Int) < ((n - (k + 1) : Nat) : Int) := by omega
            have hv2 : IntKind.i64.wrap ((j : Int) + 1 - 1) = j := by rw [show (j : Int) + 1 - 1 = j by omega]; exact IntWalk.i64_in _ (by omega)
            clear hx hz hcm ho
            by_cases hxz : z = x
            · subst hxz
              have he0 : ((z.g : Int) == (z.g : Int)) = true := by simp
              have he1 : ((z.a : Int) == (z.a : Int)) = true := by simp
              have he2 : ((z.b : Int) == (z.b : Int)) = true := by simp
              go_wp2_with fail
              go_quiet (fail)
              go_wp2_with fail
              exact ⟨⟨m, j + 1, rfl, by go_num, by omega, ⟨cur, HCM.out.skip HX.out HZ.out, HO.out⟩, grown_drewN HG.out _⟩, by simp [intOf]; omega⟩
            · have HD : Hid (¬ (z.g = x.g ∧ z.a = x.a ∧ z.b = x.b)) := lg_unlike hxz
              have HNE := Lib.hid hxz
              clear hxz
              have HTH : Hid (∀ q, (wr.drewN q).there g (m * 3) (#[Value.int .u32 (z.g : Nat), .int .u32 (z.a : Nat), .int .u32 (z.b : Nat)] : Array Value).size) := fun q => there_part (own_there HO.out (by omega)) hmn
              have HST : Hid (∀ q, Hid (∃ cur : List Lg, Cmp l cur (k + 1 + (j + 1) + 1) (m + 1) ∧ OwnM ((wr.drewN q).setCells g (m * 3) [.int .u32 (z.g : Nat), .int .u32 (z.a : Nat), .int .u32 (z.b : Nat)]) base 59 3 (.slice (some ⟨g, 0, none⟩) n cap) n (cur.flatMap Lg.cs))) := fun q => by
                refine ⟨cur.set m z, HCM.out.keep HX.out HZ.out HNE.out, ?_⟩
                rw [← flat_setL (by decide) Lg.cs_len cur m z (by rw [HNN.out]; exact hmn)]
                exact OwnM.setMany (Lg.cs z) (m * 3) (wr.drewN q) _ HO.out (by rw [Lg.cs_len]; omega)
              have HSG : Hid (∀ q, Hid (w.grownBy ((wr.drewN q).setCells g (m * 3) [.int .u32 (z.g : Nat), .int .u32 (z.a : Nat), .int .u32 (z.b : Nat)]) (some g))) := fun q => grown_trans (grown_drewN HG.out q) (grown_setCells g _ _ _)
              by_cases d0 : z.g = x.g
              · have he0 : ((z.g : Int) == (x.g : Int)) = true := by simp [d0]
                by_cases d1 : z.a = x.a
                · have he1 : ((z.a : Int) == (x.a : Int)) = true := by simp [d1]
                  have d2 : ¬ z.b = x.b := fun e => HD.out ⟨d0, d1, e⟩
                  have he2 : ((z.b : Int) == (x.b : Int)) = false := beq_eq_false_iff_ne.2 (by omega)
                  clear d0 d1 d2
                  go_wp2_with fail
                  go_quiet (fail)
                  go_wp2_with (with_reducible show wpList _ _ _ (_ :: _) _ _; refine wpList_store_mid rfl 59 (.tmp 51) (.tmp 50) rfl g (m * 3) #[.int .u32 (z.g : Nat), .int .u32 (z.a : Nat), .int .u32 (z.b : Nat)] rfl rfl (HTH.out _) (by kernel_rfl) (by kernel_rfl) ?_)
                  exact ⟨⟨m + 1, j + 1, by go_num, by go_num, by omega, HST.out _, HSG.out _⟩, by simp [intOf]; omega⟩
                · have he1 : ((z.a : Int) == (x.a : Int)) = false := beq_eq_false_iff_ne.2 (by omega)
                  clear d0 d1
                  go_wp2_with fail
                  go_quiet (fail)
                  go_wp2_with (with_reducible show wpList _ _ _ (_ :: _) _ _; refine wpList_store_mid rfl 59 (.tmp 51) (.tmp 50) rfl g (m * 3) #[.int .u32 (z.g : Nat), .int .u32 (z.a : Nat), .int .u32 (z.b : Nat)] rfl rfl (HTH.out _) (by kernel_rfl) (by kernel_rfl) ?_)
                  exact ⟨⟨m + 1, j + 1, by go_num, by go_num, by omega, HST.out _, HSG.out _⟩, by simp [intOf]; omega⟩
              · have he0 : ((z.g : Int) == (x.g : Int)) = false := beq_eq_false_iff_ne.2 (by omega)
                clear d0
                go_wp2_with fail
                go_quiet (fail)
                go_wp2_with (with_reducible show wpList _ _ _ (_ :: _) _ _; refine wpList_store_mid rfl 59 (.tmp 51) (.tmp 50) rfl g (m * 3) #[.int .u32 (z.g : Nat), .int .u32 (z.a : Nat), .int .u32 (z.b : Nat)] rfl rfl (HTH.out _) (by kernel_rfl) (by kernel_rfl) ?_)
                exact ⟨⟨m + 1, j + 1, by go_num, by go_num, by omega, HST.out _, HSG.out _⟩, by simp [intOf]; omega⟩
          · have hjj : ¬ ((j : Int) + 1 < ((n - (k + 1) : Nat) : Int)) := by omega
            obtain ⟨W, hr, hW, hWG⟩ : ∃ W, (∀ ty, (Builtin.clear_ #[38] ty #[.slice (some ⟨g, m * 3, none⟩) (n - m) (cap - m)]).run Tryz.prog wr = .ok (.tuple #[]) W) ∧ Hid (OwnM W base 59 3 (.slice (some ⟨g, 0, none⟩) m cap) m ((cur.flatMap Lg.cs).take (m * 3))) ∧ Hid (wr.grownBy W (some g)) := by
              obtain ⟨W, h1, h2, h3⟩ := clear_L HO.out hmn (cap - m) 0
              exact ⟨W, fun ty => h1, h2, h3⟩
            have HR : Hid (∃ cur : List Lg, Cmp l cur n m ∧ OwnM W base 59 3 (.slice (some ⟨g, 0, none⟩) m cap) m ((cur.flatMap Lg.cs).take (m * 3)) ∧ w.grownBy W (some g)) := ⟨cur, by rw [← show k + 1 + j + 1 = n by omega]; exact HCM.out, hW.out, grown_trans HG.out hWG.out⟩
            clear hcm ho
            go_wp2_with fail
            exact HRET.out _ _ HR
      · have HNE : Hid (dd (l.take (k + 1 + 1)) = l.take (k + 1 + 1)) := by
          show _ = _
          rw [dd_take l k x y HX.out HY.out, if_neg hxy, HD.out, List.take_add_one (i := k + 1), HY.out]
          rfl
        have HD2 : Hid (¬ (y.g = x.g ∧ y.a = x.a ∧ y.b = x.b)) := lg_unlike hxy
        clear hxy
        by_cases d0 : y.g = x.g
        · have he0 : ((y.g : Int) == (x.g : Int)) = true := by simp [d0]
          by_cases d1 : y.a = x.a
          · have he1 : ((y.a : Int) == (x.a : Int)) = true := by simp [d1]
            have d2 : ¬ y.b = x.b := fun e => HD2.out ⟨d0, d1, e⟩
            have he2 : ((y.b : Int) == (x.b : Int)) = false := beq_eq_false_iff_ne.2 (by omega)
            clear d0 d1 d2
            go_wp2_with fail
            go_quiet (fail)
            go_wp2_with fail
            exact ⟨⟨k + 1, by omega, by go_num, HNE.out, HO.out, grown_drewN HG.out _⟩, by simp [intOf]; omega⟩
          · have he1 : ((y.a : Int) == (x.a : Int)) = false := beq_eq_false_iff_ne.2 (by omega)
            clear d0 d1
            go_wp2_with fail
            go_quiet (fail)
            go_wp2_with fail
            exact ⟨⟨k + 1, by omega, by go_num, HNE.out, HO.out, grown_drewN HG.out _⟩, by simp [intOf]; omega⟩
        · have he0 : ((y.g : Int) == (x.g : Int)) = false := beq_eq_false_iff_ne.2 (by omega)
          clear d0
          go_wp2_with fail
          go_quiet (fail)
          go_wp2_with fail
          exact ⟨⟨k + 1, by omega, by go_num, HNE.out, HO.out, grown_drewN HG.out _⟩, by simp [intOf]; omega⟩
    · have hge : ¬ ((k : Int) + 1 < (n : Int)) := by omega
      have HE : Hid (dd l = l) := by
        have h1 := HD.out
        rwa [List.take_of_length_le (by have := HN.out; omega)] at h1
      have HOL : Hid (OwnL wr base 59 3 Lg.cs (.slice (some ⟨g, 0, none⟩) n cap) l) := by
        show OwnL _ _ _ _ _ _ _
        unfold OwnL
        rw [← HN.out]
        exact HO.out
      go_wp2_with fail
      exact HALL.out _ HE.out HOL.out HG.out
end Go.Proofs.YtkcojblflebomaaGreat
set_option linter.unusedVariables false
set_option linter.unusedSimpArgs false
namespace Go.Proofs.YtkcojblflebomaaGreat
open Go.RowKit Go.MapKept Go.Shelf
open Go.Lib hiding intOf

def mRd (w : World) (b : Nat) : Nat := match w.heap[b]? with
  | some (.cells cs _ _) => match cs[1]? with
    | some (Value.string s) => s.size
    | _ => 0
  | _ => 0
theorem mRd_at {w : World} {b : Nat} {s : ByteArray} (h : RdAt w b s) : mRd w b = s.size := by
  unfold RdAt at h
  unfold mRd
  rw [h]
  rfl
theorem asN_fit (v : ByteArray) : ∀ k, ∀ n ∈ asN 4 k v, n < 4294967296
  | 0, n, h => by cases h
  | k + 1, n, h => by
    rw [asN_succ] at h
    rcases List.mem_append.1 h with h | h
    · exact asN_fit v k n h
    · rw [List.mem_singleton.1 h]
      exact hd_u32 _
def take10 (v : ByteArray) (c : AtC) : AtC × Bool := if v.size = 0 ∨ v.size % 4 ≠ 0 ∨ 128 < v.size then (c, false) else ({ c with clus := asN 4 (v.size / 4) v }, true)
set_option maxRecDepth 100000 in
set_option maxHeartbeats 8000000 in
theorem take10s : Takes0 85 (fun v _ c => take10 v c) := by
  intro b c v four w hcl h hm
  obtain ⟨a, hc, ho, hac⟩ := h.x
  have HH := Lib.hid h
  have HC := Lib.hid hc
  have HO := Lib.hid ho
  have HAC := Lib.hid hac
  have hlt := hc.lt
  have HLT := Lib.hid hlt
  have hac0 : a.clus = [] := by
    have h1 : a.c.clus = a.clus := rfl
    rw [← h1, hac.1]
    exact hcl
  obtain ⟨hka, hkc⟩ := hac.2 hac0
  have HKA : Hid (a.kA = none ∧ a.clus = [] ∧ a.kC = 0) := ⟨hka, hac0, hkc⟩
  have HNEW := Lib.hid new_any
  have HNU := Lib.hid number_nx
  have HLE := Lib.hid left_any
  obtain ⟨i0, hi, hz0, hz1, hz2⟩ := info_parts infoU32
  have HI := Lib.hid hi
  have HZ0 := Lib.hid hz0
  have HZ1 := Lib.hid hz1
  have HZ2 := Lib.hid hz2
  have z0 := bytes_none v
  obtain ⟨q0, hq0⟩ : ∃ q, q = (v.size == 0) := ⟨_, rfl⟩
  rw [← hq0] at z0
  clear h hc ho hac hlt hcl hka hkc hac0 hi hz0 hz1 hz2
  by_cases hb0 : v.size = 0
  · have HT : Hid (take10 v c = (c, false)) := if_pos (.inl hb0)
    obtain rfl : q0 = true := by rw [hq0, hb0]; rfl
    clear hq0 hb0
    go_enter Tryz.func85, Tryz.ntmps85
    go_wp2_with fail
    go_ret
    refine ⟨by rw [HT.out]; rfl, ?_, Tk.refl _ _⟩
    rw [HT.out]
    exact HH.out
  obtain rfl : q0 = false := by rw [hq0]; exact beq_eq_false_iff_ne.2 hb0
  clear hq0
  by_cases hb1 : v.size % 4 = 0
  case neg =>
    have HT : Hid (take10 v c = (c, false)) := if_pos (.inr (.inl hb1))
    have z1 : ((v.size : Int) % 4 != 0) = true := bne_iff_ne.2 (by omega)
    have z1' : ((v.size : Int) % 4 == 0) = false := beq_eq_false_iff_ne.2 (by omega)
    have z2 : ((v.size : Int).tmod 4 != 0) = true := by rw [Int.tmod_eq_emod_of_nonneg (by omega)]; exact z1
    have z2' : ((v.size : Int).tmod 4 == 0) = false := by rw [Int.tmod_eq_emod_of_nonneg (by omega)]; exact z1'
    clear hb1
    go_enter Tryz.func85, Tryz.ntmps85
    go_wp2_with fail
    go_ret
    refine ⟨by rw [HT.out]; rfl, ?_, Tk.refl _ _⟩
    rw [HT.out]
    exact HH.out
  have z1 : ((v.size : Int) % 4 != 0) = false := by
    have : (v.size : Int) % 4 = 0 := by omega
    rw [this]
    rfl
  have z1' : ((v.size : Int) % 4 == 0) = true := beq_iff_eq.2 (by omega)
  have z2 : ((v.size : Int).tmod 4 != 0) = false := by rw [Int.tmod_eq_emod_of_nonneg (by omega)]; exact z1
  have z2' : ((v.size : Int).tmod 4 == 0) = true := by rw [Int.tmod_eq_emod_of_nonneg (by omega)]; exact z1'
  have HB1 := Lib.hid hb1
  by_cases hb2 : 128 < v.size
  · have HT : Hid (take10 v c = (c, false)) := if_pos (.inr (.inr hb2))
    clear hb1
    go_enter Tryz.func85, Tryz.ntmps85
    go_wp2_with fail
    go_ret
    refine ⟨by rw [HT.out]; rfl, ?_, Tk.refl _ _⟩
    rw [HT.out]
    exact HH.out
  have HT : Hid (take10 v c = ({ c with clus := asN 4 (v.size / 4) v }, true)) := if_neg (by omega)
  clear hb1
  go_enter Tryz.func85, Tryz.ntmps85
  go_wp2_with fail
  refine (HNEW.out v w).mono ?_
  rintro e w1 ⟨rfl, hw1⟩
  have HR1 : Hid (RdAt w1 w.heap.size v) := by
    show RdAt _ _ _
    rw [hw1]
    exact heap_alloc_new w _
  have HBL1 : Hid (Below w.heap.size w w1) := by
    rw [hw1]
    exact (Below.refl _ _).alloc (Nat.le_refl _) _
  have HC1 : Hid (CellsAt w1 b (a.ar.setIfInBounds 15 (.slice none 0 0)) 40) := by
    have h := HC.out.below HBL1.out HLT.out
    have e : a.ar.setIfInBounds 15 (.slice none 0 0) = a.ar := by
      have h1 : a.ar = a.ar.setIfInBounds 15 (.slice a.kA a.clus.length a.kC) := rfl
      rw [h1, HKA.out.1, HKA.out.2.1, HKA.out.2.2]
      rfl
    show CellsAt _ _ _ _
    rw [e]
    exact h
  clear hw1
  go_wp2_with fail
  go_loopw [8] (fun _x wr => ∃ (k : Nat) (A : Option Addr) (cK : Nat), k * 4 ≤ v.size ∧ Hid (RdAt wr w.heap.size (nxN 4 k v)) ∧ Hid (CellsAt wr b (a.ar.setIfInBounds 15 (.slice A k cK)) 40) ∧ Hid (OwnL wr w.heap.size 35 1 u1 (.slice A k cK) (asN 4 k v)) ∧ Hid (∀ i, i < w.heap.size → i ≠ b → wr.heap[i]? = w.heap[i]?) ∧ Hid (Below b w wr)) (fun _x wr => mRd wr w.heap.size)
  case atStart => exact ⟨0, none, 0, by omega, HR1.out, HC1.out, OwnL.nil _ _ _ _ _, fun i h1 _ => HBL1.out.block i h1, HBL1.out.mono (Nat.le_of_lt HLT.out)⟩
  case round =>
    clear HR1 HBL1 HC1
    obtain ⟨k, A, cK, hk, HR, HC2, HOW, HKP, HBB⟩ := hrel
    have hrl := HR.out.lt
    have hts : (nxN 4 k v).size = v.size - k * 4 := nxN_size 4 k v
    have HNX := Lib.hid (nxN_succ 4 k v)
    have HAS := Lib.hid (asN_succ 4 k v)
    have HMR := Lib.hid (mRd_at HR.out)
    obtain ⟨t, ht⟩ : ∃ t, t = nxN 4 k v := ⟨_, rfl⟩
    rw [← ht] at HR hts HNX HAS HMR
    clear ht
    go_wp2_with fail
    refine (HLE.out w.heap.size t _ HR.out).mono ?_
    rintro e w2 ⟨rfl, rfl⟩
    by_cases hlt : k * 4 < v.size
    · have h4 : 4 ≤ t.size := by have := HB1.out; omega
      have h0 : 0 < t.size := by omega
      go_wp2_with fail
      refine (HNU.out w.heap.size t 4 _ HR.out (by decide) (by decide) h4 (by omega)).mono ?_
      rintro e w3 ⟨rfl, hr3, hg3⟩
      have HR3 : Hid (RdAt w3 w.heap.size (nx t 4)) := hr3
      have HC3 : Hid (CellsAt w3 b (a.ar.setIfInBounds 15 (.slice A k cK)) 40) := HC2.out.row hg3 (by have := HLT.out; omega)
      have HOW3 : Hid (OwnL w3 w.heap.size 35 1 u1 (.slice A k cK) (asN 4 k v)) := HOW.out.off hg3 (show CellsAt w2 w.heap.size #[.bool true, .string t] 110 from HR.out) (by decide)
      have HKP3 : Hid (∀ i, i < w.heap.size → i ≠ b → w3.heap[i]? = w.heap[i]?) := fun i h1 h2 => (hg3.block i (by omega) (fun e => by injection e with e; omega)).trans (HKP.out i h1 h2)
      have HBB3 : Hid (Below b w w3) := HBB.out.grown hg3 (by have := HLT.out; omega) (fun q hq => by cases hq; exact Nat.le_of_lt HLT.out)
      have hrl3 : w.heap.size < w3.heap.size := Nat.lt_of_lt_of_le hrl hg3.size
      have HTS : Hid ((nx t 4).size = t.size - 4) := nx_size t 4
      have HMEAS : Hid (mRd w2 w.heap.size = t.size) := HMR.out
      obtain ⟨n, hn⟩ : ∃ n, n = hd t 4 := ⟨_, rfl⟩
      have hn4 : n < 4294967296 := by rw [hn]; exact hd_u32 t
      rw [← hn] at HAS ⊢
      clear hr3 hg3 hn HR HC2 HOW HKP HBB HMR
      have zw : IntKind.u32.wrap ((n : Nat) : Int) = ((n : Nat) : Int) := by rw [IntKind.wrap_u32]; omega
      have c15 := (HC3.out.c 15).trans (show (a.ar.setIfInBounds 15 (Value.slice A k cK))[15]? = some (.slice A k cK) from rfl)
      have f15 := HC3.out.unfrozen 15
      have HCB : Hid (CellsAt (w3.alloc (.cells #[.int .u32 (n : Nat)] 35)) w3.heap.size #[.int .u32 (n : Nat)] 35) := CellsAt.new _ _ _
      have HS := Lib.hid (Src.block (P := Tryz.prog) (t2 := 36) (size := 1) (m := 1) (c := 1) Tryz.underlying36 HCB.out rfl (by simp [Value.oneCell']))
      have HOa := Lib.hid (HOW3.out.alloc (.cells #[.int .u32 (n : Nat)] 35))
      have HBS : Hid (w.heap.size ≤ (w3.alloc (.cells #[.int .u32 (n : Nat)] 35)).heap.size) := by show _ ≤ _; simp; omega
      have HM : Hid (k + 1 ≤ maxLen) := by show _ ≤ _; unfold maxLen; omega
      have HY : Hid ((k + 1) * 4 ≤ 140737488355328) := by show _ ≤ _; omega
      have HOB : Hid (OwnM (w3.alloc (.cells #[.int .u32 (n : Nat)] 35)) w.heap.size 35 1 (.slice A k cK) k ((asN 4 k v).flatMap u1)) := by
        have h := HOa.out
        unfold OwnL at h
        rwa [asN_len] at h
      have HCa : Hid (CellsAt (w3.alloc (.cells #[.int .u32 (n : Nat)] 35)) b (a.ar.setIfInBounds 15 (.slice A k cK)) 40) := HC3.out.alloc _
      have HRa : Hid (RdAt (w3.alloc (.cells #[.int .u32 (n : Nat)] 35)) w.heap.size (nx t 4)) := (Below.heap_alloc _ _ _ HR3.out.lt).trans HR3.out
      have HBa : Hid (Below b w (w3.alloc (.cells #[.int .u32 (n : Nat)] 35))) := HBB3.out.alloc (by have := HLT.out; omega) _
      go_wp2_with (at_builtin; refine wpList_append_m rfl (.tmp 37) (.tmp 40) 36 36 rfl w.heap.size 35 i0 _ 1 4 Tryz.underlying36 HI.out HZ0.out HZ1.out HZ2.out rfl (by decide) (.slice A k cK) k ((asN 4 k v).flatMap u1) rfl HOB.out _ 1 _ rfl HS.out HM.out HY.out HBS.out ?_)
      intro v' w5 hown hgr hat
      obtain ⟨A6, c6, rfl⟩ := hown.form
      have hob : ∀ q, (Value.slice A k cK).ownBlock = some q → w.heap.size ≤ q := fun q hq => (OwnM.lt HOB.out q hq).1
      have HN5 : Hid (OwnL w5 w.heap.size 35 1 u1 (.slice A6 (k + 1) c6) (asN 4 (k + 1) v)) := by
        show OwnL _ _ _ _ _ _ _
        rw [HAS.out]
        refine OwnL.snoc ?_
        rw [asN_len]
        exact hown
      have HC5 : Hid (CellsAt w5 b (a.ar.setIfInBounds 15 (.slice A k cK)) 40) := HCa.out.own hgr (fun e => by have h1 := hob _ e.symm; have h2 := HLT.out; omega)
      have HR5 : Hid (RdAt w5 w.heap.size (nx t 4)) := (hgr.block _ HRa.out.lt (fun e => by
        rcases HOB.out.2 with ⟨h1, _⟩ | ⟨g, cap, cur, fr, h1, _, hg, _⟩
        · rw [h1] at e
          simp [Value.ownBlock] at e
        · rw [h1] at e
          simp [Value.ownBlock] at e
          rw [← e] at hg
          have h2 : (w3.alloc (.cells #[.int .u32 (n : Nat)] 35)).heap[w.heap.size]? = some (.cells #[.bool true, .string (nx t 4)] 110 (0, 0)) := HRa.out
          rw [h2] at hg
          injection hg with hg
          injection hg with _ hg
          exact absurd hg (by decide))).trans HRa.out
      have hs5 : w3.heap.size ≤ w5.heap.size := by have := hgr.size; simp at this; omega
      have HKP5 : Hid (∀ i, i < w.heap.size → i ≠ b → w5.heap[i]? = w.heap[i]?) := fun i h1 h2 => (hgr.block i (by simp; omega) (fun e => by have := hob _ e.symm; omega)).trans ((Below.heap_alloc _ _ _ (by omega)).trans (HKP3.out i h1 h2))
      have HBB5 : Hid (Below b w w5) := HBa.out.grown hgr (by simp; have := HLT.out; omega) (fun q hq => by have := hob _ hq; have := HLT.out; omega)
      have d15 := (HC5.out.c 15).trans (show (a.ar.setIfInBounds 15 (Value.slice A k cK))[15]? = some (.slice A k cK) from rfl)
      have g15 := HC5.out.unfrozen 15
      clear hown hgr hat c15 f15 hob HOB HOa HCa HRa HBa
      go_wp2_with fail
      have HCF : Hid (CellsAt (w5.setCell ⟨b, 15, none⟩ (.slice A6 (k + 1) c6)) b (a.ar.setIfInBounds 15 (.slice A6 (k + 1) c6)) 40) := HC5.out.setAt 15 _
      have HRF : Hid (RdAt (w5.setCell ⟨b, 15, none⟩ (.slice A6 (k + 1) c6)) w.heap.size (nxN 4 (k + 1) v)) := by
        show RdAt _ _ _
        rw [HNX.out]
        exact HR5.out.setOther (by have := HLT.out; omega)
      refine ⟨⟨k + 1, A6, c6, by omega, HRF.out, HCF.out, OwnM.setCell HN5.out (p := ⟨b, 15, none⟩) (fun q hq => by have h1 := (OwnM.lt HN5.out q hq).1; have h2 := HLT.out; show q ≠ b; omega) _, fun i h1 h2 => (Below.heap_setCell w5 _ _ i (by show i ≠ b; exact h2)).trans (HKP5.out i h1 h2), HBB5.out.setCell (Nat.le_refl b) _⟩, ?_⟩
      show mRd _ _ < mRd _ _
      rw [mRd_at HRF.out, HMEAS.out, HNX.out, HTS.out]
      omega
    · have hke : v.size / 4 = k := by have := HB1.out; omega
      have ht0 : ¬ 0 < t.size := by omega
      have HKE := Lib.hid hke
      clear hke
      go_wp2_with fail
      go_ret
      refine ⟨by rw [HT.out]; rfl, ?_, HBB.out, fun i h1 h2 _ => HKP.out i h1 h2⟩
      rw [HT.out, HKE.out]
      have hcf : CellsAt w2 b ({ a with kA := A, clus := asN 4 k v, kC := cK } : Atr).ar 40 := by
        show CellsAt _ _ #[_, _, _, _, _, _, _, _, _, _, _, _, _, _, _, .slice A (asN 4 k v).length cK] _
        rw [asN_len]
        exact HC2.out
      have hkl : OwnL w2 (b + 1) 35 1 u1 (.slice A (asN 4 k v).length cK) (asN 4 k v) := by
        rw [asN_len]
        exact OwnM.lower HOW.out (by have := HLT.out; omega)
      exact ⟨⟨{ a with kA := A, clus := asN 4 k v, kC := cK }, hcf, { HO.out.keep (fun i h1 h2 => HKP.out i h2 (by omega)) with clus := hkl, kfit := asN_fit v k }, by rw [← HAC.out.1]; rfl, fun h => by
        have h1 := congrArg List.length h
        rw [asN_len] at h1
        have : k = 0 := h1
        omega⟩⟩
end Go.Proofs.YtkcojblflebomaaGreat
set_option linter.unusedVariables false
set_option linter.unusedSimpArgs false
namespace Go.Proofs.YtkcojblflebomaaGreat
open Go.RowKit Go.MapKept Go.Shelf
open Go.Lib hiding intOf

/-- what reads one thing of so many bytes -/
def OneRd {α : Type} (f : FuncId) (S : Nat) (E : α → Value) (one : ByteArray → α) : Prop :=
  ∀ (b : Nat) (s : ByteArray) (w : World), RdAt w b s → S ≤ s.size → (s.size : Int) ≤ 140737488351232 → Calls Tryz.prog f #[.pointer (some ⟨b, 0, none⟩)] w fun e w' => e = .returned (E (one s)) ∧ RdAt w' b (nx s S) ∧ w.grownBy w' (some b)
set_option maxHeartbeats 4000000 in
theorem one4 : OneRd 113 4 (fun n : Nat => Value.int .u32 (n : Nat)) (fun s => hd s 4) := by
  intro b s w h hs hm
  show Calls _ _ _ _ fun e w' => e = .returned (.int .u32 (hd s 4 : Nat)) ∧ RdAt w' b (nx s 4) ∧ w.grownBy w' (some b)
  have HNU := Lib.hid (number_nx b s 4 w h (by decide) (by decide) hs (by omega))
  have hlt := h.lt
  have hn4 : hd s 4 < 4294967296 := hd_u32 s
  generalize hd s 4 = n at HNU hn4 ⊢
  have zw : IntKind.u32.wrap ((n : Nat) : Int) = ((n : Nat) : Int) := by rw [IntKind.wrap_u32]; omega
  clear h
  go_enter Tryz.func113, Tryz.ntmps113
  go_wp2_with fail
  refine HNU.out.mono ?_
  rintro e w1 ⟨rfl, hr, hg⟩
  have HR := Lib.hid hr
  have HG := Lib.hid hg
  clear hr hg
  go_wp2_with fail
  go_ret
  exact ⟨rfl, HR.out, HG.out⟩
theorem or_join32 (v c : Int) (h0 : 0 ≤ v) (h1 : v < 4294967296) (c0 : 0 ≤ c) (c1 : c < 4294967296) : bits .or .u64 (v * 4294967296) c = v * 4294967296 + c := by
  rw [u64_or _ _ (by omega) (by omega) (by omega) (by omega), nat_join 32 _ _ (by omega) (by omega)]
  omega
theorem beVal_cat : ∀ (r l : List UInt8), beVal (l ++ r) = beVal l * 256 ^ r.length + beVal r := by
  intro r
  induction r with
  | nil => intro l; simp [beVal]
  | cons a r ih =>
    intro l
    have h1 := ih (l ++ [a])
    have h2 := ih [a]
    rw [List.append_assoc, beVal_snoc] at h1
    have e : beVal [a] = a.toNat := by simp [beVal]
    rw [e] at h2
    simp only [List.singleton_append] at h1 h2
    rw [h1, h2, List.length_cons, Nat.pow_succ, Nat.add_mul, Nat.mul_assoc, Nat.mul_comm 256]
    omega
theorem hd_eight (s : ByteArray) (h : 8 ≤ s.size) : hd s 8 = hd s 4 * 4294967296 + hd (nx s 4) 4 := by
  unfold hd
  rw [nx_list]
  have e : s.data.toList.take 8 = s.data.toList.take 4 ++ (s.data.toList.drop 4).take 4 := by rw [← List.take_add]
  have hl : ((s.data.toList.drop 4).take 4).length = 4 := by
    have : s.data.toList.length = s.size := Array.length_toList
    rw [List.length_take, List.length_drop]
    omega
  rw [e, beVal_cat, hl]
theorem rd4 (b : Nat) (s : ByteArray) (w : World) (h : RdAt w b s) (hs : 4 ≤ s.size) (hm : (s.size : Int) ≤ 140737488351232) : Calls Tryz.prog 113 #[.pointer (some ⟨b, 0, none⟩)] w fun e w' => e = .returned (.int .u32 (hd s 4 : Nat)) ∧ RdAt w' b (nx s 4) ∧ w.grownBy w' (some b) := one4 b s w h hs hm
set_option maxHeartbeats 4000000 in
theorem one8 : OneRd 115 8 (fun n : Nat => Value.int .u64 (n : Nat)) (fun s => hd s 8) := by
  intro b s w h hs hm
  show Calls _ _ _ _ fun e w' => e = .returned (.int .u64 (hd s 8 : Nat)) ∧ RdAt w' b (nx s 8) ∧ w.grownBy w' (some b)
  have HON := Lib.hid rd4
  have HR := Lib.hid h
  have HV := Lib.hid (hd_eight s hs)
  have HT : Hid (nx (nx s 4) 4 = nx s 8) := nx_nx s 4 4
  have HTS : Hid ((nx s 4).size = s.size - 4) := nx_size s 4
  have h1 : hd s 4 < 4294967296 := hd_u32 s
  have h2 : hd (nx s 4) 4 < 4294967296 := hd_u32 _
  clear h
  go_enter Tryz.func115, Tryz.ntmps115
  go_wp2_with fail
  refine (HON.out b s w HR.out (by omega) hm).mono ?_
  rintro e w1 ⟨rfl, hr1, hg1⟩
  have HR1 := Lib.hid hr1
  have HG1 := Lib.hid hg1
  clear hr1 hg1
  go_wp2_with fail
  refine (HON.out b _ w1 HR1.out (by rw [HTS.out]; omega) (by rw [HTS.out]; omega)).mono ?_
  rintro e w2 ⟨rfl, hr2, hg2⟩
  have HR2 := Lib.hid hr2
  have HG2 := Lib.hid hg2
  clear hr2 hg2
  go_wp2_with fail
  go_ret
  refine ⟨?_, by rw [← HT.out]; exact HR2.out, grown_trans HG1.out HG2.out⟩
  rw [HV.out, Int.natCast_add, Int.natCast_mul]
  show Ending.returned (Value.int .u64 (bits .or .u64 _ _)) = _
  rw [or_join32 _ _ (by omega) (by omega) (by omega) (by omega)]
  rfl
theorem lg_size : (Tryz.prog.info? 59).map (·.size) = some 3 := by kernel_rfl
set_option maxHeartbeats 4000000 in
theorem one12 : OneRd 117 12 (fun x : Lg => Value.agg x.cs.toArray) (fun s => ⟨hd s 4, hd (nx s 4) 4, hd (nx s 8) 4⟩) := by
  intro b s w h hs hm
  show Calls _ _ _ _ fun e w' => e = .returned (.agg #[.int .u32 (hd s 4 : Nat), .int .u32 (hd (nx s 4) 4 : Nat), .int .u32 (hd (nx s 8) 4 : Nat)]) ∧ RdAt w' b (nx s 12) ∧ w.grownBy w' (some b)
  have HON := Lib.hid rd4
  have HTS : Hid ((nx s 4).size = s.size - 4) := nx_size s 4
  have HTS2 : Hid ((nx s 8).size = s.size - 8) := nx_size s 8
  have hlt := h.lt
  obtain ⟨V, hV⟩ : ∃ V, V = w.alloc (.cells #[.int .u32 0, .int .u32 0, .int .u32 0] 59) := ⟨_, rfl⟩
  have HC0 : Hid (CellsAt V w.heap.size #[.int .u32 0, .int .u32 0, .int .u32 0] 59) := by rw [hV]; exact CellsAt.new _ _ _
  have HR0 : Hid (RdAt V b s) := by rw [hV]; exact (Below.heap_alloc _ _ _ h.lt).trans h
  have HG0 : Hid (w.grownBy V (some b)) := by rw [hV]; exact grown_of_below ((Below.refl _ _).alloc (Nat.le_refl _) _) _
  have HT : Hid (nx (nx s 4) 4 = nx s 8) := nx_nx s 4 4
  have HT2 : Hid (nx (nx s 8) 4 = nx s 12) := nx_nx s 8 4
  clear h
  go_enter Tryz.func117, Tryz.ntmps117
  go_wp2_with fail
  rw [← hV]
  clear hV
  refine (HON.out b s V HR0.out (by omega) hm).mono ?_
  rintro e w1 ⟨rfl, hr1, hg1⟩
  have HR1 := Lib.hid hr1
  have HC1 : Hid (CellsAt w1 w.heap.size #[.int .u32 0, .int .u32 0, .int .u32 0] 59) := HC0.out.row hg1 (by omega)
  have HG1 : Hid (w.grownBy w1 (some b)) := grown_trans HG0.out hg1
  obtain ⟨n1, hn1⟩ : ∃ n, n = hd s 4 := ⟨_, rfl⟩
  rw [← hn1]
  have HN1 := Lib.hid hn1
  clear hn1
  clear hr1 hg1 HC0 HR0 HG0
  have HD1 : Hid (CellsAt (w1.alloc (.cells #[.int .u32 0, .int .u32 0, .int .u32 0] 59)) w1.heap.size #[.int .u32 0, .int .u32 0, .int .u32 0] 59) := CellsAt.new _ _ _
  go_wp2_with (with_reducible show wpList _ _ _ (_ :: _) _ _; refine wpList_store_row rfl 59 (.tmp 3) (.tmp 6) rfl w1.heap.size #[.int .u32 (n1 : Nat), .int .u32 0, .int .u32 0] rfl rfl 59 #[.int .u32 0, .int .u32 0, .int .u32 0] HD1.out lg_size rfl rfl ?_)
  obtain ⟨V1, hV1⟩ : ∃ V1, V1 = w1.alloc (.cells #[.int .u32 (n1 : Nat), .int .u32 0, .int .u32 0] 59) := ⟨_, rfl⟩
  rw [← hV1]
  have hl1 : b < w1.heap.size := HR1.out.lt
  have hl0 : w.heap.size < w1.heap.size := HC1.out.lt
  have hs1 : V1.heap.size = w1.heap.size + 1 := by rw [hV1]; simp
  have HE1 : Hid (CellsAt V1 w1.heap.size #[.int .u32 (n1 : Nat), .int .u32 0, .int .u32 0] 59) := by rw [hV1]; exact CellsAt.new _ _ _
  have HRV : Hid (RdAt V1 b (nx s 4)) := by rw [hV1]; exact (Below.heap_alloc _ _ _ hl1).trans HR1.out
  have HCV : Hid (CellsAt V1 w.heap.size #[.int .u32 0, .int .u32 0, .int .u32 0] 59) := by rw [hV1]; exact HC1.out.alloc _
  have HGV : Hid (w.grownBy V1 (some b)) := by rw [hV1]; exact grown_trans HG1.out (grown_of_below ((Below.refl _ _).alloc (Nat.le_refl _) _) _)
  obtain ⟨g, hg⟩ : ∃ g, g = w1.heap.size := ⟨_, rfl⟩
  rw [← hg] at HE1 hl1 hl0 ⊢
  clear hV1 HR1 HC1 HG1 HD1 hs1 hg
  refine (HON.out b _ V1 HRV.out (by rw [HTS.out]; omega) (by rw [HTS.out]; omega)).mono ?_
  rintro e w2 ⟨rfl, hr2, hg2⟩
  have HR2 : Hid (RdAt w2 b (nx s 8)) := by rw [← HT.out]; exact hr2
  have HC2 : Hid (CellsAt w2 w.heap.size #[.int .u32 0, .int .u32 0, .int .u32 0] 59) := HCV.out.row hg2 (by omega)
  have HE2 : Hid (CellsAt w2 g #[.int .u32 (n1 : Nat), .int .u32 0, .int .u32 0] 59) := HE1.out.row hg2 (by omega)
  have HG2 : Hid (w.grownBy w2 (some b)) := grown_trans HGV.out hg2
  obtain ⟨n2, hn2⟩ : ∃ n, n = hd (nx s 4) 4 := ⟨_, rfl⟩
  rw [← hn2]
  have HN2 := Lib.hid hn2
  clear hn2
  clear hr2 hg2 HRV HCV HGV HE1
  have e0 := (HE2.out.c 1).trans (show (#[Value.int .u32 (n1 : Nat), .int .u32 0, .int .u32 0] : Array Value)[1]? = some (.int .u32 0) from rfl)
  have e1 := HE2.out.unfrozen 1
  go_wp2_with fail
  obtain ⟨V2, hV2⟩ : ∃ V2, V2 = w2.setCell ⟨g, 1, none⟩ (.int .u32 (n2 : Nat)) := ⟨_, rfl⟩
  rw [← hV2]
  have HE3 : Hid (CellsAt V2 g #[.int .u32 (n1 : Nat), .int .u32 (n2 : Nat), .int .u32 0] 59) := by rw [hV2]; exact HE2.out.setAt 1 _
  have HR3 : Hid (RdAt V2 b (nx s 8)) := by rw [hV2]; exact (Below.heap_setCell w2 _ _ b (show b ≠ g by omega)).trans HR2.out
  have HC3 : Hid (CellsAt V2 w.heap.size #[.int .u32 0, .int .u32 0, .int .u32 0] 59) := by rw [hV2]; exact (Below.heap_setCell w2 _ _ w.heap.size (show w.heap.size ≠ g by omega)).trans HC2.out
  have HG3 : Hid (w.grownBy V2 (some b)) := by
    rw [hV2]
    have h := grown_setCell w2 ⟨g, 1, none⟩ (.int .u32 (n2 : Nat))
    have h1 := HG2.out
    exact ⟨h.os.trans h1.os, h.tape.trans h1.tape, h.output.trans h1.output, Nat.le_trans h1.size h.size, fun i hi hx => (Below.heap_setCell w2 _ _ i (show i ≠ g by omega)).trans (h1.block i hi hx)⟩
  clear hV2 e0 e1 HE2 HR2 HC2 HG2
  refine (HON.out b _ V2 HR3.out (by rw [HTS2.out]; omega) (by rw [HTS2.out]; omega)).mono ?_
  rintro e w3 ⟨rfl, hr3, hg3⟩
  have HR4 : Hid (RdAt w3 b (nx s 12)) := by rw [← HT2.out]; exact hr3
  have HC4 : Hid (CellsAt w3 w.heap.size #[.int .u32 0, .int .u32 0, .int .u32 0] 59) := HC3.out.row hg3 (by omega)
  have HE4 : Hid (CellsAt w3 g #[.int .u32 (n1 : Nat), .int .u32 (n2 : Nat), .int .u32 0] 59) := HE3.out.row hg3 (by omega)
  have HG4 : Hid (w.grownBy w3 (some b)) := grown_trans HG3.out hg3
  obtain ⟨n3, hn3⟩ : ∃ n, n = hd (nx s 8) 4 := ⟨_, rfl⟩
  rw [← hn3]
  have HN3 := Lib.hid hn3
  clear hn3
  clear hr3 hg3 HR3 HC3 HG3 HE3
  have e0 := (HE4.out.c 2).trans (show (#[Value.int .u32 (n1 : Nat), .int .u32 (n2 : Nat), .int .u32 0] : Array Value)[2]? = some (.int .u32 0) from rfl)
  have e1 := HE4.out.unfrozen 2
  go_upto_region 4 with fail
  obtain ⟨V3, hV3⟩ : ∃ V3, V3 = w3.setCell ⟨g, 2, none⟩ (.int .u32 (n3 : Nat)) := ⟨_, rfl⟩
  rw [← hV3]
  have HE5 : Hid (CellsAt V3 g #[.int .u32 (n1 : Nat), .int .u32 (n2 : Nat), .int .u32 (n3 : Nat)] 59) := by rw [hV3]; exact HE4.out.setAt 2 _
  have HR5 : Hid (RdAt V3 b (nx s 12)) := by rw [hV3]; exact (Below.heap_setCell w3 _ _ b (show b ≠ g by omega)).trans HR4.out
  have HC5 : Hid (CellsAt V3 w.heap.size #[.int .u32 0, .int .u32 0, .int .u32 0] 59) := by rw [hV3]; exact (Below.heap_setCell w3 _ _ w.heap.size (show w.heap.size ≠ g by omega)).trans HC4.out
  have HG5 : Hid (w.grownBy V3 (some b)) := by
    rw [hV3]
    have h := grown_setCell w3 ⟨g, 2, none⟩ (.int .u32 (n3 : Nat))
    have h1 := HG4.out
    exact ⟨h.os.trans h1.os, h.tape.trans h1.tape, h.output.trans h1.output, Nat.le_trans h1.size h.size, fun i hi hx => (Below.heap_setCell w3 _ _ i (show i ≠ g by omega)).trans (h1.block i hi hx)⟩
  clear hV3 e0 e1 HE4 HR4 HC4 HG4
  obtain ⟨c0, c1, c2⟩ := HE5.out.c3
  go_wp2_with (with_reducible show wpList _ _ _ (⟨none, _, _, _, _, _⟩ :: _) _ _; have hstop : True := trivial; revert hstop)
  intro _
  refine wpList_store_row rfl 59 (.tmp 2) (.tmp 13) rfl w.heap.size #[.int .u32 (n1 : Nat), .int .u32 (n2 : Nat), .int .u32 (n3 : Nat)] rfl rfl 59 #[.int .u32 0, .int .u32 0, .int .u32 0] HC5.out (by kernel_rfl) (by kernel_rfl) (by kernel_rfl) ?_
  have HRF : Hid (RdAt (V3.setRow w.heap.size #[.int .u32 (n1 : Nat), .int .u32 (n2 : Nat), .int .u32 (n3 : Nat)]) b (nx s 12)) := (setRow_other V3 w.heap.size b _ (by omega)).trans HR5.out
  have HGF : Hid (w.grownBy (V3.setRow w.heap.size #[.int .u32 (n1 : Nat), .int .u32 (n2 : Nat), .int .u32 (n3 : Nat)]) (some b)) := by
    have h1 := HG5.out
    exact ⟨h1.os, h1.tape, h1.output, by rw [setRow_size]; exact h1.size, fun i hi hx => (setRow_other V3 w.heap.size i _ (by omega)).trans (h1.block i hi hx)⟩
  have HCG : Hid (CellsAt (V3.setRow w.heap.size #[.int .u32 (n1 : Nat), .int .u32 (n2 : Nat), .int .u32 (n3 : Nat)]) w.heap.size #[.int .u32 (n1 : Nat), .int .u32 (n2 : Nat), .int .u32 (n3 : Nat)] 59) := setRow_heap V3 w.heap.size _ _ _ _ HC5.out
  clear c0 c1 c2
  go_wp2_with fail
  exact bodyPost_ret (results_cell_row rfl _ _ w.heap.size 59 #[.int .u32 (n1 : Nat), .int .u32 (n2 : Nat), .int .u32 (n3 : Nat)] (0, 0) _ rfl HCG.out Tryz.underlying59 rfl lg_size) rfl ⟨by rw [HN1.out, HN2.out, HN3.out], HRF.out, HGF.out⟩
end Go.Proofs.YtkcojblflebomaaGreat
set_option linter.unusedVariables false
set_option linter.unusedSimpArgs false
namespace Go.Proofs.YtkcojblflebomaaGreat
open Go.RowKit Go.MapKept Go.Shelf
open Go.Lib hiding intOf
open Go.Sort hiding Below

/-- things of so many bytes each, one behind the other -/
def oneN {α : Type} (S : Nat) (one : ByteArray → α) : Nat → ByteArray → List α
  | 0, _ => []
  | k + 1, s => one s :: oneN S one k (nx s S)
theorem oneN_succ {α : Type} (S : Nat) (one : ByteArray → α) : ∀ (k : Nat) (s : ByteArray), oneN S one (k + 1) s = oneN S one k s ++ [one (nxN S k s)]
  | 0, s => rfl
  | k + 1, s => by
    show one s :: oneN S one (k + 1) (nx s S) = _
    rw [oneN_succ S one k]
    rfl
theorem oneN_len {α : Type} (S : Nat) (one : ByteArray → α) : ∀ (k : Nat) (s : ByteArray), (oneN S one k s).length = k
  | 0, s => rfl
  | k + 1, s => by
    show (oneN S one k (nx s S)).length + 1 = _
    rw [oneN_len S one k]
theorem oneN_all {α : Type} {S : Nat} {one : ByteArray → α} {p : α → Prop} (h : ∀ s, p (one s)) : ∀ (k : Nat) (s : ByteArray), ∀ x ∈ oneN S one k s, p x
  | 0, s, x, hx => by cases hx
  | k + 1, s, x, hx => by
    rcases List.mem_cons.1 hx with rfl | hx
    · exact h s
    · exact oneN_all h k _ x hx
/-- what is read of bytes: none where they are wrong -/
def readC {α : Type} [DecidableEq α] (S : Nat) (one : ByteArray → α) (lt : α → α → Bool) (v : ByteArray) : Option (List α) :=
  if v.size = 0 ∨ v.size % S ≠ 0 then none
  else if 64 < (dd (srt lt (oneN S one (v.size / S) v))).length then none
  else some (dd (srt lt (oneN S one (v.size / S) v)))
theorem srt_rise {α : Type} {lt : α → α → Bool} (hS : SWO lt) (l : List α) : ∀ i a b, (srt lt l)[i]? = some a → (srt lt l)[i + 1]? = some b → lt b a = false := by
  have h := List.pairwise_mergeSort (le := fun x y => !lt y x) (by
    intro a b c h1 h2
    simp only [Bool.not_eq_true'] at h1 h2 ⊢
    exact hS.ntrans c b a h2 h1) (by
    intro a b
    cases h : lt b a with
    | false => simp
    | true => simp [hS.asymmA h]) l
  intro i a b ha hb
  rw [List.pairwise_iff_getElem] at h
  obtain ⟨h1, e1⟩ := List.getElem?_eq_some_iff.1 ha
  obtain ⟨h2, e2⟩ := List.getElem?_eq_some_iff.1 hb
  have h3 := h i (i + 1) h1 h2 (Nat.lt_succ_self i)
  subst e1
  subst e2
  simp only [Bool.not_eq_true'] at h3
  exact h3
theorem readC_ok {α : Type} [DecidableEq α] {S : Nat} {one : ByteArray → α} {lt : α → α → Bool} {v : ByteArray} {l : List α} (hS : SWO lt) (ht : ∀ a b, lt b a = false → a = b ∨ lt a b = true) (h : readC S one lt v = some l) : riseB lt l = true ∧ l.length ≤ 64 := by
  unfold readC at h
  split at h
  · cases h
  · split at h
    · cases h
    · injection h with h
      subst h
      exact ⟨dd_rise lt ht _ (srt_rise hS _), by omega⟩
theorem srt_mem {α : Type} {lt : α → α → Bool} {l : List α} {x : α} : x ∈ srt lt l ↔ x ∈ l := List.mem_mergeSort
theorem readC_all {α : Type} [DecidableEq α] {S : Nat} {one : ByteArray → α} {lt : α → α → Bool} {v : ByteArray} {l : List α} {p : α → Prop} (hp : ∀ s, p (one s)) (h : readC S one lt v = some l) : ∀ x ∈ l, p x := by
  unfold readC at h
  split at h
  · cases h
  · split at h
    · cases h
    · injection h with h
      subst h
      exact fun x hx => oneN_all hp _ _ x (srt_mem.1 ((dd_mem _).1 hx))
def lg12 (s : ByteArray) : Lg := ⟨hd s 4, hd (nx s 4) 4, hd (nx s 8) 4⟩
def take8 (v : ByteArray) (c : AtC) : AtC × Bool := match readC 4 (fun s => hd s 4) ltN v with
  | none => ({ c with comms := [] }, false)
  | some l => ({ c with comms := l }, true)
def take16 (v : ByteArray) (c : AtC) : AtC × Bool := match readC 8 (fun s => hd s 8) ltN v with
  | none => ({ c with exts := [] }, false)
  | some l => ({ c with exts := l }, true)
def take32 (v : ByteArray) (c : AtC) : AtC × Bool := match readC 12 lg12 ltL v with
  | none => ({ c with larges := [] }, false)
  | some l => ({ c with larges := l }, true)
/-- what takes each type -/
def tab (n : Nat) (v : ByteArray) (four : Bool) (c : AtC) : AtC × Bool :=
  if n = 1 then take1 v c else
  if n = 2 then take2 v four c else
  if n = 3 then take3 v c else
  if n = 4 then take4 v c else
  if n = 5 then take5 v c else
  if n = 6 then take6 v c else
  if n = 7 then take7 v four c else
  if n = 8 then take8 v c else
  if n = 9 then take9 v c else
  if n = 10 then take10 v c else
  if n = 16 then take16 v c else take32 v c
/-- the types that are known -/
theorem row_known {t : Nat} {b wr : Int} {i : Bool} {f : FuncId} (h : rowF t = some (b, wr, i, f)) : t = 1 ∨ t = 2 ∨ t = 3 ∨ t = 4 ∨ t = 5 ∨ t = 6 ∨ t = 7 ∨ t = 8 ∨ t = 9 ∨ t = 10 ∨ t = 16 ∨ t = 32 := by
  unfold rowF at h
  by_cases h1 : t = 1
  · omega
  by_cases h2 : t = 2
  · omega
  by_cases h3 : t = 3
  · omega
  by_cases h4 : t = 4
  · omega
  by_cases h5 : t = 5
  · omega
  by_cases h6 : t = 6
  · omega
  by_cases h7 : t = 7
  · omega
  by_cases h8 : t = 8
  · omega
  by_cases h9 : t = 9
  · omega
  by_cases h10 : t = 10
  · omega
  by_cases h16 : t = 16
  · omega
  by_cases h32 : t = 32
  · omega
  rw [if_neg h1, if_neg h2, if_neg h3, if_neg h4, if_neg h5, if_neg h6, if_neg h7, if_neg h8, if_neg h9, if_neg h10, if_neg h16, if_neg h32] at h
  cases h
end Go.Proofs.YtkcojblflebomaaGreat
set_option linter.unusedVariables false
set_option linter.unusedSimpArgs false
namespace Go.Proofs.YtkcojblflebomaaGreat
open Go.RowKit Go.MapKept Go.Shelf
open Go.Lib hiding intOf
open Go.Sort hiding Below

/-- what a list read of bytes is answered as -/
def RcPost {α : Type} (base : Nat) (T : TypeId) (C : Nat) (F : α → List Value) : Option (List α) → World → Ending → Prop
  | none, w', e => ∃ n : Int, e = .returned (.tuple #[.slice none 0 0, .int .i64 n]) ∧ (n = 3 ∨ n = 4)
  | some l, w', e => ∃ v, e = .returned (.tuple #[v, .int .i64 0]) ∧ OwnL w' base T C F v l
theorem readC_none {α : Type} [DecidableEq α] {S : Nat} {one : ByteArray → α} {lt : α → α → Bool} {v : ByteArray} (h : v.size = 0 ∨ v.size % S ≠ 0) : readC S one lt v = none := if_pos h
theorem readC_long {α : Type} [DecidableEq α] {S : Nat} {one : ByteArray → α} {lt : α → α → Bool} {v : ByteArray} (h0 : v.size ≠ 0) (h1 : v.size % S = 0) (h : 64 < (dd (srt lt (oneN S one (v.size / S) v))).length) : readC S one lt v = none := by
  unfold readC
  rw [if_neg (by omega), if_pos h]
theorem readC_some {α : Type} [DecidableEq α] {S : Nat} {one : ByteArray → α} {lt : α → α → Bool} {v : ByteArray} (h0 : v.size ≠ 0) (h1 : v.size % S = 0) (h : ¬ 64 < (dd (srt lt (oneN S one (v.size / S) v))).length) : readC S one lt v = some (dd (srt lt (oneN S one (v.size / S) v))) := by
  unfold readC
  rw [if_neg (by omega), if_neg h]
set_option maxRecDepth 100000 in
set_option maxHeartbeats 16000000 in
theorem cread_u32 (s : ByteArray) (w : World) (hm : (s.size : Int) ≤ 140737488351232) :
    Calls Tryz.prog 112 #[.string s, .int .i64 4, .func (.func 57) #[] #[], .func (.func 113) #[] #[]] w fun e w' => RcPost (w.heap.size + 1) 35 1 u1 (readC 4 (fun s => hd s 4) ltN s) w' e ∧ Below w.heap.size w w' := by
  have HNEW := Lib.hid new_any
  have HLE := Lib.hid left_any
  have HON : Hid (∀ (b : Nat) (t : ByteArray) (W : World), RdAt W b t → 4 ≤ t.size → (t.size : Int) ≤ 140737488351232 → Calls Tryz.prog 113 #[.pointer (some ⟨b, 0, none⟩)] W fun e w' => e = .returned (.int .u32 (hd t 4 : Nat)) ∧ RdAt w' b (nx t 4) ∧ W.grownBy w' (some b)) := fun b t W h1 h2 h3 => one4 b t W h1 h2 h3
  have HSO := Lib.hid sort_u32
  have HCU := Lib.hid cut_u32
  obtain ⟨i0, hi, hz0, hz1, hz2⟩ := info_parts infoU32
  have HI := Lib.hid hi
  have HZ0 := Lib.hid hz0
  have HZ1 := Lib.hid hz1
  have HZ2 := Lib.hid hz2
  have z0 := bytes_none s
  obtain ⟨q0, hq0⟩ : ∃ q, q = (s.size == 0) := ⟨_, rfl⟩
  rw [← hq0] at z0
  clear hi hz0 hz1 hz2
  by_cases hb0 : s.size = 0
  · have HT : Hid (readC 4 (fun s => hd s 4) ltN s = none) := readC_none (.inl hb0)
    obtain rfl : q0 = true := by rw [hq0, hb0]; rfl
    clear hq0 hb0
    go_enter Tryz.func112, Tryz.ntmps112
    go_wp2_with fail
    go_ret2
    refine ⟨?_, Below.refl _ _⟩
    rw [HT.out]
    exact ⟨4, rfl, .inr rfl⟩
  obtain rfl : q0 = false := by rw [hq0]; exact beq_eq_false_iff_ne.2 hb0
  clear hq0
  by_cases hb1 : s.size % 4 = 0
  case neg =>
    have HT : Hid (readC 4 (fun s => hd s 4) ltN s = none) := readC_none (.inr hb1)
    have z1 : ((s.size : Int) % 4 != 0) = true := bne_iff_ne.2 (by omega)
    have z1' : ((s.size : Int) % 4 == 0) = false := beq_eq_false_iff_ne.2 (by omega)
    have z2 : ((s.size : Int).tmod 4 != 0) = true := by rw [Int.tmod_eq_emod_of_nonneg (by omega)]; exact z1
    have z2' : ((s.size : Int).tmod 4 == 0) = false := by rw [Int.tmod_eq_emod_of_nonneg (by omega)]; exact z1'
    clear hb1
    go_enter Tryz.func112, Tryz.ntmps112
    go_wp2_with fail
    go_ret2
    refine ⟨?_, Below.refl _ _⟩
    rw [HT.out]
    exact ⟨4, rfl, .inr rfl⟩
  have z1 : ((s.size : Int) % 4 != 0) = false := by
    have : (s.size : Int) % 4 = 0 := by omega
    rw [this]
    rfl
  have z1' : ((s.size : Int) % 4 == 0) = true := beq_iff_eq.2 (by omega)
  have z2 : ((s.size : Int).tmod 4 != 0) = false := by rw [Int.tmod_eq_emod_of_nonneg (by omega)]; exact z1
  have z2' : ((s.size : Int).tmod 4 == 0) = true := by rw [Int.tmod_eq_emod_of_nonneg (by omega)]; exact z1'
  have HB0 := Lib.hid hb0
  have HB1 := Lib.hid hb1
  have HTL : Hid (64 < (dd (srt ltN (oneN 4 (fun s => hd s 4) (s.size / 4) s))).length → readC 4 (fun s => hd s 4) ltN s = none) := fun h => readC_long hb0 hb1 h
  have HTS : Hid (¬ 64 < (dd (srt ltN (oneN 4 (fun s => hd s 4) (s.size / 4) s))).length → readC 4 (fun s => hd s 4) ltN s = some (dd (srt ltN (oneN 4 (fun s => hd s 4) (s.size / 4) s)))) := fun h => readC_some hb0 hb1 h
  generalize readC 4 (fun s => hd s 4) ltN s = RES at HTL HTS ⊢
  clear hb1 hb0
  go_enter Tryz.func112, Tryz.ntmps112
  go_wp2_with fail
  refine (HNEW.out s w).mono ?_
  rintro e w1 ⟨rfl, hw1⟩
  have HR1 : Hid (RdAt w1 w.heap.size s) := by
    show RdAt _ _ _
    rw [hw1]
    exact heap_alloc_new w _
  have HBL1 : Hid (Below w.heap.size w w1) := by
    rw [hw1]
    exact (Below.refl _ _).alloc (Nat.le_refl _) _
  clear hw1
  go_wp2_with fail
  go_loopw [11] (fun ov wr => ∃ (k : Nat) (A : Option Addr) (cK : Nat), ov = .slice A k cK ∧ k * 4 ≤ s.size ∧ Hid (RdAt wr w.heap.size (nxN 4 k s)) ∧ Hid (OwnL wr (w.heap.size + 1) 35 1 u1 (.slice A k cK) (oneN 4 (fun s => hd s 4) k s)) ∧ Hid (Below w.heap.size w wr)) (fun _x wr => mRd wr w.heap.size)
  case atStart => exact ⟨0, none, 0, rfl, by omega, HR1.out, OwnL.nil _ _ _ _ _, HBL1.out⟩
  case round =>
    clear HR1 HBL1
    obtain ⟨k, A, cK, rfl, hk, HR, HOW, HBB⟩ := hrel
    have hrl := HR.out.lt
    have hts : (nxN 4 k s).size = s.size - k * 4 := nxN_size 4 k s
    have HNX := Lib.hid (nxN_succ 4 k s)
    have HAS := Lib.hid (oneN_succ 4 (fun s => hd s 4) k s)
    have HMR := Lib.hid (mRd_at HR.out)
    obtain ⟨t, ht⟩ : ∃ t, t = nxN 4 k s := ⟨_, rfl⟩
    rw [← ht] at HR hts HNX HAS HMR
    clear ht
    go_wp2_with fail
    refine (HLE.out w.heap.size t _ HR.out).mono ?_
    rintro e w2 ⟨rfl, rfl⟩
    by_cases hlt : k * 4 < s.size
    · have h4 : 4 ≤ t.size := by have := HB1.out; omega
      have h0 : (4 : Int) ≤ (t.size : Int) := by omega
      go_wp2_with fail
      refine (HON.out w.heap.size t _ HR.out h4 (by omega)).mono ?_
      rintro e w3 ⟨rfl, hr3, hg3⟩
      have HR3 : Hid (RdAt w3 w.heap.size (nx t 4)) := hr3
      have HOW3 : Hid (OwnL w3 (w.heap.size + 1) 35 1 u1 (.slice A k cK) (oneN 4 (fun s => hd s 4) k s)) := HOW.out.off hg3 (show CellsAt w2 w.heap.size #[.bool true, .string t] 110 from HR.out) (by decide)
      have HBB3 : Hid (Below w.heap.size w w3) := HBB.out.grown hg3 (by have := HBB.out.size; omega) (fun q hq => by cases hq; exact Nat.le_refl _)
      have hrl3 : w.heap.size < w3.heap.size := Nat.lt_of_lt_of_le hrl hg3.size
      have HSZ : Hid ((nx t 4).size = t.size - 4) := nx_size t 4
      have HMEAS : Hid (mRd w2 w.heap.size = t.size) := HMR.out
      obtain ⟨x, hx⟩ : ∃ x, x = hd t 4 := ⟨_, rfl⟩
      rw [← hx] at HAS ⊢
      clear hr3 hg3 hx HR HOW HBB HMR
      have HCB : Hid (CellsAt (w3.alloc (.cells #[.int .u32 (x : Nat)] 35)) w3.heap.size #[.int .u32 (x : Nat)] 35) := CellsAt.new _ _ _
      have HS := Lib.hid (Src.block (P := Tryz.prog) (t2 := 36) (size := 1) (m := 1) (c := 1) Tryz.underlying36 HCB.out rfl (by simp [Value.oneCell']))
      have HOa := Lib.hid (HOW3.out.alloc (.cells #[.int .u32 (x : Nat)] 35))
      have HBS : Hid (w.heap.size + 1 ≤ (w3.alloc (.cells #[.int .u32 (x : Nat)] 35)).heap.size) := by show _ ≤ _; simp; omega
      have HM : Hid (k + 1 ≤ maxLen) := by show _ ≤ _; unfold maxLen; omega
      have HY : Hid ((k + 1) * 4 ≤ 140737488355328) := by show _ ≤ _; omega
      have HOB : Hid (OwnM (w3.alloc (.cells #[.int .u32 (x : Nat)] 35)) (w.heap.size + 1) 35 1 (.slice A k cK) k ((oneN 4 (fun s => hd s 4) k s).flatMap u1)) := by
        have h := HOa.out
        unfold OwnL at h
        rwa [oneN_len] at h
      have HRa : Hid (RdAt (w3.alloc (.cells #[.int .u32 (x : Nat)] 35)) w.heap.size (nx t 4)) := (Below.heap_alloc _ _ _ HR3.out.lt).trans HR3.out
      have HBa : Hid (Below w.heap.size w (w3.alloc (.cells #[.int .u32 (x : Nat)] 35))) := HBB3.out.alloc (by omega) _
      go_wp2_with (at_builtin; refine wpList_append_m rfl (.tmp 27) (.tmp 31) 36 36 rfl (w.heap.size + 1) 35 i0 _ 1 4 Tryz.underlying36 HI.out HZ0.out HZ1.out HZ2.out rfl (by decide) (.slice A k cK) k ((oneN 4 (fun s => hd s 4) k s).flatMap u1) rfl HOB.out _ 1 _ rfl HS.out HM.out HY.out HBS.out ?_)
      intro v' w5 hown hgr hat
      obtain ⟨A6, c6, rfl⟩ := hown.form
      have hob : ∀ q, (Value.slice A k cK).ownBlock = some q → w.heap.size + 1 ≤ q := fun q hq => (OwnM.lt HOB.out q hq).1
      have HN5 : Hid (OwnL w5 (w.heap.size + 1) 35 1 u1 (.slice A6 (k + 1) c6) (oneN 4 (fun s => hd s 4) (k + 1) s)) := by
        show OwnL _ _ _ _ _ _ _
        rw [HAS.out]
        refine OwnL.snoc ?_
        rw [oneN_len]
        exact hown
      have HR5 : Hid (RdAt w5 w.heap.size (nxN 4 (k + 1) s)) := by
        show RdAt _ _ _
        rw [HNX.out]
        exact (hgr.block _ HRa.out.lt (fun e => by have := hob _ e.symm; omega)).trans HRa.out
      have HBB5 : Hid (Below w.heap.size w w5) := HBa.out.grown hgr (by simp; omega) (fun q hq => by have := hob _ hq; omega)
      clear hown hgr hat hob HOB HOa HRa HBa
      go_wp2_with fail
      refine ⟨⟨k + 1, A6, c6, rfl, by omega, HR5.out, HN5.out, HBB5.out⟩, ?_⟩
      show mRd _ _ < mRd _ _
      rw [mRd_at HR5.out, HMEAS.out, HNX.out, HSZ.out]
      omega
    · have hke : s.size / 4 = k := by have := HB1.out; omega
      have ht0 : ¬ (4 : Int) ≤ (t.size : Int) := by omega
      have HOWk := HOW
      rw [← hke] at HOWk
      have HKS : Hid (k ≤ 140737488351232) := by show k ≤ _; omega
      have HL1 : Hid ((srt ltN (oneN 4 (fun s => hd s 4) (s.size / 4) s)).length = k) := by show _ = _; rw [srt_len, oneN_len, hke]
      have HLD : Hid ((dd (srt ltN (oneN 4 (fun s => hd s 4) (s.size / 4) s))).length ≤ k) := by have := dd_len (srt ltN (oneN 4 (fun s => hd s 4) (s.size / 4) s)); have h2 := HL1.out; show _ ≤ _; omega
      have HOL : Hid (∃ L, L = oneN 4 (fun s => hd s 4) (s.size / 4) s ∧ L.length = k ∧ OwnL w2 (w.heap.size + 1) 35 1 u1 (.slice A k cK) L) := ⟨_, rfl, by rw [oneN_len]; exact hke, by rw [hke]; exact HOW.out⟩
      clear HOWk HOW hke HAS HNX HMR HR
      obtain ⟨L, hLe, hLk, hLo⟩ := HOL.out
      rw [← hLe] at HTL HTS HL1 HLD
      have HLO := Lib.hid hLo
      have HLK := Lib.hid hLk
      clear hLe hLk hLo HOL
      go_wp2_with fail
      refine (HSO.out _ (w.heap.size + 1) (.slice A k cK) L HLO.out (by rw [HLK.out]; have := HKS.out; omega)).mono ?_
      rintro e w6 ⟨rfl, ho6, hg6⟩
      have HO6 := Lib.hid ho6
      have HB6 : Hid (Below w.heap.size w w6) := OwnM.below_grown HLO.out hg6 HBB.out (by have := HBB.out.size; exact this) (by omega)
      clear ho6 hg6 HBB HLO
      go_wp2_with fail
      refine (HCU.out _ (w.heap.size + 1) (.slice A k cK) (srt ltN L) HO6.out (by rw [HL1.out]; have := HKS.out; omega)).mono ?_
      rintro e w7 ⟨v7, rfl, ho7, hg7, hv7⟩
      have HB7 : Hid (Below w.heap.size w w7) := OwnM.below_grown HO6.out hg7 HB6.out (by have := HB6.out.size; exact this) (by omega)
      obtain ⟨A7, c7, rfl⟩ := ho7.form
      have HO7 := Lib.hid ho7
      clear ho7 hg7 hv7 HB6 HO6
      by_cases h64 : 64 < (dd (srt ltN L)).length
      · have HRN := Lib.hid (HTL.out h64)
        obtain ⟨m, hmm⟩ : ∃ m, m = (dd (srt ltN L)).length := ⟨_, rfl⟩
        rw [← hmm] at h64 ⊢
        have h64' : (64 : Int) < (m : Int) := by omega
        clear HTL HTS HLD HO7 hmm
        go_wp2_with fail
        go_ret2
        refine ⟨?_, HB7.out⟩
        rw [HRN.out]
        exact ⟨3, rfl, .inl rfl⟩
      · have HRN := Lib.hid (HTS.out h64)
        have HOF : Hid (RES = some (dd (srt ltN L)) ∧ OwnL w7 (w.heap.size + 1) 35 1 u1 (.slice A7 (dd (srt ltN L)).length c7) (dd (srt ltN L))) := ⟨HRN.out, HO7.out⟩
        clear HTL HTS HLD HRN HO7
        generalize dd (srt ltN L) = D at h64 HOF ⊢
        obtain ⟨m, hmm⟩ : ∃ m, m = D.length := ⟨_, rfl⟩
        rw [← hmm] at h64 HOF ⊢
        have h64' : ¬ (64 : Int) < (m : Int) := by omega
        clear hmm
        go_wp2_with fail
        go_ret2
        refine ⟨?_, HB7.out⟩
        rw [HOF.out.1]
        exact ⟨_, rfl, HOF.out.2⟩
set_option maxRecDepth 100000 in
set_option maxHeartbeats 16000000 in
theorem cread_u64 (s : ByteArray) (w : World) (hm : (s.size : Int) ≤ 140737488351232) :
    Calls Tryz.prog 114 #[.string s, .int .i64 8, .func (.func 59) #[] #[], .func (.func 115) #[] #[]] w fun e w' => RcPost (w.heap.size + 1) 57 1 x1 (readC 8 (fun s => hd s 8) ltN s) w' e ∧ Below w.heap.size w w' := by
  have HNEW := Lib.hid new_any
  have HLE := Lib.hid left_any
  have HON : Hid (∀ (b : Nat) (t : ByteArray) (W : World), RdAt W b t → 8 ≤ t.size → (t.size : Int) ≤ 140737488351232 → Calls Tryz.prog 115 #[.pointer (some ⟨b, 0, none⟩)] W fun e w' => e = .returned (.int .u64 (hd t 8 : Nat)) ∧ RdAt w' b (nx t 8) ∧ W.grownBy w' (some b)) := fun b t W h1 h2 h3 => one8 b t W h1 h2 h3
  have HSO := Lib.hid sort_u64
  have HCU := Lib.hid cut_u64
  obtain ⟨i0, hi, hz0, hz1, hz2⟩ := info_parts infoU64
  have HI := Lib.hid hi
  have HZ0 := Lib.hid hz0
  have HZ1 := Lib.hid hz1
  have HZ2 := Lib.hid hz2
  have z0 := bytes_none s
  obtain ⟨q0, hq0⟩ : ∃ q, q = (s.size == 0) := ⟨_, rfl⟩
  rw [← hq0] at z0
  clear hi hz0 hz1 hz2
  by_cases hb0 : s.size = 0
  · have HT : Hid (readC 8 (fun s => hd s 8) ltN s = none) := readC_none (.inl hb0)
    obtain rfl : q0 = true := by rw [hq0, hb0]; rfl
    clear hq0 hb0
    go_enter Tryz.func114, Tryz.ntmps114
    go_wp2_with fail
    go_ret2
    refine ⟨?_, Below.refl _ _⟩
    rw [HT.out]
    exact ⟨4, rfl, .inr rfl⟩
  obtain rfl : q0 = false := by rw [hq0]; exact beq_eq_false_iff_ne.2 hb0
  clear hq0
  by_cases hb1 : s.size % 8 = 0
  case neg =>
    have HT : Hid (readC 8 (fun s => hd s 8) ltN s = none) := readC_none (.inr hb1)
    have z1 : ((s.size : Int) % 8 != 0) = true := bne_iff_ne.2 (by omega)
    have z1' : ((s.size : Int) % 8 == 0) = false := beq_eq_false_iff_ne.2 (by omega)
    have z2 : ((s.size : Int).tmod 8 != 0) = true := by rw [Int.tmod_eq_emod_of_nonneg (by omega)]; exact z1
    have z2' : ((s.size : Int).tmod 8 == 0) = false := by rw [Int.tmod_eq_emod_of_nonneg (by omega)]; exact z1'
    clear hb1
    go_enter Tryz.func114, Tryz.ntmps114
    go_wp2_with fail
    go_ret2
    refine ⟨?_, Below.refl _ _⟩
    rw [HT.out]
    exact ⟨4, rfl, .inr rfl⟩
  have z1 : ((s.size : Int) % 8 != 0) = false := by
    have : (s.size : Int) % 8 = 0 := by omega
    rw [this]
    rfl
  have z1' : ((s.size : Int) % 8 == 0) = true := beq_iff_eq.2 (by omega)
  have z2 : ((s.size : Int).tmod 8 != 0) = false := by rw [Int.tmod_eq_emod_of_nonneg (by omega)]; exact z1
  have z2' : ((s.size : Int).tmod 8 == 0) = true := by rw [Int.tmod_eq_emod_of_nonneg (by omega)]; exact z1'
  have HB0 := Lib.hid hb0
  have HB1 := Lib.hid hb1
  have HTL : Hid (64 < (dd (srt ltN (oneN 8 (fun s => hd s 8) (s.size / 8) s))).length → readC 8 (fun s => hd s 8) ltN s = none) := fun h => readC_long hb0 hb1 h
  have HTS : Hid (¬ 64 < (dd (srt ltN (oneN 8 (fun s => hd s 8) (s.size / 8) s))).length → readC 8 (fun s => hd s 8) ltN s = some (dd (srt ltN (oneN 8 (fun s => hd s 8) (s.size / 8) s)))) := fun h => readC_some hb0 hb1 h
  generalize readC 8 (fun s => hd s 8) ltN s = RES at HTL HTS ⊢
  clear hb1 hb0
  go_enter Tryz.func114, Tryz.ntmps114
  go_wp2_with fail
  refine (HNEW.out s w).mono ?_
  rintro e w1 ⟨rfl, hw1⟩
  have HR1 : Hid (RdAt w1 w.heap.size s) := by
    show RdAt _ _ _
    rw [hw1]
    exact heap_alloc_new w _
  have HBL1 : Hid (Below w.heap.size w w1) := by
    rw [hw1]
    exact (Below.refl _ _).alloc (Nat.le_refl _) _
  clear hw1
  go_wp2_with fail
  go_loopw [11] (fun ov wr => ∃ (k : Nat) (A : Option Addr) (cK : Nat), ov = .slice A k cK ∧ k * 8 ≤ s.size ∧ Hid (RdAt wr w.heap.size (nxN 8 k s)) ∧ Hid (OwnL wr (w.heap.size + 1) 57 1 x1 (.slice A k cK) (oneN 8 (fun s => hd s 8) k s)) ∧ Hid (Below w.heap.size w wr)) (fun _x wr => mRd wr w.heap.size)
  case atStart => exact ⟨0, none, 0, rfl, by omega, HR1.out, OwnL.nil _ _ _ _ _, HBL1.out⟩
  case round =>
    clear HR1 HBL1
    obtain ⟨k, A, cK, rfl, hk, HR, HOW, HBB⟩ := hrel
    have hrl := HR.out.lt
    have hts : (nxN 8 k s).size = s.size - k * 8 := nxN_size 8 k s
    have HNX := Lib.hid (nxN_succ 8 k s)
    have HAS := Lib.hid (oneN_succ 8 (fun s => hd s 8) k s)
    have HMR := Lib.hid (mRd_at HR.out)
    obtain ⟨t, ht⟩ : ∃ t, t = nxN 8 k s := ⟨_, rfl⟩
    rw [← ht] at HR hts HNX HAS HMR
    clear ht
    go_wp2_with fail
    refine (HLE.out w.heap.size t _ HR.out).mono ?_
    rintro e w2 ⟨rfl, rfl⟩
    by_cases hlt : k * 8 < s.size
    · have h4 : 8 ≤ t.size := by have := HB1.out; omega
      have h0 : (8 : Int) ≤ (t.size : Int) := by omega
      go_wp2_with fail
      refine (HON.out w.heap.size t _ HR.out h4 (by omega)).mono ?_
      rintro e w3 ⟨rfl, hr3, hg3⟩
      have HR3 : Hid (RdAt w3 w.heap.size (nx t 8)) := hr3
      have HOW3 : Hid (OwnL w3 (w.heap.size + 1) 57 1 x1 (.slice A k cK) (oneN 8 (fun s => hd s 8) k s)) := HOW.out.off hg3 (show CellsAt w2 w.heap.size #[.bool true, .string t] 110 from HR.out) (by decide)
      have HBB3 : Hid (Below w.heap.size w w3) := HBB.out.grown hg3 (by have := HBB.out.size; omega) (fun q hq => by cases hq; exact Nat.le_refl _)
      have hrl3 : w.heap.size < w3.heap.size := Nat.lt_of_lt_of_le hrl hg3.size
      have HSZ : Hid ((nx t 8).size = t.size - 8) := nx_size t 8
      have HMEAS : Hid (mRd w2 w.heap.size = t.size) := HMR.out
      obtain ⟨x, hx⟩ : ∃ x, x = hd t 8 := ⟨_, rfl⟩
      rw [← hx] at HAS ⊢
      clear hr3 hg3 hx HR HOW HBB HMR
      have HCB : Hid (CellsAt (w3.alloc (.cells #[.int .u64 (x : Nat)] 57)) w3.heap.size #[.int .u64 (x : Nat)] 57) := CellsAt.new _ _ _
      have HS := Lib.hid (Src.block (P := Tryz.prog) (t2 := 37) (size := 1) (m := 1) (c := 1) Tryz.underlying37 HCB.out rfl (by simp [Value.oneCell']))
      have HOa := Lib.hid (HOW3.out.alloc (.cells #[.int .u64 (x : Nat)] 57))
      have HBS : Hid (w.heap.size + 1 ≤ (w3.alloc (.cells #[.int .u64 (x : Nat)] 57)).heap.size) := by show _ ≤ _; simp; omega
      have HM : Hid (k + 1 ≤ maxLen) := by show _ ≤ _; unfold maxLen; omega
      have HY : Hid ((k + 1) * 8 ≤ 140737488355328) := by show _ ≤ _; omega
      have HOB : Hid (OwnM (w3.alloc (.cells #[.int .u64 (x : Nat)] 57)) (w.heap.size + 1) 57 1 (.slice A k cK) k ((oneN 8 (fun s => hd s 8) k s).flatMap x1)) := by
        have h := HOa.out
        unfold OwnL at h
        rwa [oneN_len] at h
      have HRa : Hid (RdAt (w3.alloc (.cells #[.int .u64 (x : Nat)] 57)) w.heap.size (nx t 8)) := (Below.heap_alloc _ _ _ HR3.out.lt).trans HR3.out
      have HBa : Hid (Below w.heap.size w (w3.alloc (.cells #[.int .u64 (x : Nat)] 57))) := HBB3.out.alloc (by omega) _
      go_wp2_with (at_builtin; refine wpList_append_m rfl (.tmp 27) (.tmp 31) 37 37 rfl (w.heap.size + 1) 57 i0 _ 1 8 Tryz.underlying37 HI.out HZ0.out HZ1.out HZ2.out rfl (by decide) (.slice A k cK) k ((oneN 8 (fun s => hd s 8) k s).flatMap x1) rfl HOB.out _ 1 _ rfl HS.out HM.out HY.out HBS.out ?_)
      intro v' w5 hown hgr hat
      obtain ⟨A6, c6, rfl⟩ := hown.form
      have hob : ∀ q, (Value.slice A k cK).ownBlock = some q → w.heap.size + 1 ≤ q := fun q hq => (OwnM.lt HOB.out q hq).1
      have HN5 : Hid (OwnL w5 (w.heap.size + 1) 57 1 x1 (.slice A6 (k + 1) c6) (oneN 8 (fun s => hd s 8) (k + 1) s)) := by
        show OwnL _ _ _ _ _ _ _
        rw [HAS.out]
        refine OwnL.snoc ?_
        rw [oneN_len]
        exact hown
      have HR5 : Hid (RdAt w5 w.heap.size (nxN 8 (k + 1) s)) := by
        show RdAt _ _ _
        rw [HNX.out]
        exact (hgr.block _ HRa.out.lt (fun e => by have := hob _ e.symm; omega)).trans HRa.out
      have HBB5 : Hid (Below w.heap.size w w5) := HBa.out.grown hgr (by simp; omega) (fun q hq => by have := hob _ hq; omega)
      clear hown hgr hat hob HOB HOa HRa HBa
      go_wp2_with fail
      refine ⟨⟨k + 1, A6, c6, rfl, by omega, HR5.out, HN5.out, HBB5.out⟩, ?_⟩
      show mRd _ _ < mRd _ _
      rw [mRd_at HR5.out, HMEAS.out, HNX.out, HSZ.out]
      omega
    · have hke : s.size / 8 = k := by have := HB1.out; omega
      have ht0 : ¬ (8 : Int) ≤ (t.size : Int) := by omega
      have HOWk := HOW
      rw [← hke] at HOWk
      have HKS : Hid (k ≤ 140737488351232) := by show k ≤ _; omega
      have HL1 : Hid ((srt ltN (oneN 8 (fun s => hd s 8) (s.size / 8) s)).length = k) := by show _ = _; rw [srt_len, oneN_len, hke]
      have HLD : Hid ((dd (srt ltN (oneN 8 (fun s => hd s 8) (s.size / 8) s))).length ≤ k) := by have := dd_len (srt ltN (oneN 8 (fun s => hd s 8) (s.size / 8) s)); have h2 := HL1.out; show _ ≤ _; omega
      have HOL : Hid (∃ L, L = oneN 8 (fun s => hd s 8) (s.size / 8) s ∧ L.length = k ∧ OwnL w2 (w.heap.size + 1) 57 1 x1 (.slice A k cK) L) := ⟨_, rfl, by rw [oneN_len]; exact hke, by rw [hke]; exact HOW.out⟩
      clear HOWk HOW hke HAS HNX HMR HR
      obtain ⟨L, hLe, hLk, hLo⟩ := HOL.out
      rw [← hLe] at HTL HTS HL1 HLD
      have HLO := Lib.hid hLo
      have HLK := Lib.hid hLk
      clear hLe hLk hLo HOL
      go_wp2_with fail
      refine (HSO.out _ (w.heap.size + 1) (.slice A k cK) L HLO.out (by rw [HLK.out]; have := HKS.out; omega)).mono ?_
      rintro e w6 ⟨rfl, ho6, hg6⟩
      have HO6 := Lib.hid ho6
      have HB6 : Hid (Below w.heap.size w w6) := OwnM.below_grown HLO.out hg6 HBB.out (by have := HBB.out.size; exact this) (by omega)
      clear ho6 hg6 HBB HLO
      go_wp2_with fail
      refine (HCU.out _ (w.heap.size + 1) (.slice A k cK) (srt ltN L) HO6.out (by rw [HL1.out]; have := HKS.out; omega)).mono ?_
      rintro e w7 ⟨v7, rfl, ho7, hg7, hv7⟩
      have HB7 : Hid (Below w.heap.size w w7) := OwnM.below_grown HO6.out hg7 HB6.out (by have := HB6.out.size; exact this) (by omega)
      obtain ⟨A7, c7, rfl⟩ := ho7.form
      have HO7 := Lib.hid ho7
      clear ho7 hg7 hv7 HB6 HO6
      by_cases h64 : 64 < (dd (srt ltN L)).length
      · have HRN := Lib.hid (HTL.out h64)
        obtain ⟨m, hmm⟩ : ∃ m, m = (dd (srt ltN L)).length := ⟨_, rfl⟩
        rw [← hmm] at h64 ⊢
        have h64' : (64 : Int) < (m : Int) := by omega
        clear HTL HTS HLD HO7 hmm
        go_wp2_with fail
        go_ret2
        refine ⟨?_, HB7.out⟩
        rw [HRN.out]
        exact ⟨3, rfl, .inl rfl⟩
      · have HRN := Lib.hid (HTS.out h64)
        have HOF : Hid (RES = some (dd (srt ltN L)) ∧ OwnL w7 (w.heap.size + 1) 57 1 x1 (.slice A7 (dd (srt ltN L)).length c7) (dd (srt ltN L))) := ⟨HRN.out, HO7.out⟩
        clear HTL HTS HLD HRN HO7
        generalize dd (srt ltN L) = D at h64 HOF ⊢
        obtain ⟨m, hmm⟩ : ∃ m, m = D.length := ⟨_, rfl⟩
        rw [← hmm] at h64 HOF ⊢
        have h64' : ¬ (64 : Int) < (m : Int) := by omega
        clear hmm
        go_wp2_with fail
        go_ret2
        refine ⟨?_, HB7.out⟩
        rw [HOF.out.1]
        exact ⟨_, rfl, HOF.out.2⟩
set_option maxRecDepth 100000 in
set_option maxHeartbeats 16000000 in
theorem cread_L (s : ByteArray) (w : World) (hm : (s.size : Int) ≤ 140737488351232) :
    Calls Tryz.prog 116 #[.string s, .int .i64 12, .func (.func 104) #[] #[], .func (.func 117) #[] #[]] w fun e w' => RcPost (w.heap.size + 1) 59 3 Lg.cs (readC 12 lg12 ltL s) w' e ∧ Below w.heap.size w w' := by
  have HNEW := Lib.hid new_any
  have HLE := Lib.hid left_any
  have HON : Hid (∀ (b : Nat) (t : ByteArray) (W : World), RdAt W b t → 12 ≤ t.size → (t.size : Int) ≤ 140737488351232 → Calls Tryz.prog 117 #[.pointer (some ⟨b, 0, none⟩)] W fun e w' => e = .returned (.agg #[.int .u32 ((lg12 t).g : Nat), .int .u32 ((lg12 t).a : Nat), .int .u32 ((lg12 t).b : Nat)]) ∧ RdAt w' b (nx t 12) ∧ W.grownBy w' (some b)) := fun b t W h1 h2 h3 => one12 b t W h1 h2 h3
  have HSO := Lib.hid sort_L
  have HCU := Lib.hid cut_L
  obtain ⟨i0, hi, hz0, hz1, hz2⟩ := info_parts infoLg
  have HI := Lib.hid hi
  have HZ0 := Lib.hid hz0
  have HZ1 := Lib.hid hz1
  have HZ2 := Lib.hid hz2
  have z0 := bytes_none s
  obtain ⟨q0, hq0⟩ : ∃ q, q = (s.size == 0) := ⟨_, rfl⟩
  rw [← hq0] at z0
  clear hi hz0 hz1 hz2
  by_cases hb0 : s.size = 0
  · have HT : Hid (readC 12 lg12 ltL s = none) := readC_none (.inl hb0)
    obtain rfl : q0 = true := by rw [hq0, hb0]; rfl
    clear hq0 hb0
    go_enter Tryz.func116, Tryz.ntmps116
    go_wp2_with fail
    go_ret2
    refine ⟨?_, Below.refl _ _⟩
    rw [HT.out]
    exact ⟨4, rfl, .inr rfl⟩
  obtain rfl : q0 = false := by rw [hq0]; exact beq_eq_false_iff_ne.2 hb0
  clear hq0
  by_cases hb1 : s.size % 12 = 0
  case neg =>
    have HT : Hid (readC 12 lg12 ltL s = none) := readC_none (.inr hb1)
    have z1 : ((s.size : Int) % 12 != 0) = true := bne_iff_ne.2 (by omega)
    have z1' : ((s.size : Int) % 12 == 0) = false := beq_eq_false_iff_ne.2 (by omega)
    have z2 : ((s.size : Int).tmod 12 != 0) = true := by rw [Int.tmod_eq_emod_of_nonneg (by omega)]; exact z1
    have z2' : ((s.size : Int).tmod 12 == 0) = false := by rw [Int.tmod_eq_emod_of_nonneg (by omega)]; exact z1'
    clear hb1
    go_enter Tryz.func116, Tryz.ntmps116
    go_wp2_with fail
    go_ret2
    refine ⟨?_, Below.refl _ _⟩
    rw [HT.out]
    exact ⟨4, rfl, .inr rfl⟩
  have z1 : ((s.size : Int) % 12 != 0) = false := by
    have : (s.size : Int) % 12 = 0 := by omega
    rw [this]
    rfl
  have z1' : ((s.size : Int) % 12 == 0) = true := beq_iff_eq.2 (by omega)
  have z2 : ((s.size : Int).tmod 12 != 0) = false := by rw [Int.tmod_eq_emod_of_nonneg (by omega)]; exact z1
  have z2' : ((s.size : Int).tmod 12 == 0) = true := by rw [Int.tmod_eq_emod_of_nonneg (by omega)]; exact z1'
  have HB0 := Lib.hid hb0
  have HB1 := Lib.hid hb1
  have HTL : Hid (64 < (dd (srt ltL (oneN 12 lg12 (s.size / 12) s))).length → readC 12 lg12 ltL s = none) := fun h => readC_long hb0 hb1 h
  have HTS : Hid (¬ 64 < (dd (srt ltL (oneN 12 lg12 (s.size / 12) s))).length → readC 12 lg12 ltL s = some (dd (srt ltL (oneN 12 lg12 (s.size / 12) s)))) := fun h => readC_some hb0 hb1 h
  generalize readC 12 lg12 ltL s = RES at HTL HTS ⊢
  clear hb1 hb0
  go_enter Tryz.func116, Tryz.ntmps116
  go_wp2_with fail
  refine (HNEW.out s w).mono ?_
  rintro e w1 ⟨rfl, hw1⟩
  have HR1 : Hid (RdAt w1 w.heap.size s) := by
    show RdAt _ _ _
    rw [hw1]
    exact heap_alloc_new w _
  have HBL1 : Hid (Below w.heap.size w w1) := by
    rw [hw1]
    exact (Below.refl _ _).alloc (Nat.le_refl _) _
  clear hw1
  go_wp2_with fail
  go_loopw [11] (fun ov wr => ∃ (k : Nat) (A : Option Addr) (cK : Nat), ov = .slice A k cK ∧ k * 12 ≤ s.size ∧ Hid (RdAt wr w.heap.size (nxN 12 k s)) ∧ Hid (OwnL wr (w.heap.size + 1) 59 3 Lg.cs (.slice A k cK) (oneN 12 lg12 k s)) ∧ Hid (Below w.heap.size w wr)) (fun _x wr => mRd wr w.heap.size)
  case atStart => exact ⟨0, none, 0, rfl, by omega, HR1.out, OwnL.nil _ _ _ _ _, HBL1.out⟩
  case round =>
    clear HR1 HBL1
    obtain ⟨k, A, cK, rfl, hk, HR, HOW, HBB⟩ := hrel
    have hrl := HR.out.lt
    have hts : (nxN 12 k s).size = s.size - k * 12 := nxN_size 12 k s
    have HNX := Lib.hid (nxN_succ 12 k s)
    have HAS := Lib.hid (oneN_succ 12 lg12 k s)
    have HMR := Lib.hid (mRd_at HR.out)
    obtain ⟨t, ht⟩ : ∃ t, t = nxN 12 k s := ⟨_, rfl⟩
    rw [← ht] at HR hts HNX HAS HMR
    clear ht
    go_wp2_with fail
    refine (HLE.out w.heap.size t _ HR.out).mono ?_
    rintro e w2 ⟨rfl, rfl⟩
    by_cases hlt : k * 12 < s.size
    · have h4 : 12 ≤ t.size := by have := HB1.out; omega
      have h0 : (12 : Int) ≤ (t.size : Int) := by omega
      go_wp2_with fail
      refine (HON.out w.heap.size t _ HR.out h4 (by omega)).mono ?_
      rintro e w3 ⟨rfl, hr3, hg3⟩
      have HR3 : Hid (RdAt w3 w.heap.size (nx t 12)) := hr3
      have HOW3 : Hid (OwnL w3 (w.heap.size + 1) 59 3 Lg.cs (.slice A k cK) (oneN 12 lg12 k s)) := HOW.out.off hg3 (show CellsAt w2 w.heap.size #[.bool true, .string t] 110 from HR.out) (by decide)
      have HBB3 : Hid (Below w.heap.size w w3) := HBB.out.grown hg3 (by have := HBB.out.size; omega) (fun q hq => by cases hq; exact Nat.le_refl _)
      have hrl3 : w.heap.size < w3.heap.size := Nat.lt_of_lt_of_le hrl hg3.size
      have HSZ : Hid ((nx t 12).size = t.size - 12) := nx_size t 12
      have HMEAS : Hid (mRd w2 w.heap.size = t.size) := HMR.out
      obtain ⟨x, hx⟩ : ∃ x, x = lg12 t := ⟨_, rfl⟩
      rw [← hx] at HAS ⊢
      clear hr3 hg3 hx HR HOW HBB HMR
      have HCB : Hid (CellsAt (w3.alloc (.cells #[.int .u32 (x.g : Nat), .int .u32 (x.a : Nat), .int .u32 (x.b : Nat)] 59)) w3.heap.size #[.int .u32 (x.g : Nat), .int .u32 (x.a : Nat), .int .u32 (x.b : Nat)] 59) := CellsAt.new _ _ _
      have HS := Lib.hid (Src.block (P := Tryz.prog) (t2 := 38) (size := 3) (m := 1) (c := 1) Tryz.underlying38 HCB.out rfl (by simp [Value.oneCell']))
      have HOa := Lib.hid (HOW3.out.alloc (.cells #[.int .u32 (x.g : Nat), .int .u32 (x.a : Nat), .int .u32 (x.b : Nat)] 59))
      have HBS : Hid (w.heap.size + 1 ≤ (w3.alloc (.cells #[.int .u32 (x.g : Nat), .int .u32 (x.a : Nat), .int .u32 (x.b : Nat)] 59)).heap.size) := by show _ ≤ _; simp; omega
      have HM : Hid (k + 1 ≤ maxLen) := by show _ ≤ _; unfold maxLen; omega
      have HY : Hid ((k + 1) * 12 ≤ 140737488355328) := by show _ ≤ _; omega
      have HOB : Hid (OwnM (w3.alloc (.cells #[.int .u32 (x.g : Nat), .int .u32 (x.a : Nat), .int .u32 (x.b : Nat)] 59)) (w.heap.size + 1) 59 3 (.slice A k cK) k ((oneN 12 lg12 k s).flatMap Lg.cs)) := by
        have h := HOa.out
        unfold OwnL at h
        rwa [oneN_len] at h
      have HRa : Hid (RdAt (w3.alloc (.cells #[.int .u32 (x.g : Nat), .int .u32 (x.a : Nat), .int .u32 (x.b : Nat)] 59)) w.heap.size (nx t 12)) := (Below.heap_alloc _ _ _ HR3.out.lt).trans HR3.out
      have HBa : Hid (Below w.heap.size w (w3.alloc (.cells #[.int .u32 (x.g : Nat), .int .u32 (x.a : Nat), .int .u32 (x.b : Nat)] 59))) := HBB3.out.alloc (by omega) _
      go_wp2_with (at_builtin; refine wpList_append_m rfl (.tmp 27) (.tmp 31) 38 38 rfl (w.heap.size + 1) 59 i0 _ 3 12 Tryz.underlying38 HI.out HZ0.out HZ1.out HZ2.out rfl (by decide) (.slice A k cK) k ((oneN 12 lg12 k s).flatMap Lg.cs) rfl HOB.out _ 1 _ rfl HS.out HM.out HY.out HBS.out ?_)
      intro v' w5 hown hgr hat
      obtain ⟨A6, c6, rfl⟩ := hown.form
      have hob : ∀ q, (Value.slice A k cK).ownBlock = some q → w.heap.size + 1 ≤ q := fun q hq => (OwnM.lt HOB.out q hq).1
      have HN5 : Hid (OwnL w5 (w.heap.size + 1) 59 3 Lg.cs (.slice A6 (k + 1) c6) (oneN 12 lg12 (k + 1) s)) := by
        show OwnL _ _ _ _ _ _ _
        rw [HAS.out]
        refine OwnL.snoc ?_
        rw [oneN_len]
        exact hown
      have HR5 : Hid (RdAt w5 w.heap.size (nxN 12 (k + 1) s)) := by
        show RdAt _ _ _
        rw [HNX.out]
        exact (hgr.block _ HRa.out.lt (fun e => by have := hob _ e.symm; omega)).trans HRa.out
      have HBB5 : Hid (Below w.heap.size w w5) := HBa.out.grown hgr (by simp; omega) (fun q hq => by have := hob _ hq; omega)
      clear hown hgr hat hob HOB HOa HRa HBa
      go_wp2_with fail
      refine ⟨⟨k + 1, A6, c6, rfl, by omega, HR5.out, HN5.out, HBB5.out⟩, ?_⟩
      show mRd _ _ < mRd _ _
      rw [mRd_at HR5.out, HMEAS.out, HNX.out, HSZ.out]
      omega
    · have hke : s.size / 12 = k := by have := HB1.out; omega
      have ht0 : ¬ (12 : Int) ≤ (t.size : Int) := by omega
      have HOWk := HOW
      rw [← hke] at HOWk
      have HKS : Hid (k ≤ 140737488351232) := by show k ≤ _; omega
      have HL1 : Hid ((srt ltL (oneN 12 lg12 (s.size / 12) s)).length = k) := by show _ = _; rw [srt_len, oneN_len, hke]
      have HLD : Hid ((dd (srt ltL (oneN 12 lg12 (s.size / 12) s))).length ≤ k) := by have := dd_len (srt ltL (oneN 12 lg12 (s.size / 12) s)); have h2 := HL1.out; show _ ≤ _; omega
      have HOL : Hid (∃ L, L = oneN 12 lg12 (s.size / 12) s ∧ L.length = k ∧ OwnL w2 (w.heap.size + 1) 59 3 Lg.cs (.slice A k cK) L) := ⟨_, rfl, by rw [oneN_len]; exact hke, by rw [hke]; exact HOW.out⟩
      clear HOWk HOW hke HAS HNX HMR HR
      obtain ⟨L, hLe, hLk, hLo⟩ := HOL.out
      rw [← hLe] at HTL HTS HL1 HLD
      have HLO := Lib.hid hLo
      have HLK := Lib.hid hLk
      clear hLe hLk hLo HOL
      go_wp2_with fail
      refine (HSO.out _ (w.heap.size + 1) (.slice A k cK) L HLO.out (by rw [HLK.out]; have := HKS.out; omega)).mono ?_
      rintro e w6 ⟨rfl, ho6, hg6⟩
      have HO6 := Lib.hid ho6
      have HB6 : Hid (Below w.heap.size w w6) := OwnM.below_grown HLO.out hg6 HBB.out (by have := HBB.out.size; exact this) (by omega)
      clear ho6 hg6 HBB HLO
      go_wp2_with fail
      refine (HCU.out _ (w.heap.size + 1) (.slice A k cK) (srt ltL L) HO6.out (by rw [HL1.out]; have := HKS.out; omega)).mono ?_
      rintro e w7 ⟨v7, rfl, ho7, hg7, hv7⟩
      have HB7 : Hid (Below w.heap.size w w7) := OwnM.below_grown HO6.out hg7 HB6.out (by have := HB6.out.size; exact this) (by omega)
      obtain ⟨A7, c7, rfl⟩ := ho7.form
      have HO7 := Lib.hid ho7
      clear ho7 hg7 hv7 HB6 HO6
      by_cases h64 : 64 < (dd (srt ltL L)).length
      · have HRN := Lib.hid (HTL.out h64)
        obtain ⟨m, hmm⟩ : ∃ m, m = (dd (srt ltL L)).length := ⟨_, rfl⟩
        rw [← hmm] at h64 ⊢
        have h64' : (64 : Int) < (m : Int) := by omega
        clear HTL HTS HLD HO7 hmm
        go_wp2_with fail
        go_ret2
        refine ⟨?_, HB7.out⟩
        rw [HRN.out]
        exact ⟨3, rfl, .inl rfl⟩
      · have HRN := Lib.hid (HTS.out h64)
        have HOF : Hid (RES = some (dd (srt ltL L)) ∧ OwnL w7 (w.heap.size + 1) 59 3 Lg.cs (.slice A7 (dd (srt ltL L)).length c7) (dd (srt ltL L))) := ⟨HRN.out, HO7.out⟩
        clear HTL HTS HLD HRN HO7
        generalize dd (srt ltL L) = D at h64 HOF ⊢
        obtain ⟨m, hmm⟩ : ∃ m, m = D.length := ⟨_, rfl⟩
        rw [← hmm] at h64 HOF ⊢
        have h64' : ¬ (64 : Int) < (m : Int) := by omega
        clear hmm
        go_wp2_with fail
        go_ret2
        refine ⟨?_, HB7.out⟩
        rw [HOF.out.1]
        exact ⟨_, rfl, HOF.out.2⟩
end Go.Proofs.YtkcojblflebomaaGreat
set_option linter.unusedVariables false
set_option linter.unusedSimpArgs false
namespace Go.Proofs.YtkcojblflebomaaGreat
open Go.RowKit Go.MapKept Go.Shelf
open Go.Lib hiding intOf

theorem wpList_store_verdict {ops : Array Oper} {rest : List Oper} {op : Oper} {a : Act} {w : World} {Q : Exit → Act → World → Prop} (hgd : op.guard = none) (x y : Operand) (ho : op.op = .store 42 x y) (b : Nat) (hx : a.eval x = .pointer (some ⟨b, 0, none⟩)) (p : Vd) (hy : a.eval y = .agg #[.int .i64 p.act, .int .u8 p.code, .int .u8 p.sub]) (q : Vd) (hc : CellsAt w b #[.int .i64 q.act, .int .u8 q.code, .int .u8 q.sub] 42)
    (h : wpList Tryz.prog ops Q rest (a.put op.dst undef) (w.setRow b #[.int .i64 p.act, .int .u8 p.code, .int .u8 p.sub])) : wpList Tryz.prog ops Q (op :: rest) a w :=
  wpList_store_row hgd 42 x y ho b p.ar hx hy 42 q.ar hc (by rw [verdict_size]; rfl) rfl (Array.all_eq_true_iff_forall_mem.2 (fun u hu => by
    simp only [Vd.ar, List.mem_toArray, List.mem_cons, List.not_mem_nil, or_false] at hu
    rcases hu with rfl | rfl | rfl <;> rfl)) h
theorem OwnL.raws {w : World} {base : Nat} {v : Value} {L : List Rw} (h : OwnL w base 32 3 Rw.cs v L) (hf : ∀ r ∈ L, r.v.size ≤ 9223372036854775807) : ∃ A c, v = .slice A L.length c ∧ RwsOk w A c L := by
  obtain ⟨A, c, hv, hr, hl, hc⟩ := OwnL.rd Rw.cs_len h
  exact ⟨A, c, hv, hr, hl, hc, hf⟩
theorem one_fits : ∀ r ∈ oneRaws, r.v.size ≤ 140737488351232 := by
  intro r hr
  simp only [oneRaws, List.mem_cons, List.not_mem_nil, or_false] at hr
  rcases hr with rfl | rfl | rfl <;> decide
theorem one_own {w : World} {base : Nat} {v : Value} (h : OwnL w base 32 3 Rw.cs v oneRaws) : ∃ A c, v = .slice A 3 c ∧ RwsOk w A c oneRaws := h.raws (fun r hr => Nat.le_trans (one_fits r hr) (by decide))
theorem work_write (a : Atr) (w : World) (h : AtrOk w a) (hc : a.c = oneC) : Calls Tryz.prog 25 #[a.v, .bool true] w fun e w' => (∃ A c, e = .returned (.tuple #[.slice A 3 c, .int .i64 0]) ∧ RwsOk w' A c oneRaws) ∧ Below w.heap.size w w' := by
  refine (write_ok a true w h (by rw [hc]; exact one_ok) (enc_none (by show a.c.comms = []; rw [hc]; rfl) (by show a.c.exts = []; rw [hc]; rfl) (by show a.c.larges = []; rw [hc]; rfl))).mono ?_
  rintro e w' ⟨⟨v, rfl, ho⟩, hb⟩
  rw [hc, one_write] at ho
  obtain ⟨A, c, rfl, hr⟩ := one_own ho
  exact ⟨⟨A, c, rfl, hr⟩, hb⟩
theorem work_lay (A : Option Addr) (c : Nat) (w : World) (h : RwsOk w A c oneRaws) : Calls Tryz.prog 13 #[.slice A 3 c] w fun e w' => e = .returned (.tuple #[.string (ByteArray.mk #[64, 1, 1, 1, 64, 2, 6, 2, 1, 0, 0, 0, 1, 64, 3, 4, 10, 0, 0, 1]), .int .i64 0]) ∧ Below w.heap.size w w' := by
  have h2 := lay_any A c oneRaws w h
  rw [one_lay] at h2
  exact h2
theorem work_split (w : World) : Calls Tryz.prog 17 #[.string (ByteArray.mk #[64, 1, 1, 1, 64, 2, 6, 2, 1, 0, 0, 0, 1, 64, 3, 4, 10, 0, 0, 1])] w fun e w' => (∃ A c, e = .returned (.tuple #[.slice A 3 c, .bool true]) ∧ RwsOk w' A c oneRaws) ∧ Below w.heap.size w w' := by
  have h2 := split_any laidB w (by decide)
  rw [one_split] at h2
  refine h2.mono ?_
  rintro e w' ⟨⟨v, rfl, ho⟩, hb⟩
  obtain ⟨A, c, rfl, hr⟩ := one_own ho
  exact ⟨⟨A, c, rfl, hr⟩, hb⟩
theorem work_T : ∀ x ∈ oneRaws, ∀ b wr i f, rowF x.t.toNat = some (b, wr, i, f) → TakesT workT x.t.toNat f := by
  intro x hx b wr i f h
  simp only [oneRaws, List.mem_cons, List.not_mem_nil, or_false] at hx
  rcases hx with rfl | rfl | rfl
  · obtain ⟨rfl, rfl, rfl, rfl⟩ : (64 : Int) = b ∧ (2 : Int) = wr ∧ false = i ∧ 73 = f := by simpa [rowF] using h
    exact ⟨takes1, fun v four c => by show (take1 v c).1.clus = c.clus; unfold take1; split <;> rfl⟩
  · obtain ⟨rfl, rfl, rfl, rfl⟩ : (64 : Int) = b ∧ (2 : Int) = wr ∧ false = i ∧ 74 = f := by simpa [rowF] using h
    exact ⟨takes2, fun v four c => by show (take2 v four c).1.clus = c.clus; unfold take2; split <;> rfl⟩
  · obtain ⟨rfl, rfl, rfl, rfl⟩ : (64 : Int) = b ∧ (2 : Int) = wr ∧ false = i ∧ 76 = f := by simpa [rowF] using h
    exact ⟨takes3, fun v four c => by rfl⟩
theorem work_read (A : Option Addr) (c : Nat) (w : World) (h : RwsOk w A c oneRaws) : Calls Tryz.prog 19 #[.slice A 3 c, .bool true, .bool true] w fun e w' => (∃ a : Atr, e = .returned (.tuple #[.agg a.ar, .agg #[.int .i64 0, .int .u8 0, .int .u8 0]]) ∧ AtrOk w' a ∧ a.c = oneC) ∧ Below w.heap.size w w' := by
  refine (read_any workT A c oneRaws true true w h one_fits work_T).mono ?_
  rintro e w' ⟨hp, hb⟩
  rw [show readF workT true true [] noC ⟨0, 0, 0⟩ oneRaws = (oneC, ⟨0, 0, 0⟩) from one_read] at hp
  obtain ⟨a, rfl, ho, hc⟩ := hp
  exact ⟨⟨a, rfl, ho.ok, hc⟩, hb⟩
theorem work_same (a b : Atr) (w : World) (h1 : AtrOk w a) (h2 : AtrOk w b) (e1 : a.c = oneC) (e2 : b.c = oneC) : Calls Tryz.prog 23 #[a.v, b.v] w fun e w' => e = .returned (.bool true) ∧ Below w.heap.size w w' := by
  have h := same_any a b w h1 h2
  rw [decide_eq_true (show a.c = b.c by rw [e1, e2])] at h
  exact h
set_option maxRecDepth 100000 in
set_option maxHeartbeats 4000000 in
theorem works_any (w : World) : Calls Tryz.prog 16 #[] w fun e w' => e = .returned (.bool true) ∧ Below w.heap.size w w' := by
  have HONE := Lib.hid one_any
  have HWR := Lib.hid work_write
  have HLA := Lib.hid work_lay
  have HSP := Lib.hid work_split
  have HRE := Lib.hid work_read
  have HSA := Lib.hid work_same
  go_enter Tryz.func16, Tryz.ntmps16
  go_wp2_with fail
  refine (HONE.out _).mono ?_
  rintro e w1 ⟨⟨a0, rfl, ha0, hc0⟩, hb1⟩
  have HA0 := Lib.hid ha0
  have HC0 := Lib.hid hc0
  have HB1 := Lib.hid hb1
  clear ha0 hc0 hb1
  go_wp2_with fail
  refine (HWR.out a0 _ HA0.out HC0.out).mono ?_
  rintro e w2 ⟨⟨A, c, rfl, hr⟩, hb2⟩
  have HR := Lib.hid hr
  have HB2 := Lib.hid (HB1.out.trans (hb2.mono HB1.out.size))
  clear hr hb2 HB1 HA0 HC0
  go_wp2_with fail
  refine (HLA.out A c _ HR.out).mono ?_
  rintro e w3 ⟨rfl, hb3⟩
  have HB3 := Lib.hid (HB2.out.trans (hb3.mono HB2.out.size))
  clear hb3 HB2 HR
  go_wp2_with fail
  refine (HSP.out _).mono ?_
  rintro e w4 ⟨⟨B, d, rfl, hr⟩, hb4⟩
  have HR := Lib.hid hr
  have HB4 := Lib.hid (HB3.out.trans (hb4.mono HB3.out.size))
  clear hr hb4 HB3
  go_wp2_with fail
  refine (HRE.out B d _ HR.out).mono ?_
  rintro e w5 ⟨⟨a1, rfl, ha1, hc1⟩, hb5⟩
  have HA1 := Lib.hid ha1
  have HC1 := Lib.hid hc1
  have HB5 := Lib.hid (HB4.out.trans (hb5.mono HB4.out.size))
  clear ha1 hc1 hb5 HB4 HR
  have e5 : ∀ cs : Array Value, (w5.alloc (.cells cs 40)).heap.size = w5.heap.size + 1 := fun cs => by simp
  have HZ : Hid (∀ cs : Array Value, CellsAt ((w5.alloc (.cells cs 40)).alloc (.cells #[.int .i64 0, .int .u8 0, .int .u8 0] 42)) w5.heap.size cs 40) := fun cs => (CellsAt.new _ _ _).alloc _
  have HY : Hid (∀ cs : Array Value, CellsAt (((w5.alloc (.cells cs 40)).alloc (.cells #[.int .i64 0, .int .u8 0, .int .u8 0] 42)).setRow w5.heap.size a1.ar) (w5.heap.size + 1) #[.int .i64 0, .int .u8 0, .int .u8 0] 42) := fun cs => by
    have h := CellsAt.new (w5.alloc (.cells cs 40)) #[.int .i64 0, .int .u8 0, .int .u8 0] 42
    rw [e5] at h
    exact h.row (grown_setRow _ _ _) (by omega)
  have HV1 : Hid (∀ cs : Array Value, CellsAt ((((w5.alloc (.cells cs 40)).alloc (.cells #[.int .i64 0, .int .u8 0, .int .u8 0] 42)).setRow w5.heap.size a1.ar).setRow (w5.heap.size + 1) #[.int .i64 0, .int .u8 0, .int .u8 0]) w5.heap.size a1.ar 40) := fun cs => ((HZ.out cs).setRow _).row (grown_setRow _ _ _) (by omega)
  have HV2 : Hid (∀ cs : Array Value, CellsAt ((((w5.alloc (.cells cs 40)).alloc (.cells #[.int .i64 0, .int .u8 0, .int .u8 0] 42)).setRow w5.heap.size a1.ar).setRow (w5.heap.size + 1) #[.int .i64 0, .int .u8 0, .int .u8 0]) (w5.heap.size + 1) #[.int .i64 0, .int .u8 0, .int .u8 0] 42) := fun cs => (HY.out cs).setRow _
  have HV5 : Hid (∀ cs : Array Value, Below w5.heap.size w5 ((((w5.alloc (.cells cs 40)).alloc (.cells #[.int .i64 0, .int .u8 0, .int .u8 0] 42)).setRow w5.heap.size a1.ar).setRow (w5.heap.size + 1) #[.int .i64 0, .int .u8 0, .int .u8 0])) := fun cs => ((((Below.refl _ _).alloc (Nat.le_refl _) _).alloc (by simp) _).grown (grown_setRow _ _ _) (by simp; omega) (fun k hk => by cases hk; omega)).grown (grown_setRow _ _ _) (by simp [setRow_size]; omega) (fun k hk => by cases hk; omega)
  have HV3 : Hid (∀ cs : Array Value, AtrOk ((((w5.alloc (.cells cs 40)).alloc (.cells #[.int .i64 0, .int .u8 0, .int .u8 0] 42)).setRow w5.heap.size a1.ar).setRow (w5.heap.size + 1) #[.int .i64 0, .int .u8 0, .int .u8 0]) a1) := fun cs => HA1.out.below (HV5.out cs) (Nat.le_refl _)
  have hs5 := HB5.out.size
  have HV4 : Hid (∀ cs : Array Value, Below w.heap.size w ((((w5.alloc (.cells cs 40)).alloc (.cells #[.int .i64 0, .int .u8 0, .int .u8 0] 42)).setRow w5.heap.size a1.ar).setRow (w5.heap.size + 1) #[.int .i64 0, .int .u8 0, .int .u8 0])) := fun cs => HB5.out.trans ((HV5.out cs).mono hs5)
  clear HB5 HA1 hs5 HV5 e5
  go_upto_region 5 with (with_reducible show wpList _ _ _ (_ :: _) _ _; first | refine wpList_store_attrs rfl (.tmp 7) (.tmp 26) rfl w5.heap.size rfl a1 rfl noAtr (HZ.out _) ?_ | refine wpList_store_verdict rfl (.tmp 8) (.tmp 27) rfl (w5.heap.size + 1) rfl ⟨0, 0, 0⟩ rfl ⟨0, 0, 0⟩ (HY.out _) ?_)
  refine wp_region_held_drew (S := fun w' => CellsAt w' w5.heap.size a1.ar 40 ∧ CellsAt w' (w5.heap.size + 1) #[.int .i64 0, .int .u8 0, .int .u8 0] 42 ∧ AtrOk w' a1 ∧ Below w.heap.size w w') (by kernel_rfl) (⟨(HV1.out _).drew 1, (HV2.out _).drew 1, (HV3.out _).below (below_drewN (Below.refl _ _) 1) (Nat.le_refl _), below_drewN (HV4.out _) 1⟩) (fun hHeld => ?_)
  refine wpAnyH_take (i := 0) (oi := { dst := some 28, op := Op.move (Operand.tmp 2), type := 23, pos := "outright.go:23", after := #[], guard := none }) (v := ?_) rfl (by kernel_rfl) (by kernel_rfl) (by kernel_rfl) (fun _ _ _ h => h) (Or.inl ⟨by rfl, ?_⟩) hHeld ?_
  rotate_left
  · intro w hSw
    clear hSw
    go_simp
    try with_reducible rfl
  try simp only [Act.put, List.setIfInBounds_toArray, List.set_cons_zero, List.set_cons_succ]
  refine wpAnyH_take (i := 1) (oi := { dst := some 29, op := Op.binOp BinOp.eql 23 (Operand.tmp 28) (Operand.const (Value.int IntKind.i64 0)) 23, type := 4, pos := "outright.go:23", after := #[{ on := 0, ground := Ground.data }], guard := none }) (v := ?_) rfl (by kernel_rfl) (by kernel_rfl) (by kernel_rfl) (fun _ _ _ h => h) (Or.inl ⟨by rfl, ?_⟩) hHeld ?_
  rotate_left
  · intro w hSw
    clear hSw
    go_simp
    try with_reducible rfl
  try simp only [Act.put, List.setIfInBounds_toArray, List.set_cons_zero, List.set_cons_succ]
  refine wpAnyH_take (i := 2) (oi := { dst := some 30, op := Op.move (Operand.tmp 29), type := 4, pos := "outright.go:23", after := #[{ on := 1, ground := Ground.data }], guard := none }) (v := ?_) rfl (by kernel_rfl) (by kernel_rfl) (by kernel_rfl) (fun _ _ _ h => h) (Or.inl ⟨by rfl, ?_⟩) hHeld ?_
  rotate_left
  · intro w hSw
    clear hSw
    go_simp
    try with_reducible rfl
  try simp only [Act.put, List.setIfInBounds_toArray, List.set_cons_zero, List.set_cons_succ]
  refine wpAnyH_take (i := 3) (oi := { dst := some 31, op := Op.move (Operand.tmp 4), type := 23, pos := "outright.go:23", after := #[{ on := 2, ground := Ground.guard }], guard := some (2, true) }) (v := ?_) rfl (by kernel_rfl) (by kernel_rfl) (by kernel_rfl) (fun _ _ _ h => h) (Or.inl ⟨by rfl, ?_⟩) hHeld ?_
  rotate_left
  · intro w hSw
    clear hSw
    go_simp
    try with_reducible rfl
  try simp only [Act.put, List.setIfInBounds_toArray, List.set_cons_zero, List.set_cons_succ]
  refine wpAnyH_take (i := 4) (oi := { dst := some 32, op := Op.binOp BinOp.eql 23 (Operand.tmp 31) (Operand.const (Value.int IntKind.i64 0)) 23, type := 4, pos := "outright.go:23", after := #[{ on := 3, ground := Ground.data }, { on := 2, ground := Ground.guard }], guard := some (2, true) }) (v := ?_) rfl (by kernel_rfl) (by kernel_rfl) (by kernel_rfl) (fun _ _ _ h => h) (Or.inl ⟨by rfl, ?_⟩) hHeld ?_
  rotate_left
  · intro w hSw
    clear hSw
    go_simp
    try with_reducible rfl
  try simp only [Act.put, List.setIfInBounds_toArray, List.set_cons_zero, List.set_cons_succ]
  refine wpAnyH_take (i := 5) (oi := { dst := some 33, op := Op.pick (Operand.tmp 30) (Operand.tmp 32) (Operand.const (Value.bool false)), type := 4, pos := "outright.go:23", after := #[{ on := 2, ground := Ground.data }, { on := 4, ground := Ground.data }], guard := none }) (v := ?_) rfl (by kernel_rfl) (by kernel_rfl) (by kernel_rfl) (fun _ _ _ h => h) (Or.inl ⟨by rfl, ?_⟩) hHeld ?_
  rotate_left
  · intro w hSw
    clear hSw
    go_simp
    try with_reducible rfl
  try simp only [Act.put, List.setIfInBounds_toArray, List.set_cons_zero, List.set_cons_succ]
  refine wpAnyH_take (i := 6) (oi := { dst := some 34, op := Op.move (Operand.tmp 33), type := 4, pos := "outright.go:23", after := #[{ on := 5, ground := Ground.data }, { on := 2, ground := Ground.chain }], guard := none }) (v := ?_) rfl (by kernel_rfl) (by kernel_rfl) (by kernel_rfl) (fun _ _ _ h => h) (Or.inl ⟨by rfl, ?_⟩) hHeld ?_
  rotate_left
  · intro w hSw
    clear hSw
    go_simp
    try with_reducible rfl
  try simp only [Act.put, List.setIfInBounds_toArray, List.set_cons_zero, List.set_cons_succ]
  refine wpAnyH_take (i := 7) (oi := { dst := some 35, op := Op.move (Operand.tmp 3), type := 9, pos := "outright.go:23", after := #[{ on := 6, ground := Ground.guard }], guard := some (6, true) }) (v := ?_) rfl (by kernel_rfl) (by kernel_rfl) (by kernel_rfl) (fun _ _ _ h => h) (Or.inl ⟨by rfl, ?_⟩) hHeld ?_
  rotate_left
  · intro w hSw
    clear hSw
    go_simp
    try with_reducible rfl
  try simp only [Act.put, List.setIfInBounds_toArray, List.set_cons_zero, List.set_cons_succ]
  refine wpAnyH_take (i := 8) (oi := { dst := some 36, op := Op.binOp BinOp.eql 9 (Operand.tmp 35) (Operand.const (Value.string { data := #[64, 1, 1, 1, 64, 2, 6, 2, 1, 0, 0, 0, 1, 64, 3, 4, 10, 0, 0, 1] })) 9, type := 4, pos := "outright.go:23", after := #[{ on := 7, ground := Ground.data }, { on := 6, ground := Ground.guard }], guard := some (6, true) }) (v := ?_) rfl (by kernel_rfl) (by kernel_rfl) (by kernel_rfl) (fun _ _ _ h => h) (Or.inl ⟨by rfl, ?_⟩) hHeld ?_
  rotate_left
  · intro w hSw
    clear hSw
    go_simp
    try with_reducible rfl
  try simp only [Act.put, List.setIfInBounds_toArray, List.set_cons_zero, List.set_cons_succ]
  refine wpAnyH_take (i := 9) (oi := { dst := some 37, op := Op.pick (Operand.tmp 34) (Operand.tmp 36) (Operand.const (Value.bool false)), type := 4, pos := "outright.go:23", after := #[{ on := 6, ground := Ground.data }, { on := 8, ground := Ground.data }], guard := none }) (v := ?_) rfl (by kernel_rfl) (by kernel_rfl) (by kernel_rfl) (fun _ _ _ h => h) (Or.inl ⟨by rfl, ?_⟩) hHeld ?_
  rotate_left
  · intro w hSw
    clear hSw
    go_simp
    try with_reducible rfl
  try simp only [Act.put, List.setIfInBounds_toArray, List.set_cons_zero, List.set_cons_succ]
  refine wpAnyH_take (i := 10) (oi := { dst := some 38, op := Op.move (Operand.tmp 37), type := 4, pos := "outright.go:23", after := #[{ on := 9, ground := Ground.data }, { on := 6, ground := Ground.chain }], guard := none }) (v := ?_) rfl (by kernel_rfl) (by kernel_rfl) (by kernel_rfl) (fun _ _ _ h => h) (Or.inl ⟨by rfl, ?_⟩) hHeld ?_
  rotate_left
  · intro w hSw
    clear hSw
    go_simp
    try with_reducible rfl
  try simp only [Act.put, List.setIfInBounds_toArray, List.set_cons_zero, List.set_cons_succ]
  refine wpAnyH_take (i := 11) (oi := { dst := some 39, op := Op.move (Operand.tmp 6), type := 4, pos := "outright.go:23", after := #[{ on := 10, ground := Ground.guard }], guard := some (10, true) }) (v := ?_) rfl (by kernel_rfl) (by kernel_rfl) (by kernel_rfl) (fun _ _ _ h => h) (Or.inl ⟨by rfl, ?_⟩) hHeld ?_
  rotate_left
  · intro w hSw
    clear hSw
    go_simp
    try with_reducible rfl
  try simp only [Act.put, List.setIfInBounds_toArray, List.set_cons_zero, List.set_cons_succ]
  refine wpAnyH_take (i := 12) (oi := { dst := some 40, op := Op.pick (Operand.tmp 38) (Operand.tmp 39) (Operand.const (Value.bool false)), type := 4, pos := "outright.go:23", after := #[{ on := 10, ground := Ground.data }, { on := 11, ground := Ground.data }], guard := none }) (v := ?_) rfl (by kernel_rfl) (by kernel_rfl) (by kernel_rfl) (fun _ _ _ h => h) (Or.inl ⟨by rfl, ?_⟩) hHeld ?_
  rotate_left
  · intro w hSw
    clear hSw
    go_simp
    try with_reducible rfl
  try simp only [Act.put, List.setIfInBounds_toArray, List.set_cons_zero, List.set_cons_succ]
  refine wpAnyH_take (i := 13) (oi := { dst := some 41, op := Op.move (Operand.tmp 40), type := 4, pos := "outright.go:23", after := #[{ on := 12, ground := Ground.data }, { on := 10, ground := Ground.chain }], guard := none }) (v := ?_) rfl (by kernel_rfl) (by kernel_rfl) (by kernel_rfl) (fun _ _ _ h => h) (Or.inl ⟨by rfl, ?_⟩) hHeld ?_
  rotate_left
  · intro w hSw
    clear hSw
    go_simp
    try with_reducible rfl
  try simp only [Act.put, List.setIfInBounds_toArray, List.set_cons_zero, List.set_cons_succ]
  refine wpAnyH_take (i := 14) (oi := { dst := some 42, op := Op.move (Operand.tmp 5), type := 22, pos := "outright.go:23", after := #[{ on := 13, ground := Ground.guard }], guard := some (13, true) }) (v := ?_) rfl (by kernel_rfl) (by kernel_rfl) (by kernel_rfl) (fun _ _ _ h => h) (Or.inl ⟨by rfl, ?_⟩) hHeld ?_
  rotate_left
  · intro w hSw
    clear hSw
    go_simp
    try with_reducible rfl
  try simp only [Act.put, List.setIfInBounds_toArray, List.set_cons_zero, List.set_cons_succ]
  refine wpAnyH_take (i := 15) (oi := { dst := some 43, op := Op.call { callee := Callee.builtin Builtin.len, args := #[Operand.tmp 42], argTypes := #[22] }, type := 3, pos := "outright.go:23", after := #[{ on := 14, ground := Ground.data }, { on := 13, ground := Ground.guard }], guard := some (13, true) }) (v := ?_) rfl (by kernel_rfl) (by kernel_rfl) (by kernel_rfl) (fun _ _ _ h => h) (Or.inl ⟨by rfl, ?_⟩) hHeld ?_
  rotate_left
  · intro w hSw
    clear hSw
    go_simp
    try with_reducible rfl
  try simp only [Act.put, List.setIfInBounds_toArray, List.set_cons_zero, List.set_cons_succ]
  refine wpAnyH_take (i := 16) (oi := { dst := some 44, op := Op.binOp BinOp.eql 3 (Operand.tmp 43) (Operand.const (Value.int IntKind.i64 3)) 3, type := 4, pos := "outright.go:23", after := #[{ on := 15, ground := Ground.data }, { on := 13, ground := Ground.guard }], guard := some (13, true) }) (v := ?_) rfl (by kernel_rfl) (by kernel_rfl) (by kernel_rfl) (fun _ _ _ h => h) (Or.inl ⟨by rfl, ?_⟩) hHeld ?_
  rotate_left
  · intro w hSw
    clear hSw
    go_simp
    try with_reducible rfl
  try simp only [Act.put, List.setIfInBounds_toArray, List.set_cons_zero, List.set_cons_succ]
  refine wpAnyH_take (i := 17) (oi := { dst := some 45, op := Op.pick (Operand.tmp 41) (Operand.tmp 44) (Operand.const (Value.bool false)), type := 4, pos := "outright.go:23", after := #[{ on := 13, ground := Ground.data }, { on := 16, ground := Ground.data }], guard := none }) (v := ?_) rfl (by kernel_rfl) (by kernel_rfl) (by kernel_rfl) (fun _ _ _ h => h) (Or.inl ⟨by rfl, ?_⟩) hHeld ?_
  rotate_left
  · intro w hSw
    clear hSw
    go_simp
    try with_reducible rfl
  try simp only [Act.put, List.setIfInBounds_toArray, List.set_cons_zero, List.set_cons_succ]
  refine wpAnyH_take (i := 18) (oi := { dst := some 46, op := Op.move (Operand.tmp 45), type := 4, pos := "outright.go:23", after := #[{ on := 17, ground := Ground.data }, { on := 13, ground := Ground.chain }], guard := none }) (v := ?_) rfl (by kernel_rfl) (by kernel_rfl) (by kernel_rfl) (fun _ _ _ h => h) (Or.inl ⟨by rfl, ?_⟩) hHeld ?_
  rotate_left
  · intro w hSw
    clear hSw
    go_simp
    try with_reducible rfl
  try simp only [Act.put, List.setIfInBounds_toArray, List.set_cons_zero, List.set_cons_succ]
  refine wpAnyH_take (i := 19) (oi := { dst := some 47, op := Op.load 42 (Operand.tmp 8), type := 42, pos := "outright.go:23", after := #[{ on := 18, ground := Ground.guard }], guard := some (18, true) }) (v := .agg #[.int .i64 0, .int .u8 0, .int .u8 0]) rfl (by kernel_rfl) (by kernel_rfl) (by kernel_rfl) (fun _ _ _ h => h) (yields_verdict (by rfl) _ rfl (w5.heap.size + 1) (by rfl) ⟨0, 0, 0⟩ (fun w h => h.2.1)) hHeld ?_
  try simp only [Act.put, List.setIfInBounds_toArray, List.set_cons_zero, List.set_cons_succ]
  refine wpAnyH_take (i := 20) (oi := { dst := some 48, op := Op.build 42 #[], type := 42, pos := "outright.go:23", after := #[{ on := 18, ground := Ground.guard }], guard := some (18, true) }) (v := ?_) rfl (by kernel_rfl) (by kernel_rfl) (by kernel_rfl) (fun _ _ _ h => h) (Or.inl ⟨by rfl, ?_⟩) hHeld ?_
  rotate_left
  · intro w hSw
    clear hSw
    go_simp
    try with_reducible rfl
  try simp only [Act.put, List.setIfInBounds_toArray, List.set_cons_zero, List.set_cons_succ]
  refine wpAnyH_take (i := 21) (oi := { dst := some 49, op := Op.binOp BinOp.eql 42 (Operand.tmp 47) (Operand.tmp 48) 42, type := 4, pos := "outright.go:23", after := #[{ on := 19, ground := Ground.data }, { on := 20, ground := Ground.data }, { on := 18, ground := Ground.guard }], guard := some (18, true) }) (v := .bool true) rfl (by kernel_rfl) (by kernel_rfl) (by kernel_rfl) (fun _ _ _ h => h) (Or.inl ⟨by rfl, ?_⟩) hHeld ?_
  · intro w hSw
    clear hSw
    go_simp
    skip
  try simp only [Act.put, List.setIfInBounds_toArray, List.set_cons_zero, List.set_cons_succ]
  refine wpAnyH_take (i := 22) (oi := { dst := some 50, op := Op.pick (Operand.tmp 46) (Operand.tmp 49) (Operand.const (Value.bool false)), type := 4, pos := "outright.go:23", after := #[{ on := 18, ground := Ground.data }, { on := 21, ground := Ground.data }], guard := none }) (v := ?_) rfl (by kernel_rfl) (by kernel_rfl) (by kernel_rfl) (fun _ _ _ h => h) (Or.inl ⟨by rfl, ?_⟩) hHeld ?_
  rotate_left
  · intro w hSw
    clear hSw
    go_simp
    try with_reducible rfl
  try simp only [Act.put, List.setIfInBounds_toArray, List.set_cons_zero, List.set_cons_succ]
  refine wpAnyH_take (i := 23) (oi := { dst := some 51, op := Op.move (Operand.tmp 50), type := 4, pos := "outright.go:23", after := #[{ on := 22, ground := Ground.data }, { on := 18, ground := Ground.chain }], guard := none }) (v := ?_) rfl (by kernel_rfl) (by kernel_rfl) (by kernel_rfl) (fun _ _ _ h => h) (Or.inl ⟨by rfl, ?_⟩) hHeld ?_
  rotate_left
  · intro w hSw
    clear hSw
    go_simp
    try with_reducible rfl
  try simp only [Act.put, List.setIfInBounds_toArray, List.set_cons_zero, List.set_cons_succ]
  refine wpAnyH_take (i := 24) (oi := { dst := some 52, op := Op.load 40 (Operand.tmp 7), type := 40, pos := "outright.go:23", after := #[{ on := 23, ground := Ground.guard }], guard := some (23, true) }) (v := .agg a1.ar) rfl (by kernel_rfl) (by kernel_rfl) (by kernel_rfl) (fun _ _ _ h => h) (yields_attrs (by rfl) _ rfl w5.heap.size (by rfl) a1 (fun w h => h.1)) hHeld ?_
  try simp only [Act.put, List.setIfInBounds_toArray, List.set_cons_zero, List.set_cons_succ]
  refine wpAnyH_ready (rs := [25]) (by kernel_rfl) (by simp) ?_
  refine AllReadyH.cons (o := { dst := some 53, op := Op.call { callee := Callee.value (Operand.func 32), args := #[], argTypes := #[] }, type := 40, pos := "outright.go:23", after := #[{ on := 23, ground := Ground.chain }, { on := 23, ground := Ground.guard }], guard := some (23, true) }) rfl (fun K hK => ?_) AllReadyH.nil
  go_simp
  refine (HONE.out _).mono ?_
  rintro e w6 ⟨⟨a2, rfl, ha2, hc2⟩, hb6⟩
  have HS6 := Lib.hid hHeld
  have HA2 := Lib.hid ha2
  have HC2 := Lib.hid hc2
  refine hK.out _ _ (⟨HS6.out.1.below hb6 HS6.out.1.lt, HS6.out.2.1.below hb6 HS6.out.2.1.lt, HS6.out.2.2.1.below hb6 (Nat.le_refl _), HS6.out.2.2.2.trans (hb6.mono HS6.out.2.2.2.size)⟩) (fun hHeld => ?_)
  clear hK K
  try simp only [Act.put, List.setIfInBounds_toArray, List.set_cons_zero, List.set_cons_succ]
  refine wpAnyH_ready (rs := [26]) (by kernel_rfl) (by simp) ?_
  refine AllReadyH.cons (o := { dst := some 54, op := Op.call { callee := Callee.value (Operand.func 23), args := #[Operand.tmp 52, Operand.tmp 53], argTypes := #[40, 40] }, type := 4, pos := "outright.go:23", after := #[{ on := 24, ground := Ground.data }, { on := 25, ground := Ground.data }, { on := 25, ground := Ground.chain }, { on := 23, ground := Ground.guard }], guard := some (23, true) }) rfl (fun K hK => ?_) AllReadyH.nil
  go_simp
  refine (HSA.out a1 a2 _ hHeld.2.2.1 HA2.out HC1.out HC2.out).mono ?_
  rintro e w7 ⟨rfl, hb7⟩
  have HS7 := Lib.hid hHeld
  refine hK.out _ _ (⟨HS7.out.1.below hb7 HS7.out.1.lt, HS7.out.2.1.below hb7 HS7.out.2.1.lt, HS7.out.2.2.1.below hb7 (Nat.le_refl _), HS7.out.2.2.2.trans (hb7.mono HS7.out.2.2.2.size)⟩) (fun hHeld => ?_)
  clear hK K
  try simp only [Act.put, List.setIfInBounds_toArray, List.set_cons_zero, List.set_cons_succ]
  refine wpAnyH_take (i := 27) (oi := { dst := some 55, op := Op.pick (Operand.tmp 51) (Operand.tmp 54) (Operand.const (Value.bool false)), type := 4, pos := "outright.go:23", after := #[{ on := 23, ground := Ground.data }, { on := 26, ground := Ground.data }], guard := none }) (v := ?_) rfl (by kernel_rfl) (by kernel_rfl) (by kernel_rfl) (fun _ _ _ h => h) (Or.inl ⟨by rfl, ?_⟩) hHeld ?_
  rotate_left
  · intro w hSw
    clear hSw
    go_simp
    try with_reducible rfl
  try simp only [Act.put, List.setIfInBounds_toArray, List.set_cons_zero, List.set_cons_succ]
  refine wpAnyH_take (i := 28) (oi := { dst := some 0, op := Op.assign (Operand.tmp 55), type := 4, pos := "outright.go:23", after := #[{ on := 27, ground := Ground.data }, { on := 26, ground := Ground.chain }, { on := 0, ground := Ground.phase }, { on := 1, ground := Ground.phase }, { on := 2, ground := Ground.phase }, { on := 3, ground := Ground.phase }, { on := 4, ground := Ground.phase }, { on := 5, ground := Ground.phase }, { on := 6, ground := Ground.phase }, { on := 7, ground := Ground.phase }, { on := 8, ground := Ground.phase }, { on := 9, ground := Ground.phase }, { on := 10, ground := Ground.phase }, { on := 11, ground := Ground.phase }, { on := 12, ground := Ground.phase }, { on := 13, ground := Ground.phase }, { on := 14, ground := Ground.phase }, { on := 15, ground := Ground.phase }, { on := 16, ground := Ground.phase }, { on := 17, ground := Ground.phase }, { on := 18, ground := Ground.phase }, { on := 19, ground := Ground.phase }, { on := 20, ground := Ground.phase }, { on := 21, ground := Ground.phase }, { on := 22, ground := Ground.phase }, { on := 23, ground := Ground.phase }, { on := 24, ground := Ground.phase }, { on := 25, ground := Ground.phase }, { on := 26, ground := Ground.phase }, { on := 27, ground := Ground.phase }], guard := none }) (v := ?_) rfl (by kernel_rfl) (by kernel_rfl) (by kernel_rfl) (fun _ _ _ h => h) (Or.inl ⟨by rfl, ?_⟩) hHeld ?_
  rotate_left
  · intro w hSw
    clear hSw
    go_simp
    try with_reducible rfl
  try simp only [Act.put, List.setIfInBounds_toArray, List.set_cons_zero, List.set_cons_succ]
  refine wpAnyH_done (by kernel_rfl) ?_ _
  have HE := Lib.hid hHeld
  clear hHeld
  go_wp2_with fail
  go_ret
  exact ⟨rfl, HE.out.2.2.2⟩
end Go.Proofs.YtkcojblflebomaaGreat
set_option linter.unusedVariables false
set_option linter.unusedSimpArgs false
namespace Go.Proofs.YtkcojblflebomaaGreat
open Go.RowKit Go.MapKept Go.Shelf
open Go.Lib hiding intOf
open Go.Sort hiding Below

theorem atOk_iff (c : AtC) : atOk c = true ↔ (0 ≤ c.origin ∧ c.origin ≤ 2) ∧ pathOk c.path = true ∧ nextOk c.next = true ∧ spareOk c = true ∧ listsOk c = true := by
  unfold atOk
  simp only [Bool.and_eq_true, decide_eq_true_eq, and_assoc]
theorem lists_iff (c : AtC) : listsOk c = true ↔ c.clus.length ≤ 32 ∧ (riseB ltN c.comms = true ∧ c.comms.length ≤ 64) ∧ (riseB ltN c.exts = true ∧ c.exts.length ≤ 64) ∧ (riseB ltL c.larges = true ∧ c.larges.length ≤ 64) := by
  unfold listsOk
  simp only [Bool.and_eq_true, decide_eq_true_eq, and_assoc]
theorem spare_iff (c : AtC) : spareOk c = true ↔ (c.hasMed = true ∨ c.med = 0) ∧ (c.hasPref = true ∨ c.pref = 0) ∧ (c.hasOrig = true ∨ c.orig = 0) ∧ (c.aggAs ≠ 0 ∨ c.aggId = 0) := by
  unfold spareOk
  simp only [Bool.and_eq_true, Bool.or_eq_true, beq_iff_eq, Bool.not_eq_true', beq_eq_false_iff_ne, ne_eq, and_assoc]
theorem tab_1 (v : ByteArray) (four : Bool) (c : AtC) : tab 1 v four c = take1 v c := rfl
theorem tab_2 (v : ByteArray) (four : Bool) (c : AtC) : tab 2 v four c = take2 v four c := rfl
theorem tab_3 (v : ByteArray) (four : Bool) (c : AtC) : tab 3 v four c = take3 v c := rfl
theorem tab_4 (v : ByteArray) (four : Bool) (c : AtC) : tab 4 v four c = take4 v c := rfl
theorem tab_5 (v : ByteArray) (four : Bool) (c : AtC) : tab 5 v four c = take5 v c := rfl
theorem tab_6 (v : ByteArray) (four : Bool) (c : AtC) : tab 6 v four c = take6 v c := rfl
theorem tab_7 (v : ByteArray) (four : Bool) (c : AtC) : tab 7 v four c = take7 v four c := rfl
theorem tab_8 (v : ByteArray) (four : Bool) (c : AtC) : tab 8 v four c = take8 v c := rfl
theorem tab_9 (v : ByteArray) (four : Bool) (c : AtC) : tab 9 v four c = take9 v c := rfl
theorem tab_10 (v : ByteArray) (four : Bool) (c : AtC) : tab 10 v four c = take10 v c := rfl
theorem tab_16 (v : ByteArray) (four : Bool) (c : AtC) : tab 16 v four c = take16 v c := rfl
theorem tab_32 (v : ByteArray) (four : Bool) (c : AtC) : tab 32 v four c = take32 v c := rfl
theorem decP_ok {four : Bool} {s : ByteArray} {l : List (Int × List Nat)} (h : decP four s = some l) : pathOk l = true := by
  unfold decP at h
  split at h
  · cases h
  · split at h
    · rename_i h2
      injection h with h
      subst h
      exact h2
    · cases h
/-- what a type's value leaves may be, where it is none of the wrong ones -/
theorem tab_keeps {t : Nat} {b wr : Int} {i : Bool} {f : FuncId} (h : rowF t = some (b, wr, i, f)) (v : ByteArray) (four : Bool) (c : AtC) (hc : atOk c = true) : (atOk (tab t v four c).1 = true ∨ (tab t v four c).2 = false ∧ wr = 2) ∧ (wr = 1 ∨ wr = 2) := by
  obtain ⟨h1, h2, h3, h4, h5⟩ := (atOk_iff c).1 hc
  obtain ⟨l1, l2, l3, l4⟩ := (lists_iff c).1 h5
  obtain ⟨s1, s2, s3, s4⟩ := (spare_iff c).1 h4
  have hk := row_known h
  rcases hk with rfl | rfl | rfl | rfl | rfl | rfl | rfl | rfl | rfl | rfl | rfl | rfl
  · obtain ⟨-, rfl, -⟩ : b = 64 ∧ wr = 2 ∧ True := by
      have h' : (64, (2 : Int), _, _) = (b, wr, i, f) := Option.some.inj h
      simp only [Prod.mk.injEq] at h'
      exact ⟨h'.1.symm, h'.2.1.symm, trivial⟩
    refine ⟨?_, .inr rfl⟩
    rw [tab_1]
    unfold take1
    split
    · exact .inl ((atOk_iff _).2 ⟨⟨by show (0 : Int) ≤ (hd v 1 : Nat); omega, by rename_i hq; show ((hd v 1 : Nat) : Int) ≤ 2; omega⟩, h2, h3, h4, h5⟩)
    · exact .inl hc
  · obtain rfl : wr = 2 := by
      have h' : (64, (2 : Int), _, _) = (b, wr, i, f) := Option.some.inj h
      simp only [Prod.mk.injEq] at h'
      exact h'.2.1.symm
    refine ⟨?_, .inr rfl⟩
    rw [tab_2]
    unfold take2
    split
    · exact .inr ⟨rfl, rfl⟩
    · rename_i l hl
      exact .inl ((atOk_iff _).2 ⟨h1, decP_ok hl, h3, h4, h5⟩)
  · obtain rfl : wr = 2 := by
      have h' : (64, (2 : Int), _, _) = (b, wr, i, f) := Option.some.inj h
      simp only [Prod.mk.injEq] at h'
      exact h'.2.1.symm
    refine ⟨?_, .inr rfl⟩
    rw [tab_3]
    unfold take3
    cases hv : v.size == 4
    · exact .inr ⟨rfl, rfl⟩
    · exact .inl ((atOk_iff _).2 ⟨h1, h2, by show nextOk v = true; unfold nextOk; rw [hv]; simp, h4, h5⟩)
  · obtain rfl : wr = 2 := by
      have h' : (128, (2 : Int), _, _) = (b, wr, i, f) := Option.some.inj h
      simp only [Prod.mk.injEq] at h'
      exact h'.2.1.symm
    refine ⟨?_, .inr rfl⟩
    rw [tab_4]
    unfold take4
    split
    · exact .inl ((atOk_iff _).2 ⟨h1, h2, h3, (spare_iff _).2 ⟨.inl rfl, s2, s3, s4⟩, h5⟩)
    · exact .inl hc
  · obtain rfl : wr = 2 := by
      have h' : (64, (2 : Int), _, _) = (b, wr, i, f) := Option.some.inj h
      simp only [Prod.mk.injEq] at h'
      exact h'.2.1.symm
    refine ⟨?_, .inr rfl⟩
    rw [tab_5]
    unfold take5
    split
    · exact .inl ((atOk_iff _).2 ⟨h1, h2, h3, (spare_iff _).2 ⟨s1, .inl rfl, s3, s4⟩, h5⟩)
    · exact .inl hc
  · obtain rfl : wr = 1 := by
      have h' : (64, (1 : Int), _, _) = (b, wr, i, f) := Option.some.inj h
      simp only [Prod.mk.injEq] at h'
      exact h'.2.1.symm
    exact ⟨.inl ((atOk_iff _).2 ⟨h1, h2, h3, h4, h5⟩), .inl rfl⟩
  · obtain rfl : wr = 1 := by
      have h' : (192, (1 : Int), _, _) = (b, wr, i, f) := Option.some.inj h
      simp only [Prod.mk.injEq] at h'
      exact h'.2.1.symm
    refine ⟨?_, .inl rfl⟩
    rw [tab_7]
    unfold take7
    split
    · rename_i hq
      exact .inl ((atOk_iff _).2 ⟨h1, h2, h3, (spare_iff _).2 ⟨s1, s2, s3, .inl hq.2⟩, h5⟩)
    · exact .inl hc
  · obtain rfl : wr = 2 := by
      have h' : (192, (2 : Int), _, _) = (b, wr, i, f) := Option.some.inj h
      simp only [Prod.mk.injEq] at h'
      exact h'.2.1.symm
    refine ⟨?_, .inr rfl⟩
    rw [tab_8]
    unfold take8
    split
    · exact .inr ⟨rfl, rfl⟩
    · rename_i l hl
      exact .inl ((atOk_iff _).2 ⟨h1, h2, h3, h4, (lists_iff _).2 ⟨l1, readC_ok swoN ltN_total hl, l3, l4⟩⟩)
  · obtain rfl : wr = 2 := by
      have h' : (128, (2 : Int), _, _) = (b, wr, i, f) := Option.some.inj h
      simp only [Prod.mk.injEq] at h'
      exact h'.2.1.symm
    refine ⟨?_, .inr rfl⟩
    rw [tab_9]
    unfold take9
    split
    · exact .inl ((atOk_iff _).2 ⟨h1, h2, h3, (spare_iff _).2 ⟨s1, s2, .inl rfl, s4⟩, h5⟩)
    · exact .inl hc
  · obtain rfl : wr = 2 := by
      have h' : (128, (2 : Int), _, _) = (b, wr, i, f) := Option.some.inj h
      simp only [Prod.mk.injEq] at h'
      exact h'.2.1.symm
    refine ⟨?_, .inr rfl⟩
    rw [tab_10]
    unfold take10
    split
    · exact .inl hc
    · rename_i hq
      refine .inl ((atOk_iff _).2 ⟨h1, h2, h3, h4, (lists_iff _).2 ⟨?_, l2, l3, l4⟩⟩)
      show (asN 4 (v.size / 4) v).length ≤ 32
      rw [asN_len]
      omega
  · obtain rfl : wr = 2 := by
      have h' : (192, (2 : Int), _, _) = (b, wr, i, f) := Option.some.inj h
      simp only [Prod.mk.injEq] at h'
      exact h'.2.1.symm
    refine ⟨?_, .inr rfl⟩
    rw [tab_16]
    unfold take16
    split
    · exact .inr ⟨rfl, rfl⟩
    · rename_i l hl
      exact .inl ((atOk_iff _).2 ⟨h1, h2, h3, h4, (lists_iff _).2 ⟨l1, l2, readC_ok swoN ltN_total hl, l4⟩⟩)
  · obtain rfl : wr = 2 := by
      have h' : (192, (2 : Int), _, _) = (b, wr, i, f) := Option.some.inj h
      simp only [Prod.mk.injEq] at h'
      exact h'.2.1.symm
    refine ⟨?_, .inr rfl⟩
    rw [tab_32]
    unfold take32
    split
    · exact .inr ⟨rfl, rfl⟩
    · rename_i l hl
      exact .inl ((atOk_iff _).2 ⟨h1, h2, h3, h4, (lists_iff _).2 ⟨l1, l2, l3, readC_ok swoL ltL_total hl⟩⟩)
/-- what of an external neighbour is never taken -/
def outOk (c : AtC) : Prop := c.hasPref = false ∧ c.hasOrig = false ∧ c.clus = []
theorem tab_out {t : Nat} {b wr : Int} {f : FuncId} (h : rowF t = some (b, wr, false, f)) (v : ByteArray) (four : Bool) (c : AtC) (hc : outOk c) : outOk (tab t v four c).1 := by
  rcases row_known h with rfl | rfl | rfl | rfl | rfl | rfl | rfl | rfl | rfl | rfl | rfl | rfl
  · rw [tab_1]; unfold take1; split <;> exact hc
  · rw [tab_2]; unfold take2; split <;> exact hc
  · exact hc
  · rw [tab_4]; unfold take4; split <;> exact hc
  · have h' : ((64 : Int), (2 : Int), true, _) = (b, wr, false, f) := Option.some.inj h
    simp at h'
  · exact hc
  · rw [tab_7]; unfold take7; split <;> exact hc
  · rw [tab_8]; unfold take8; split <;> exact hc
  · have h' : ((128 : Int), (2 : Int), true, _) = (b, wr, false, f) := Option.some.inj h
    simp at h'
  · have h' : ((128 : Int), (2 : Int), true, _) = (b, wr, false, f) := Option.some.inj h
    simp at h'
  · rw [tab_16]; unfold take16; split <;> exact hc
  · rw [tab_32]; unfold take32; split <;> exact hc
/-- what Read has in hand, judged -/
structure JI (internal : Bool) (c : AtC) (v : Vd) : Prop where
  ok : v.act < 2 → atOk c = true
  a0 : 0 ≤ v.act
  a3 : v.act ≤ 3
  code : v.act = 3 → v.code = 3 ∧ (v.sub = 1 ∨ v.sub = 2)
  none : v.act ≠ 3 → v.code = 0 ∧ v.sub = 0
  out : internal = false → outOk c
theorem JI.judge {internal : Bool} {c c' : AtC} {v : Vd} (h : JI internal c v) (x : Vd) (hx : (x.act = 1 ∨ x.act = 2) ∧ x.code = 0 ∧ x.sub = 0 ∨ x.act = 3 ∧ x.code = 3 ∧ (x.sub = 1 ∨ x.sub = 2)) (hok : v.act < 2 → x.act < 2 → atOk c' = true) (ho : internal = false → outOk c') : JI internal c' (judgeF v x) := by
  unfold judgeF
  split
  · rename_i hlt
    exact ⟨fun h1 => hok (by omega) h1, by omega, by omega, fun e => by omega, fun e => by omega, ho⟩
  · rename_i hge
    exact ⟨fun h1 => hok h1 (by omega), h.a0, h.a3, h.code, h.none, ho⟩
theorem JI.step {four internal : Bool} {met : List UInt8} {c : AtC} {v : Vd} (h : JI internal c v) (x : Rw) : JI internal (readStep tab four internal met c v x).1 (readStep tab four internal met c v x).2 := by
  unfold readStep
  split
  · split
    · exact h.judge ⟨3, 3, 1⟩ (.inr ⟨rfl, rfl, .inl rfl⟩) (fun h1 _ => h.ok h1) h.out
    · exact h
  · split
    · exact h
    · split
      · split
        · exact h.judge ⟨3, 3, 2⟩ (.inr ⟨rfl, rfl, .inr rfl⟩) (fun h1 _ => h.ok h1) h.out
        · exact h
      · rename_i b wr i f hrow
        split
        · exact h.judge ⟨1, 0, 0⟩ (.inl ⟨.inl rfl, rfl, rfl⟩) (fun h1 _ => h.ok h1) h.out
        · rename_i hin
          split
          · exact h.judge ⟨2, 0, 0⟩ (.inl ⟨.inr rfl, rfl, rfl⟩) (fun h1 _ => h.ok h1) h.out
          · have hout : internal = false → outOk (tab x.t.toNat x.v four c).1 := fun e => by
              subst e
              have hi : i = false := by cases i <;> simp at hin ⊢
              subst hi
              exact tab_out hrow _ _ _ (h.out rfl)
            have hk := tab_keeps hrow x.v four c
            split
            · rename_i hT
              exact ⟨fun h1 => ((hk (h.ok h1)).1).elim id (fun q => by rw [hT] at q; cases q.1), h.a0, h.a3, h.code, h.none, hout⟩
            · have hwr : wr = 1 ∨ wr = 2 := by
                rcases row_known hrow with e | e | e | e | e | e | e | e | e | e | e | e
                all_goals
                  rw [e] at hrow
                  have h' := Option.some.inj hrow
                  simp only [Prod.mk.injEq] at h'
                  have := h'.2.1
                  omega
              refine h.judge ⟨wr, 0, 0⟩ (.inl ⟨hwr, rfl, rfl⟩) (fun h1 h2 => ?_) hout
              rcases (hk (h.ok h1)).1 with q | q
              · exact q
              · have : wr < 2 := h2
                omega
theorem JI.all {four internal : Bool} : ∀ (L : List Rw) (met : List UInt8) (c : AtC) (v : Vd), JI internal c v → JI internal (readF tab four internal met c v L).1 (readF tab four internal met c v L).2
  | [], _, _, _, h => h
  | x :: r, met, c, v, h => JI.all r (x.t :: met) _ _ (h.step x)
theorem noC_ok : atOk noC = true := by decide
theorem JI.start (internal : Bool) : JI internal noC ⟨0, 0, 0⟩ := ⟨fun _ => noC_ok, by decide, by decide, fun h => absurd h (by decide), fun _ => ⟨rfl, rfl⟩, fun _ => ⟨rfl, rfl, rfl⟩⟩
end Go.Proofs.YtkcojblflebomaaGreat
set_option linter.unusedVariables false
set_option linter.unusedSimpArgs false
namespace Go.Proofs.YtkcojblflebomaaGreat
open Go.RowKit Go.MapKept Go.Shelf
open Go.Lib hiding intOf
open Go.Sort hiding Below

theorem hd_u64 (v : ByteArray) : hd v 8 < 18446744073709551616 := Nat.lt_of_lt_of_le (hd_lt v 8) (by decide)
set_option maxHeartbeats 4000000 in
theorem cdec_8 (s : ByteArray) (w : World) (hm : (s.size : Int) ≤ 140737488351232) :
    Calls Tryz.prog 83 #[.string s] w fun e w' => RcPost (w.heap.size + 1) 35 1 u1 (readC 4 (fun s => hd s 4) ltN s) w' e ∧ Below w.heap.size w w' := by
  have HC := Lib.hid (cread_u32 s w hm)
  generalize readC 4 (fun s => hd s 4) ltN s = RES at HC ⊢
  go_enter Tryz.func83, Tryz.ntmps83
  go_wp2_with fail
  refine HC.out.mono ?_
  rintro e w1 ⟨hp, hb⟩
  have HB := Lib.hid hb
  clear hb HC
  cases RES with
  | none =>
    obtain ⟨n, rfl, hn⟩ := hp
    go_wp2_with fail
    go_ret2
    exact ⟨⟨n, rfl, hn⟩, HB.out⟩
  | some l =>
    obtain ⟨v, rfl, ho⟩ := hp
    have HO := Lib.hid ho
    clear ho
    go_wp2_with fail
    go_ret2
    exact ⟨⟨v, rfl, HO.out⟩, HB.out⟩
set_option maxHeartbeats 8000000 in
theorem take8s : Takes 82 (fun v _ c => take8 v c) := by
  intro b c v four w h hm
  have HDEC := Lib.hid (cdec_8 v w hm)
  obtain ⟨a, hc, ho, hac⟩ := h.x
  have HC := Lib.hid hc
  have HO := Lib.hid ho
  have HAC := Lib.hid hac
  have hlt := hc.lt
  have HT : Hid (take8 v c = match readC 4 (fun s => hd s 4) ltN v with
    | none => ({ c with comms := [] }, false)
    | some l => ({ c with comms := l }, true)) := rfl
  have HFT : Hid (∀ l, readC 4 (fun s => hd s 4) ltN v = some l → ∀ x ∈ l, (fun n : Nat => n < 4294967296) x) := fun l hl => readC_all (p := (fun n : Nat => n < 4294967296)) (fun s => hd_u32 s) hl
  clear hc ho hac h
  generalize readC 4 (fun s => hd s 4) ltN v = RES at HDEC HT HFT
  show Calls _ _ _ _ fun e w' => e = .returned (.bool (take8 v c).2) ∧ AtVar w' b (take8 v c).1 ∧ Tk w w' b
  generalize take8 v c = res at HT ⊢
  go_enter Tryz.func82, Tryz.ntmps82
  go_wp2_with fail
  refine HDEC.out.mono ?_
  rintro e w1 ⟨hpost, hb⟩
  have HC1 : Hid (CellsAt w1 b a.ar 40) := HC.out.below hb hlt
  have HO1 : Hid (AtO w1 (b + 1) a) := HO.out.below hb
  have HB1 := Lib.hid hb
  obtain ⟨c0, c1, c2, c3, c4, c5, c6, c7, c8, c9, c10, c11, c12, c13, c14, c15⟩ := atr_cells HC1.out
  have cf := HC1.out.unfrozen 10
  clear c0 c1 c2 c3 c4 c5 c6 c7 c8 c9 c11 c12 c13 c14 c15
  clear hb HDEC
  cases RES with
  | none =>
    obtain ⟨n, rfl, hn⟩ := hpost
    have hn0 : (n == 0) = false := beq_eq_false_iff_ne.2 (by omega)
    clear hn
    go_wp2_with fail
    go_ret
    refine ⟨by rw [HT.out]; rfl, ?_, Tk.below_set _ HB1.out hlt⟩
    rw [HT.out]
    exact ⟨⟨{ a with mA := none, comms := [], mC := 0 }, HC1.out.setAt 10 _, { HO1.out.setc with comms := OwnL.nil _ _ _ _ _, mfit := fun x hx => by cases hx }, ⟨by rw [← HAC.out.1]; rfl, HAC.out.2⟩⟩⟩
  | some l =>
    obtain ⟨pv, rfl, hso⟩ := hpost
    obtain ⟨A, cc, rfl⟩ := hso.form
    have HSG : Hid (OwnL w1 (b + 1) 35 1 u1 (.slice A l.length cc) l) := OwnM.lower hso (by omega)
    clear hso
    go_wp2_with fail
    go_ret
    refine ⟨by rw [HT.out]; rfl, ?_, Tk.below_set _ HB1.out hlt⟩
    rw [HT.out]
    exact ⟨⟨{ a with mA := A, comms := l, mC := cc }, HC1.out.setAt 10 _, { HO1.out.setc with comms := HSG.out.keep (fun k h1 _ => Below.heap_setCell w1 _ _ k (by show k ≠ b; omega)), mfit := HFT.out l rfl }, ⟨by rw [← HAC.out.1]; rfl, HAC.out.2⟩⟩⟩
set_option maxHeartbeats 4000000 in
theorem cdec_16 (s : ByteArray) (w : World) (hm : (s.size : Int) ≤ 140737488351232) :
    Calls Tryz.prog 87 #[.string s] w fun e w' => RcPost (w.heap.size + 1) 57 1 x1 (readC 8 (fun s => hd s 8) ltN s) w' e ∧ Below w.heap.size w w' := by
  have HC := Lib.hid (cread_u64 s w hm)
  generalize readC 8 (fun s => hd s 8) ltN s = RES at HC ⊢
  go_enter Tryz.func87, Tryz.ntmps87
  go_wp2_with fail
  refine HC.out.mono ?_
  rintro e w1 ⟨hp, hb⟩
  have HB := Lib.hid hb
  clear hb HC
  cases RES with
  | none =>
    obtain ⟨n, rfl, hn⟩ := hp
    go_wp2_with fail
    go_ret2
    exact ⟨⟨n, rfl, hn⟩, HB.out⟩
  | some l =>
    obtain ⟨v, rfl, ho⟩ := hp
    have HO := Lib.hid ho
    clear ho
    go_wp2_with fail
    go_ret2
    exact ⟨⟨v, rfl, HO.out⟩, HB.out⟩
set_option maxHeartbeats 8000000 in
theorem take16s : Takes 86 (fun v _ c => take16 v c) := by
  intro b c v four w h hm
  have HDEC := Lib.hid (cdec_16 v w hm)
  obtain ⟨a, hc, ho, hac⟩ := h.x
  have HC := Lib.hid hc
  have HO := Lib.hid ho
  have HAC := Lib.hid hac
  have hlt := hc.lt
  have HT : Hid (take16 v c = match readC 8 (fun s => hd s 8) ltN v with
    | none => ({ c with exts := [] }, false)
    | some l => ({ c with exts := l }, true)) := rfl
  have HFT : Hid (∀ l, readC 8 (fun s => hd s 8) ltN v = some l → ∀ x ∈ l, (fun n : Nat => n < 18446744073709551616) x) := fun l hl => readC_all (p := (fun n : Nat => n < 18446744073709551616)) (fun s => hd_u64 s) hl
  clear hc ho hac h
  generalize readC 8 (fun s => hd s 8) ltN v = RES at HDEC HT HFT
  show Calls _ _ _ _ fun e w' => e = .returned (.bool (take16 v c).2) ∧ AtVar w' b (take16 v c).1 ∧ Tk w w' b
  generalize take16 v c = res at HT ⊢
  go_enter Tryz.func86, Tryz.ntmps86
  go_wp2_with fail
  refine HDEC.out.mono ?_
  rintro e w1 ⟨hpost, hb⟩
  have HC1 : Hid (CellsAt w1 b a.ar 40) := HC.out.below hb hlt
  have HO1 : Hid (AtO w1 (b + 1) a) := HO.out.below hb
  have HB1 := Lib.hid hb
  obtain ⟨c0, c1, c2, c3, c4, c5, c6, c7, c8, c9, c10, c11, c12, c13, c14, c15⟩ := atr_cells HC1.out
  have cf := HC1.out.unfrozen 11
  clear c0 c1 c2 c3 c4 c5 c6 c7 c8 c9 c10 c12 c13 c14 c15
  clear hb HDEC
  cases RES with
  | none =>
    obtain ⟨n, rfl, hn⟩ := hpost
    have hn0 : (n == 0) = false := beq_eq_false_iff_ne.2 (by omega)
    clear hn
    go_wp2_with fail
    go_ret
    refine ⟨by rw [HT.out]; rfl, ?_, Tk.below_set _ HB1.out hlt⟩
    rw [HT.out]
    exact ⟨⟨{ a with xA := none, exts := [], xC := 0 }, HC1.out.setAt 11 _, { HO1.out.setc with exts := OwnL.nil _ _ _ _ _, xfit := fun x hx => by cases hx }, ⟨by rw [← HAC.out.1]; rfl, HAC.out.2⟩⟩⟩
  | some l =>
    obtain ⟨pv, rfl, hso⟩ := hpost
    obtain ⟨A, cc, rfl⟩ := hso.form
    have HSG : Hid (OwnL w1 (b + 1) 57 1 x1 (.slice A l.length cc) l) := OwnM.lower hso (by omega)
    clear hso
    go_wp2_with fail
    go_ret
    refine ⟨by rw [HT.out]; rfl, ?_, Tk.below_set _ HB1.out hlt⟩
    rw [HT.out]
    exact ⟨⟨{ a with xA := A, exts := l, xC := cc }, HC1.out.setAt 11 _, { HO1.out.setc with exts := HSG.out.keep (fun k h1 _ => Below.heap_setCell w1 _ _ k (by show k ≠ b; omega)), xfit := HFT.out l rfl }, ⟨by rw [← HAC.out.1]; rfl, HAC.out.2⟩⟩⟩
set_option maxHeartbeats 4000000 in
theorem cdec_32 (s : ByteArray) (w : World) (hm : (s.size : Int) ≤ 140737488351232) :
    Calls Tryz.prog 89 #[.string s] w fun e w' => RcPost (w.heap.size + 1) 59 3 Lg.cs (readC 12 lg12 ltL s) w' e ∧ Below w.heap.size w w' := by
  have HC := Lib.hid (cread_L s w hm)
  generalize readC 12 lg12 ltL s = RES at HC ⊢
  go_enter Tryz.func89, Tryz.ntmps89
  go_wp2_with fail
  refine HC.out.mono ?_
  rintro e w1 ⟨hp, hb⟩
  have HB := Lib.hid hb
  clear hb HC
  cases RES with
  | none =>
    obtain ⟨n, rfl, hn⟩ := hp
    go_wp2_with fail
    go_ret2
    exact ⟨⟨n, rfl, hn⟩, HB.out⟩
  | some l =>
    obtain ⟨v, rfl, ho⟩ := hp
    have HO := Lib.hid ho
    clear ho
    go_wp2_with fail
    go_ret2
    exact ⟨⟨v, rfl, HO.out⟩, HB.out⟩
set_option maxHeartbeats 8000000 in
theorem take32s : Takes 88 (fun v _ c => take32 v c) := by
  intro b c v four w h hm
  have HDEC := Lib.hid (cdec_32 v w hm)
  obtain ⟨a, hc, ho, hac⟩ := h.x
  have HC := Lib.hid hc
  have HO := Lib.hid ho
  have HAC := Lib.hid hac
  have hlt := hc.lt
  have HT : Hid (take32 v c = match readC 12 lg12 ltL v with
    | none => ({ c with larges := [] }, false)
    | some l => ({ c with larges := l }, true)) := rfl
  have HFT : Hid (∀ l, readC 12 lg12 ltL v = some l → ∀ x ∈ l, (fun x : Lg => x.g < 4294967296 ∧ x.a < 4294967296 ∧ x.b < 4294967296) x) := fun l hl => readC_all (p := (fun x : Lg => x.g < 4294967296 ∧ x.a < 4294967296 ∧ x.b < 4294967296)) (fun s => ⟨hd_u32 _, hd_u32 _, hd_u32 _⟩) hl
  clear hc ho hac h
  generalize readC 12 lg12 ltL v = RES at HDEC HT HFT
  show Calls _ _ _ _ fun e w' => e = .returned (.bool (take32 v c).2) ∧ AtVar w' b (take32 v c).1 ∧ Tk w w' b
  generalize take32 v c = res at HT ⊢
  go_enter Tryz.func88, Tryz.ntmps88
  go_wp2_with fail
  refine HDEC.out.mono ?_
  rintro e w1 ⟨hpost, hb⟩
  have HC1 : Hid (CellsAt w1 b a.ar 40) := HC.out.below hb hlt
  have HO1 : Hid (AtO w1 (b + 1) a) := HO.out.below hb
  have HB1 := Lib.hid hb
  obtain ⟨c0, c1, c2, c3, c4, c5, c6, c7, c8, c9, c10, c11, c12, c13, c14, c15⟩ := atr_cells HC1.out
  have cf := HC1.out.unfrozen 12
  clear c0 c1 c2 c3 c4 c5 c6 c7 c8 c9 c10 c11 c13 c14 c15
  clear hb HDEC
  cases RES with
  | none =>
    obtain ⟨n, rfl, hn⟩ := hpost
    have hn0 : (n == 0) = false := beq_eq_false_iff_ne.2 (by omega)
    clear hn
    go_wp2_with fail
    go_ret
    refine ⟨by rw [HT.out]; rfl, ?_, Tk.below_set _ HB1.out hlt⟩
    rw [HT.out]
    exact ⟨⟨{ a with lA := none, larges := [], lC := 0 }, HC1.out.setAt 12 _, { HO1.out.setc with larges := OwnL.nil _ _ _ _ _, lfit := fun x hx => by cases hx }, ⟨by rw [← HAC.out.1]; rfl, HAC.out.2⟩⟩⟩
  | some l =>
    obtain ⟨pv, rfl, hso⟩ := hpost
    obtain ⟨A, cc, rfl⟩ := hso.form
    have HSG : Hid (OwnL w1 (b + 1) 59 3 Lg.cs (.slice A l.length cc) l) := OwnM.lower hso (by omega)
    clear hso
    go_wp2_with fail
    go_ret
    refine ⟨by rw [HT.out]; rfl, ?_, Tk.below_set _ HB1.out hlt⟩
    rw [HT.out]
    exact ⟨⟨{ a with lA := A, larges := l, lC := cc }, HC1.out.setAt 12 _, { HO1.out.setc with larges := HSG.out.keep (fun k h1 _ => Below.heap_setCell w1 _ _ k (by show k ≠ b; omega)), lfit := HFT.out l rfl }, ⟨by rw [← HAC.out.1]; rfl, HAC.out.2⟩⟩⟩
theorem row_is {t : Nat} {b wr b' wr' : Int} {i i' : Bool} {f f' : FuncId} (h : rowF t = some (b, wr, i, f)) (h' : rowF t = some (b', wr', i', f')) : f = f' := by
  rw [h] at h'
  injection h' with h'
  simp only [Prod.mk.injEq] at h'
  exact h'.2.2.2
/-- each type is taken so -/
theorem tab_takes (n : Nat) (b wr : Int) (i : Bool) (f : FuncId) (h : rowF n = some (b, wr, i, f)) : TakesT tab n f := by
  have hk := row_known h
  unfold TakesT
  rcases hk with rfl | rfl | rfl | rfl | rfl | rfl | rfl | rfl | rfl | rfl | rfl | rfl
  · rw [if_neg (by decide), row_is h (show rowF 1 = some (_, _, _, _) from rfl)]
    exact ⟨takes1, fun v four c => by show (take1 v c).1.clus = c.clus; unfold take1; split <;> rfl⟩
  · rw [if_neg (by decide), row_is h (show rowF 2 = some (_, _, _, _) from rfl)]
    exact ⟨takes2, fun v four c => by show (take2 v four c).1.clus = c.clus; unfold take2; split <;> rfl⟩
  · rw [if_neg (by decide), row_is h (show rowF 3 = some (_, _, _, _) from rfl)]
    exact ⟨takes3, fun v four c => rfl⟩
  · rw [if_neg (by decide), row_is h (show rowF 4 = some (_, _, _, _) from rfl)]
    exact ⟨take4s, fun v four c => by show (take4 v c).1.clus = c.clus; unfold take4; split <;> rfl⟩
  · rw [if_neg (by decide), row_is h (show rowF 5 = some (_, _, _, _) from rfl)]
    exact ⟨take5s, fun v four c => by show (take5 v c).1.clus = c.clus; unfold take5; split <;> rfl⟩
  · rw [if_neg (by decide), row_is h (show rowF 6 = some (_, _, _, _) from rfl)]
    exact ⟨take6s, fun v four c => rfl⟩
  · rw [if_neg (by decide), row_is h (show rowF 7 = some (_, _, _, _) from rfl)]
    exact ⟨take7s, fun v four c => by show (take7 v four c).1.clus = c.clus; unfold take7; split <;> rfl⟩
  · rw [if_neg (by decide), row_is h (show rowF 8 = some (_, _, _, _) from rfl)]
    exact ⟨take8s, fun v four c => by show (take8 v c).1.clus = c.clus; unfold take8; split <;> rfl⟩
  · rw [if_neg (by decide), row_is h (show rowF 9 = some (_, _, _, _) from rfl)]
    exact ⟨take9s, fun v four c => by show (take9 v c).1.clus = c.clus; unfold take9; split <;> rfl⟩
  · rw [if_pos rfl, row_is h (show rowF 10 = some (_, _, _, _) from rfl)]
    exact take10s
  · rw [if_neg (by decide), row_is h (show rowF 16 = some (_, _, _, _) from rfl)]
    exact ⟨take16s, fun v four c => by show (take16 v c).1.clus = c.clus; unfold take16; split <;> rfl⟩
  · rw [if_neg (by decide), row_is h (show rowF 32 = some (_, _, _, _) from rfl)]
    exact ⟨take32s, fun v four c => by show (take32 v c).1.clus = c.clus; unfold take32; split <;> rfl⟩
end Go.Proofs.YtkcojblflebomaaGreat
set_option linter.unusedVariables false
set_option linter.unusedSimpArgs false
namespace Go.Proofs.YtkcojblflebomaaGreat
open Go.RowKit Go.MapKept Go.Shelf
open Go.Lib hiding intOf

theorem wp_name {P : Program} {c : Code} {Q : Exit → Act → World → Prop} {a : Act} {w : World} (h : ∀ W, W = w → Code.wp P c Q a W) : Code.wp P c Q a w := h w rfl
def vdV (v : Vd) : Array Value := #[.int .i64 v.act, .int .u8 v.code, .int .u8 v.sub]
/-- two variables, stored into one behind the other -/
def rdW (w : World) (cs xs : Array Value) (v : Vd) : World := (((w.alloc (.cells cs 40)).alloc (.cells #[.int .i64 0, .int .u8 0, .int .u8 0] 42)).setRow w.heap.size xs).setRow (w.heap.size + 1) #[.int .i64 v.act, .int .u8 v.code, .int .u8 v.sub]
theorem rd_z (w : World) (cs : Array Value) : CellsAt ((w.alloc (.cells cs 40)).alloc (.cells #[.int .i64 0, .int .u8 0, .int .u8 0] 42)) w.heap.size cs 40 := (CellsAt.new _ _ _).alloc _
theorem rd_y (w : World) (cs xs : Array Value) : CellsAt (((w.alloc (.cells cs 40)).alloc (.cells #[.int .i64 0, .int .u8 0, .int .u8 0] 42)).setRow w.heap.size xs) (w.heap.size + 1) #[.int .i64 0, .int .u8 0, .int .u8 0] 42 := by
  have h := CellsAt.new (w.alloc (.cells cs 40)) #[.int .i64 0, .int .u8 0, .int .u8 0] 42
  have e5 : (w.alloc (.cells cs 40)).heap.size = w.heap.size + 1 := by simp
  rw [e5] at h
  exact h.row (grown_setRow' _ _ _) (by omega)
theorem rd_a (w : World) (cs xs : Array Value) (v : Vd) : CellsAt (rdW w cs xs v) w.heap.size xs 40 := ((rd_z w cs).setRow' _).row (grown_setRow' _ _ _) (by omega)
theorem rd_v (w : World) (cs xs : Array Value) (v : Vd) : CellsAt (rdW w cs xs v) (w.heap.size + 1) #[.int .i64 v.act, .int .u8 v.code, .int .u8 v.sub] 42 := (rd_y w cs xs).setRow' _
theorem rd_b (w : World) (cs xs : Array Value) (v : Vd) : Below w.heap.size w (rdW w cs xs v) := ((((Below.refl _ _).alloc (Nat.le_refl _) _).alloc (by simp) _).grown (grown_setRow' _ _ _) (by simp; omega) (fun k hk => by cases hk; omega)).grown (grown_setRow' _ _ _) (by rw [setRow_size]; simp; omega) (fun k hk => by cases hk; omega)
theorem rd_size (w : World) (cs xs : Array Value) (v : Vd) : (rdW w cs xs v).heap.size = w.heap.size + 2 := by
  unfold rdW
  rw [setRow_size, setRow_size]
  simp
/-- attr.Read over the whole table -/
theorem read_tab (A : Option Addr) (cap : Nat) (L : List Rw) (four internal : Bool) (w : World) (h : RwsOk w A cap L) (hsz : ∀ r ∈ L, r.v.size ≤ 140737488351232) :
    Calls Tryz.prog 19 #[.slice A L.length cap, .bool four, .bool internal] w fun e w' => (∃ a : Atr, e = .returned (.tuple #[.agg a.ar, .agg #[.int .i64 (readF tab four internal [] noC ⟨0, 0, 0⟩ L).2.act, .int .u8 (readF tab four internal [] noC ⟨0, 0, 0⟩ L).2.code, .int .u8 (readF tab four internal [] noC ⟨0, 0, 0⟩ L).2.sub]]) ∧ AtO w' w.heap.size a ∧ a.c = (if 2 ≤ (readF tab four internal [] noC ⟨0, 0, 0⟩ L).2.act then noC else (readF tab four internal [] noC ⟨0, 0, 0⟩ L).1)) ∧ Below w.heap.size w w' := by
  refine (read_any tab A cap L four internal w h hsz (fun x hx b wr i f hr => tab_takes _ b wr i f hr)).mono ?_
  rintro e w' ⟨⟨a, he, ho, hc⟩, hb⟩
  exact ⟨⟨a, he, ho, hc⟩, hb⟩
theorem check_ok (a : Atr) (w : World) (h : AtrOk w a) (hc : atOk a.c = true) : Calls Tryz.prog 26 #[.agg a.ar] w fun e w' => e = .returned (.int .i64 0) ∧ Below w.heap.size w w' := by
  have h2 := check_any a w h
  rw [hc] at h2
  exact h2
theorem same_yes (a b : Atr) (w : World) (h1 : AtrOk w a) (h2 : AtrOk w b) (hc : a.c = b.c) : Calls Tryz.prog 23 #[.agg a.ar, .agg b.ar] w fun e w' => e = .returned (.bool true) ∧ Below w.heap.size w w' := by
  have h := same_any a b w h1 h2
  rw [decide_eq_true hc] at h
  exact h
theorem wpList_load_attrs_g {ops : Array Oper} {rest : List Oper} {op : Oper} {a : Act} {w : World} {Q : Exit → Act → World → Prop} (hw : Region.wanted op (yielded ops a.tmps) = true) (src : Operand) (ho : op.op = .load 40 src) (b : Nat) (hx : a.eval src = .pointer (some ⟨b, 0, none⟩)) (p : Atr) (hc : CellsAt w b p.ar 40)
    (h : wpList Tryz.prog ops Q rest (a.put op.dst p.v) w) : wpList Tryz.prog ops Q (op :: rest) a w := by
  obtain ⟨fs, hu⟩ := attrs_under
  refine wpList_step fun K hK => ?_
  rw [if_pos hw]
  exact wp_load_mid 40 src ho b 0 hx p.ar.toList _ hc.range hu rfl (by rw [attrs_size]; rfl) (hK _ _ h)
theorem noAtr_ok (w : World) : AtrOk w noAtr := (noAtr_own w 0).ok
end Go.Proofs.YtkcojblflebomaaGreat
set_option linter.unusedVariables false
set_option linter.unusedSimpArgs false
namespace Go.Proofs.YtkcojblflebomaaGreat
open Go.RowKit Go.MapKept Go.Shelf
open Go.Lib hiding intOf

theorem SplitPost.both {base : Nat} {res : Option (List Rw)} {w : World} {e : Ending} (h : SplitPost base res w e) : ∃ A c, e = .returned (.tuple #[.slice A (res.getD []).length c, .bool res.isSome]) ∧ OwnL w base 32 3 Rw.cs (.slice A (res.getD []).length c) (res.getD []) := by
  cases res with
  | none => exact ⟨none, 0, h, OwnL.nil _ _ _ _ _⟩
  | some L =>
    obtain ⟨v, he, ho⟩ := h
    obtain ⟨A, c, rfl⟩ := ho.form
    exact ⟨A, c, he, ho⟩
theorem splitStep_fits {s t : ByteArray} {r : Rw} (h : splitStep s = some (r, t)) : r.v.size ≤ s.size ∧ t.size + 3 + r.v.size ≤ s.size := by
  unfold splitStep at h
  split at h
  · cases h
  · split at h
    · cases h
    · split at h
      · cases h
      · simp only [Option.some.injEq, Prod.mk.injEq] at h
        obtain ⟨rfl, rfl⟩ := h
        simp only [nx_size, ByteArray.size_extract] at *
        have : 1 ≤ lenSize (hd s 1) := by unfold lenSize; split <;> omega
        omega
theorem splitF_fits : ∀ (n : Nat) (s : ByteArray) (L : List Rw), splitF n s = some L → (∀ r ∈ L, r.v.size ≤ s.size) ∧ L.length * 3 ≤ s.size
  | 0, s, L, h => by
    unfold splitF at h
    split at h
    · cases h
      exact ⟨fun r hr => (by cases hr), by simp⟩
    · cases h
  | n + 1, s, L, h => by
    unfold splitF at h
    split at h
    · cases h
      exact ⟨fun r hr => (by cases hr), by simp⟩
    · cases hs : splitStep s with
      | none => rw [hs] at h; cases h
      | some x =>
        obtain ⟨r, t⟩ := x
        rw [hs] at h
        simp only at h
        cases hf : splitF n t with
        | none => rw [hf] at h; cases h
        | some M =>
          rw [hf] at h
          obtain rfl : r :: M = L := Option.some.inj h
          have h1 := splitStep_fits hs
          have h2 := splitF_fits n t M hf
          refine ⟨fun q hq => ?_, by rw [List.length_cons]; omega⟩
          rcases List.mem_cons.1 hq with rfl | hq
          · exact h1.1
          · have := h2.1 q hq
            omega
theorem splitA_fits (s : ByteArray) : (∀ r ∈ (splitA s).getD [], r.v.size ≤ s.size) ∧ ((splitA s).getD []).length * 3 ≤ s.size := by
  cases h : splitA s with
  | none => exact ⟨fun r hr => (by cases hr), by simp⟩
  | some L => exact splitF_fits _ _ _ h
/-- Split, nil or not -/
theorem split_both (s : ByteArray) (w : World) (hm0 : (s.size : Int) ≤ 1048576) (L : List Rw) (b : Bool) (h : splitA s = if b = true then some L else none) (hL : b = false → L = []) :
    Calls Tryz.prog 17 #[.string s] w fun e w' => (∃ A c, e = .returned (.tuple #[.slice A L.length c, .bool b]) ∧ OwnL w' (w.heap.size + 1) 32 3 Rw.cs (.slice A L.length c) L) ∧ Below w.heap.size w w' := by
  refine (split_any s w hm0).mono fun e w' ⟨hp, hb⟩ => ⟨?_, hb⟩
  have h2 := hp.both
  rw [h] at h2
  cases b with
  | true => exact h2
  | false => rw [hL rfl]; exact h2
theorem rsplit_both (s : ByteArray) (w : World) (hm0 : (s.size : Int) ≤ 1048576) (L : List Rw) (b : Bool) (h : splitA s = if b = true then some L else none) (hL : b = false → L = []) :
    Calls Tryz.prog 18 #[.string s] w fun e w' => (∃ A c, e = .returned (.tuple #[.slice A L.length c, .bool b]) ∧ OwnL w' w.heap.size 32 3 Rw.cs (.slice A L.length c) L) ∧ Below w.heap.size w w' := by
  refine (rsplit_any s w hm0).mono fun e w' ⟨hp, hb⟩ => ⟨?_, hb⟩
  have h2 := hp.both
  rw [h] at h2
  cases b with
  | true => exact h2
  | false => rw [hL rfl]; exact h2
theorem split_letters (s : ByteArray) : ∃ (L : List Rw) (b : Bool), splitA s = (if b = true then some L else none) ∧ (b = false → L = []) ∧ (∀ r ∈ L, r.v.size ≤ s.size) ∧ L.length * 3 ≤ s.size := by
  have hf := splitA_fits s
  cases h : splitA s with
  | none => exact ⟨[], false, by simp, fun _ => rfl, fun r hr => (by cases hr), by simp⟩
  | some L =>
    rw [h] at hf
    exact ⟨L, true, by simp, fun h => (by cases h), hf.1, hf.2⟩
end Go.Proofs.YtkcojblflebomaaGreat
set_option linter.unusedVariables false
set_option linter.unusedSimpArgs false
namespace Go.Proofs.YtkcojblflebomaaGreat
open Go.RowKit Go.MapKept Go.Shelf
open Go.ChangeShapes Go.WideShapes Go.ChangeAt
open Go.ChangeMaps (open_string shut_string)
open Go.Lib hiding intOf

theorem bulk_string {H : Type} {s : ByteArray} {l : List (DataW H)} (hk : Rows.uptoSmall H (.lit (.string s.data.toList) :: l) = true) : s.size ≤ 1048576 := by
  have h : Rows.uptoBulkAll (DataW.lit (H := H) (.string s.data.toList) :: l) ≤ 1048576 := of_decide_eq_true hk
  have h2 : s.data.toList.length = s.size := rfl
  simp only [Rows.uptoBulkAll, Rows.uptoBulk] at h
  omega
set_option maxRecDepth 100000 in
set_option maxHeartbeats 8000000 in
theorem judged_walk (s : ByteArray) (four internal : Bool) (w : World) (hs : s.size ≤ 1048576) :
    Calls Tryz.prog 10 #[.string s, .bool four, .bool internal] w fun e w' => e = .returned (.bool true) ∧ Below w.heap.size w w' := by
  obtain ⟨L, b, hsp, hbl, hf, hl⟩ := split_letters s
  have HSP : Hid (∀ W, Calls Tryz.prog 17 #[.string s] W fun e w' => (∃ A c, e = .returned (.tuple #[.slice A L.length c, .bool b]) ∧ OwnL w' (W.heap.size + 1) 32 3 Rw.cs (.slice A L.length c) L) ∧ Below W.heap.size W w') := fun W => split_both s W (by omega) L b hsp hbl
  have HWK := Lib.hid works_any
  cases b with
  | false =>
    obtain rfl := hbl rfl
    clear hsp hbl hf hl hs
    go_enter Tryz.func10, Tryz.ntmps10
    go_wp2_with fail
    refine (HWK.out _).mono ?_
    rintro e w1 ⟨rfl, hb1⟩
    have HB1 := Lib.hid hb1
    clear hb1
    go_wp2_with fail
    refine (HSP.out _).mono ?_
    rintro e w2 ⟨⟨A, c, rfl, ho⟩, hb2⟩
    have HB2 := Lib.hid (HB1.out.trans (hb2.mono HB1.out.size))
    clear ho hb2 HB1
    go_wp2_with fail
    go_ret
    exact ⟨rfl, HB2.out⟩
  | true =>
    have hJ := JI.all (four := four) (internal := internal) L [] noC ⟨0, 0, 0⟩ (JI.start internal)
    have HRE : Hid (∀ A c W, RwsOk W A c L → Calls Tryz.prog 19 #[.slice A L.length c, .bool four, .bool internal] W fun e w' => (∃ a : Atr, e = .returned (.tuple #[.agg a.ar, .agg #[.int .i64 (readF tab four internal [] noC ⟨0, 0, 0⟩ L).2.act, .int .u8 (readF tab four internal [] noC ⟨0, 0, 0⟩ L).2.code, .int .u8 (readF tab four internal [] noC ⟨0, 0, 0⟩ L).2.sub]]) ∧ AtrOk w' a ∧ a.c = (if 2 ≤ (readF tab four internal [] noC ⟨0, 0, 0⟩ L).2.act then noC else (readF tab four internal [] noC ⟨0, 0, 0⟩ L).1)) ∧ Below W.heap.size W w') := fun A c W h => by
      refine (read_tab A c L four internal W h (fun r hr => by have := hf r hr; omega)).mono ?_
      rintro e w' ⟨⟨a, he, ho, hc⟩, hb⟩
      exact ⟨⟨a, he, ho.ok, hc⟩, hb⟩
    have HFI : Hid (∀ r ∈ L, r.v.size ≤ 9223372036854775807) := fun r hr => by have := hf r hr; omega
    have HOK : Hid (∀ {W : World} {base : Nat} {A : Option Addr} {c : Nat}, OwnL W base 32 3 Rw.cs (.slice A L.length c) L → RwsOk W A c L) := by
      show ∀ {W : World} {base : Nat} {A : Option Addr} {c : Nat}, _
      intro W base A c ho
      obtain ⟨A2, c2, hv, hok⟩ := OwnL.raws ho HFI.out
      injection hv with e1 e2 e3
      subst e1
      subst e3
      exact hok
    generalize (readF tab four internal [] noC ⟨0, 0, 0⟩ L).1 = R at hJ HRE
    generalize (readF tab four internal [] noC ⟨0, 0, 0⟩ L).2 = v at hJ HRE
    obtain ⟨act, code, sub⟩ := v
    change Hid (∀ A c W, RwsOk W A c L → Calls Tryz.prog 19 #[.slice A L.length c, .bool four, .bool internal] W fun e w' => (∃ a : Atr, e = .returned (.tuple #[.agg a.ar, .agg #[.int .i64 act, .int .u8 code, .int .u8 sub]]) ∧ AtrOk w' a ∧ a.c = (if 2 ≤ act then noC else R)) ∧ Below W.heap.size W w') at HRE
    have ha0 : 0 ≤ act := hJ.a0
    have ha3 : act ≤ 3 := hJ.a3
    have HJ := Lib.hid hJ
    clear hsp hbl hf hl hs hJ
    go_enter Tryz.func10, Tryz.ntmps10
    go_wp2_with fail
    refine (HWK.out _).mono ?_
    rintro e w1 ⟨rfl, hb1⟩
    have HB1 := Lib.hid hb1
    clear hb1
    go_wp2_with fail
    refine (HSP.out _).mono ?_
    rintro e w2 ⟨⟨A, c, rfl, ho⟩, hb2⟩
    have HB2 := Lib.hid (HB1.out.trans (hb2.mono HB1.out.size))
    have HO := Lib.hid (HOK.out ho)
    clear ho hb2 HB1
    go_wp2_with fail
    refine (HRE.out A c _ HO.out).mono ?_
    rintro e w3 ⟨⟨a, rfl, hok, hac⟩, hb3⟩
    have HB3 := Lib.hid (HB2.out.trans (hb3.mono HB2.out.size))
    have HA := Lib.hid hok
    have HATOK : Hid (atOk a.c = true) := by
      show _ = _
      rw [hac]
      by_cases h2 : 2 ≤ act
      · rw [if_pos h2]; exact noC_ok
      · rw [if_neg h2]; exact HJ.out.ok (by show act < 2; omega)
    have HNO : Hid (2 ≤ act → a.c = noC) := fun h => by rw [hac, if_pos h]
    have HOUT : Hid (internal = false → outOk a.c) := fun h => by
      rw [hac]
      by_cases h2 : 2 ≤ act
      · rw [if_pos h2]; exact ⟨rfl, rfl, rfl⟩
      · rw [if_neg h2]; exact HJ.out.out h
    clear hok hac hb3 HB2 HO
    go_upto_region 7 with (with_reducible show wpList _ _ _ (_ :: _) _ _; first | refine wpList_store_attrs rfl (.tmp 9) (.tmp 28) rfl w3.heap.size rfl a rfl noAtr (rd_z _ _) ?_ | refine wpList_store_verdict rfl (.tmp 10) (.tmp 29) rfl (w3.heap.size + 1) rfl ⟨act, code, sub⟩ rfl ⟨0, 0, 0⟩ (rd_y _ _ _) ?_)
    refine wp_name fun V hV => ?_
    have HCV : Hid (CellsAt V w3.heap.size a.ar 40) := by rw [hV]; exact rd_a _ _ _ ⟨act, code, sub⟩
    have HVV : Hid (CellsAt V (w3.heap.size + 1) #[.int .i64 act, .int .u8 code, .int .u8 sub] 42) := by rw [hV]; exact rd_v _ _ _ ⟨act, code, sub⟩
    have HBV3 : Hid (Below w3.heap.size w3 V) := by rw [hV]; exact rd_b _ _ _ ⟨act, code, sub⟩
    have HBV := Lib.hid (HB3.out.trans (HBV3.out.mono HB3.out.size))
    have HAV := Lib.hid (HA.out.below HBV3.out (Nat.le_refl _))
    have hlt := HCV.out.lt
    have hlt2 := HVV.out.lt
    clear hV HB3 HBV3 HA
    have HCK := Lib.hid check_ok
    have HSA := Lib.hid same_yes
    have hq0 : ¬ act < 0 := by omega
    have hq3 : ¬ 3 < act := by omega
    go_wp2_with (with_reducible show wpList _ _ _ (_ :: _) _ _; refine wpList_load_attrs rfl (.tmp 9) rfl w3.heap.size rfl a HCV.out ?_)
    refine (HCK.out a _ HAV.out HATOK.out).mono ?_
    rintro e w4 ⟨rfl, hb4⟩
    have HC4 : Hid (CellsAt w4 w3.heap.size a.ar 40) := HCV.out.below hb4 hlt
    have HV4 : Hid (CellsAt w4 (w3.heap.size + 1) #[.int .i64 act, .int .u8 code, .int .u8 sub] 42) := HVV.out.below hb4 hlt2
    have HA4 : Hid (AtrOk w4 a) := HAV.out.below hb4 (Nat.le_refl _)
    have HB4 := Lib.hid (HBV.out.trans (hb4.mono HBV.out.size))
    have hlt4 := HC4.out.lt
    have hlt5 := HV4.out.lt
    obtain ⟨d0, d1, d2⟩ := CellsAt.c3 HV4.out
    clear hb4 HCV HVV HAV HBV hlt hlt2
    by_cases h2 : 2 ≤ act
    · have HSN := Lib.hid (HNO.out h2)
      have hsub : act = 3 → code = 3 ∧ (sub = 1 ∨ sub = 2) := fun h => HJ.out.code h
      have hnone : act ≠ 3 → code = 0 ∧ sub = 0 := fun h => HJ.out.none h
      have HSB : Hid ((act = 3 → code = 3 ∧ (sub = 1 ∨ sub = 2)) ∧ (act ≠ 3 → code = 0 ∧ sub = 0)) := ⟨hsub, hnone⟩
      clear hsub hnone
      go_wp2_with (with_reducible show wpList _ _ _ (_ :: _) _ _; refine wpList_load_attrs_g (by kernel_rfl) (.tmp 9) rfl w3.heap.size rfl a HC4.out ?_)
      refine (HSA.out a noAtr _ HA4.out (noAtr_ok _) HSN.out).mono ?_
      rintro e w5 ⟨rfl, hb5⟩
      have HC5 : Hid (CellsAt w5 w3.heap.size a.ar 40) := HC4.out.below hb5 hlt4
      have HV5 : Hid (CellsAt w5 (w3.heap.size + 1) #[.int .i64 act, .int .u8 code, .int .u8 sub] 42) := HV4.out.below hb5 hlt5
      have HB5 := Lib.hid (HB4.out.trans (hb5.mono HB4.out.size))
      clear hb5 HC4 HV4 HB4 HA4 d0 d1 d2
      obtain ⟨d0, d1, d2⟩ := CellsAt.c3 HV5.out
      obtain ⟨c0, c1, c2, c3, c4, c5, c6, c7, c8, c9, c10, c11, c12, c13, c14, c15⟩ := atr_cells HC5.out
      clear c0 c1 c2 c3 c4 c6 c7 c8 c9 c10 c11 c12 c14
      by_cases h3 : act = 3
      · obtain ⟨rfl, hs⟩ := HSB.out.1 h3
        subst h3
        rcases hs with rfl | rfl
        · go_wp2_with fail
          go_ret
          exact ⟨rfl, HB5.out⟩
        · go_wp2_with fail
          go_ret
          exact ⟨rfl, HB5.out⟩
      · obtain ⟨rfl, rfl⟩ := HSB.out.2 h3
        obtain rfl : act = 2 := by omega
        have hn : a.hasPref = false ∧ a.hasOrig = false ∧ a.clus.length = 0 := by
          have e := HSN.out
          have e1 := congrArg AtC.hasPref e
          have e2 := congrArg AtC.hasOrig e
          have e3 := congrArg (fun x => (AtC.clus x).length) e
          exact ⟨e1, e2, e3⟩
        obtain ⟨n1, n2, n3⟩ := hn
        rw [n1] at c5
        rw [n2] at c13
        rw [n3] at c15
        clear n1 n2 n3
        cases internal with
        | true =>
          go_wp2_with fail
          go_ret
          exact ⟨rfl, HB5.out⟩
        | false =>
          go_wp2_with fail
          go_ret
          exact ⟨rfl, HB5.out⟩
    · have hn : code = 0 ∧ sub = 0 := HJ.out.none (by show act ≠ 3; omega)
      obtain ⟨rfl, rfl⟩ := hn
      have h3 : (act == 3) = false := beq_eq_false_iff_ne.2 (by omega)
      obtain ⟨c0, c1, c2, c3, c4, c5, c6, c7, c8, c9, c10, c11, c12, c13, c14, c15⟩ := atr_cells HC4.out
      clear c0 c1 c2 c3 c4 c6 c7 c8 c9 c10 c11 c12 c14
      cases internal with
      | true =>
        go_wp2_with fail
        go_ret
        exact ⟨rfl, HB4.out⟩
      | false =>
        obtain ⟨n1, n2, n3⟩ := HOUT.out rfl
        have n1' : a.hasPref = false := n1
        have n2' : a.hasOrig = false := n2
        have n3' : a.clus.length = 0 := by
          have e : a.clus = [] := n3
          rw [e]
          rfl
        rw [n1'] at c5
        rw [n2'] at c13
        rw [n3'] at c15
        clear n1 n2 n3 n1' n2' n3'
        go_wp2_with fail
        go_ret
        exact ⟨rfl, HB4.out⟩
set_option maxHeartbeats 4000000 in
set_option maxRecDepth 100000 in
theorem attrJudged_liftedU (os : Os) (started : os.Started) (H : Type) (enc : TypeId × Value → H) (F : Stop.Interp) :
    ReturnsInHanded {} Tryz.checked os 10 .any ((Rows.OpenSpec.upto Rows.attrJudgedSpec).pre6 enc Tryz.prog Tryz.f10 Rows.attrJudgedUptoRow.domain false) (((Rows.OpenSpec.upto Rows.attrJudgedSpec).at F).post enc Tryz.prog Tryz.f10 false true false false) := by
  refine returnsInHanded_of_cond (C := Tryz.checked) (s := Rows.OpenSpec.upto Rows.attrJudgedSpec) (k := Rows.uptoSmall) rfl own started (by kernel_rfl) Tryz.func10
    (OpenSpec.witness (enc := enc) (C := Tryz.checked) (s := Rows.OpenSpec.upto Rows.attrJudgedSpec) (k := Rows.uptoSmall) rfl false ⟨#[], #[.string ⟨#[]⟩, .bool false, .bool false], []⟩ 8 (by kernel_rfl) (by kernel_rfl) (by kernel_rfl)
      (x := ([.lit (.string []), .lit (.bool false), .lit (.bool false)], [], [])) (by kernel_rfl) rfl (by kernel_rfl)) ?_
  intro W base args ds gs before hval0 hW hcnd hk _
  have hval : ∀ (j : Nat) t v, Tryz.f10.params[j]? = some t → args[j]? = some v → Value.okWide Tryz.prog W .any base t v := hval0
  have hW' := hW
  obtain ⟨p, q, hA0, hV, rfl, hfz, hnd⟩ := hW
  have hA : DataW.TrodAll enc Tryz.prog W 0 (fun _ => true) true Tryz.f10.params.toList args.toList ds p := hA0
  rw [Tryz.params10] at hA hval
  obtain ⟨v0, vs0, d0, ds0, p0, q0, hargs, rfl, rfl, h0, r0⟩ := trodAll_cons hA
  obtain ⟨v1, vs1, d1, ds1, p1, q1, rfl, rfl, rfl, h1, r1⟩ := trodAll_cons r0
  obtain ⟨v2, vs2, d2, ds2, p2, q2, rfl, rfl, rfl, h2, r2⟩ := trodAll_cons r1
  obtain ⟨rfl, rfl, rfl⟩ := trodAll_nil r2
  obtain rfl : args = #[v0, v1, v2] := by cases args; simp_all
  obtain ⟨rfl, rfl⟩ := trodVars_none hV
  obtain ⟨s, rfl, rfl, rfl, hs_s⟩ := open_string Tryz.underlying9 (hval 0 9 v0 rfl rfl) h0
  obtain ⟨four, rfl, rfl, rfl⟩ := open_bool Tryz.underlying4 (hval 1 4 v1 rfl rfl) h1
  obtain ⟨internal, rfl, rfl, rfl⟩ := open_bool Tryz.underlying4 (hval 2 4 v2 rfl rfl) h2
  simp only [List.append_nil] at hk
  refine (judged_walk s four internal W (bulk_string hk)).mono fun e W' ⟨he, bel⟩ => ?_
  exact ⟨_, he, law_post laidOut (by kernel_rfl) rfl (by kernel_rfl) Tryz.underlying4 hW' rfl bel⟩

theorem attrJudged_holdsU : Rows.AttrJudgedUptoSaid :=
  OpenClaim.holds_of_cond 10 Tryz.f10 rfl rfl rfl rfl rfl rfl rfl ⟨rfl, rfl, rfl, rfl, rfl⟩ rfl rfl rfl rfl rfl (by kernel_rfl) Tryz.func10 (by kernel_rfl)
    (of_decide_eq_true (by kernel_rfl)) (by unfold Func.isWrapper; first | (rw [if_pos (by decide +kernel)]; kernel_rfl) | (rw [if_neg (by decide +kernel)]; exact ⟨rfl, rfl⟩))
    (fun os started H enc _ F => attrJudged_liftedU os started H enc F)
end Go.Proofs.YtkcojblflebomaaGreat
