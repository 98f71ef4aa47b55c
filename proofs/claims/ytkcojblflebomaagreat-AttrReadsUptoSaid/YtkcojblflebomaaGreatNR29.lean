/-
  Several texts in one.
-/
import Derived.Test.YtkcojblflebomaaGreatNR21
import Derived.OrdersHeld
set_option linter.unusedVariables false
set_option linter.unusedSimpArgs false
namespace Go.Proofs.YtkcojblflebomaaGreat
open Go.RowKit Go.MapKept Go.Shelf
open Go.Lib hiding intOf

def LgC (w : World) (g o : Nat) (x : Lg) : Prop := w.cell? ⟨g, o, none⟩ = some (.int .u32 (x.g : Nat)) ∧ w.cell? ⟨g, o + 1, none⟩ = some (.int .u32 (x.a : Nat)) ∧ w.cell? ⟨g, o + 2, none⟩ = some (.int .u32 (x.b : Nat))
theorem own_lg {w : World} {base g n cap i : Nat} {cur : List Lg} {x : Lg} (h : OwnM w base 59 3 (.slice (some ⟨g, 0, none⟩) n cap) n (cur.flatMap Lg.cs)) (hn : 0 < n) (hx : cur[i]? = some x) : LgC w g (i * 3) x := by
  obtain ⟨g2, cap2, hv, _, _, _, _, hc, _⟩ := OwnM.cells h hn
  simp only [Value.slice.injEq, Option.some.injEq, Addr.mk.injEq] at hv
  obtain ⟨⟨rfl, _⟩, _, rfl⟩ := hv
  exact ⟨hc _ _ (flat_at Lg.cs_len cur i x 0 _ hx rfl), hc _ _ (flat_at Lg.cs_len cur i x 1 _ hx rfl), hc _ _ (flat_at Lg.cs_len cur i x 2 _ hx rfl)⟩
theorem own_there {w : World} {base g n cap : Nat} {xs : List Value} (h : OwnM w base 59 3 (.slice (some ⟨g, 0, none⟩) n cap) n xs) (hn : 0 < n) : w.there g 0 (n * 3) := by
  obtain ⟨g2, cap2, hv, _, _, _, _, ht⟩ := OwnM.there h hn
  simp only [Value.slice.injEq, Option.some.injEq, Addr.mk.injEq] at hv
  obtain ⟨⟨rfl, _⟩, _, rfl⟩ := hv
  exact ht
theorem zero_large : ∀ w, (zeroValue 59).run Tryz.prog w = .ok (.agg #[.int .u32 0, .int .u32 0, .int .u32 0]) w := Tryz.zeroValue59
theorem clear_L {w : World} {base g n cap k : Nat} {xs : List Value} (h : OwnM w base 59 3 (.slice (some ⟨g, 0, none⟩) n cap) n xs) (hk : k < n) (c : Nat) (ty : TypeId) :
    ∃ w', (Builtin.clear_ #[38] ty #[.slice (some ⟨g, k * 3, none⟩) (n - k) c]).run Tryz.prog w = .ok (.tuple #[]) w' ∧ OwnM w' base 59 3 (.slice (some ⟨g, 0, none⟩) k cap) k (xs.take (k * 3)) ∧ w.grownBy w' (some g) := by
  have ht := own_there h (by omega)
  refine ⟨_, run_clear_k (P := Tryz.prog) w 38 59 ty (.agg #[.int .u32 0, .int .u32 0, .int .u32 0]) Tryz.underlying38 zero_large (by simp [Value.cells, Value.oneCell']) (by decide) g (k * 3) (n - k) c (by omega) (fun j hj => ?_) (fun j hj => ?_), ?_, grown_setCells g _ _ w⟩
  · have := (ht (k * 3 + j) (by simp [Value.cells] at hj; omega)).1
    rwa [Nat.zero_add] at this
  · have := (ht (k * 3 + j) (by simp [Value.cells] at hj; omega)).2
    rwa [Nat.zero_add] at this
  · have h1 := OwnM.setMany (Builtin.zeroCells (Value.agg #[.int .u32 0, .int .u32 0, .int .u32 0]).cells (n - k)).toList (k * 3) w xs h (by simp [Builtin.zeroCells, Value.cells]; omega)
    have h2 := h1.cut (m := k) (by omega)
    rwa [setL_take _ _ _ _ (Nat.le_refl _)] at h2
/-- large ones compared: the fields -/
theorem lg_unlike {x y : Lg} (h : ¬ y = x) : ¬ (y.g = x.g ∧ y.a = x.a ∧ y.b = x.b) := fun e => h (Lg.eq_iff.1 e)
theorem grown_drewN {w w' : World} {row : Option Nat} (h : w.grownBy w' row) (n : Nat) : w.grownBy (w'.drewN n) row := ⟨h.os, h.tape, h.output, h.size, h.block⟩
set_option maxRecDepth 100000 in
set_option maxHeartbeats 16000000 in
theorem cut_L (w : World) (base : Nat) (v : Value) (l : List Lg) (h : OwnL w base 59 3 Lg.cs v l) (hl : l.length ≤ 4611686018427387904) :
    Calls Tryz.prog 130 #[v] w (CmpPost w base 59 3 Lg.cs v (dd l)) := by
  by_cases h1 : l.length < 2
  · have hdd : dd l = l := by
      match l, h1 with
      | [], _ => rfl
      | [a], _ => rfl
    rw [hdd]
    obtain ⟨A, c, rfl⟩ := h.form
    have HH := Lib.hid h
    have h1' : (l.length : Int) < 2 := by omega
    clear h hdd
    go_enter Tryz.func130, Tryz.ntmps130
    go_wp2_with fail
    go_ret
    exact ⟨_, rfl, HH.out, grown_refl _ _, rfl⟩
  obtain ⟨g, cap, rfl, hb, hg, hn, hc, _⟩ := OwnM.cells h (show 0 < l.length by omega)
  have HH : Hid (OwnM w base 59 3 (.slice (some ⟨g, 0, none⟩) l.length cap) l.length (l.flatMap Lg.cs)) := h
  have HRET : Hid (∀ (k : Nat) (W : World), Hid (∃ cur : List Lg, Cmp l cur l.length k ∧ OwnM W base 59 3 (.slice (some ⟨g, 0, none⟩) k cap) k ((cur.flatMap Lg.cs).take (k * 3)) ∧ w.grownBy W (some g)) → CmpPost w base 59 3 Lg.cs (.slice (some ⟨g, 0, none⟩) l.length cap) (dd l) (.returned (.slice (some ⟨g, 0, none⟩) k cap)) W) := fun k W hx => by
    obtain ⟨cur, h1, h2, h3⟩ := hx.out
    obtain ⟨f1, f2⟩ := h1.fin
    refine ⟨_, rfl, ?_, h3, rfl⟩
    unfold OwnL
    rw [f2, ← f1, ← flat_take Lg.cs_len]
    exact h2
  have HALL : Hid (∀ (W : World), dd l = l → OwnL W base 59 3 Lg.cs (.slice (some ⟨g, 0, none⟩) l.length cap) l → w.grownBy W (some g) → CmpPost w base 59 3 Lg.cs (.slice (some ⟨g, 0, none⟩) l.length cap) (dd l) (.returned (.slice (some ⟨g, 0, none⟩) l.length cap)) W) := fun W e h2 h3 => by
    rw [e]
    exact ⟨_, rfl, h2, h3, rfl⟩
  generalize CmpPost w base 59 3 Lg.cs (.slice (some ⟨g, 0, none⟩) l.length cap) (dd l) = POST at HRET HALL ⊢
  obtain ⟨n, hnn⟩ : ∃ n, n = l.length := ⟨_, rfl⟩
  rw [← hnn] at HH HALL HRET h1 hn hl ⊢
  have HN := Lib.hid hnn
  have h1' : ¬ ((n : Int) < 2) := by omega
  clear h hnn
  go_enter Tryz.func130, Tryz.ntmps130
  go_wp2_with fail
  go_loopw [3] (fun i wr => ∃ k : Nat, k + 1 ≤ n ∧ i = .int .i64 ((k : Int) + 1) ∧ Hid (dd (l.take (k + 1)) = l.take (k + 1)) ∧ Hid (OwnM wr base 59 3 (.slice (some ⟨g, 0, none⟩) n cap) n (l.flatMap Lg.cs)) ∧ Hid (w.grownBy wr (some g))) (fun i _ => n + 2 - (intOf i).toNat)
  case atStart => exact ⟨0, by omega, rfl, by
    cases l with
    | nil => rfl
    | cons a r => rfl, HH.out, grown_refl _ _⟩
  case round =>
    clear HH
    obtain ⟨k, hk, rfl, HD, HO, HG⟩ := hrel
    have hv1 : IntKind.i64.wrap ((k : Int) + 1 - 1) = k := by rw [show (k : Int) + 1 - 1 = k by omega]; exact IntWalk.i64_in _ (by omega)
    by_cases hlt : k + 1 < n
    · obtain ⟨x, hx⟩ : ∃ x, l[k]? = some x := ⟨l[k]'(by have := HN.out; omega), List.getElem?_eq_getElem _⟩
      obtain ⟨y, hy⟩ : ∃ y, l[k + 1]? = some y := ⟨l[k + 1]'(by have := HN.out; omega), List.getElem?_eq_getElem _⟩
      have HX := Lib.hid hx
      have HY := Lib.hid hy
      obtain ⟨p0, p1, p2⟩ := own_lg HO.out (by omega) hx
      obtain ⟨q0, q1, q2⟩ := own_lg HO.out (by omega) hy
      have hlt' : (k : Int) + 1 < (n : Int) := by omega
      clear hx hy
      by_cases hxy : y = x
      · subst hxy
        have hne0 : ((y.g : Int) != (y.g : Int)) = false := by simp
        have hne1 : ((y.a : Int) != (y.a : Int)) = false := by simp
        have hne2 : ((y.b : Int) != (y.b : Int)) = false := by simp
        have he0 : ((y.g : Int) == (y.g : Int)) = true := by simp
        have he1 : ((y.a : Int) == (y.a : Int)) = true := by simp
        have he2 : ((y.b : Int) == (y.b : Int)) = true := by simp
        go_wp2_with fail
        go_quiet (fail)
        go_wp2_with fail
        have HS0 : Hid (∃ cur : List Lg, Cmp l cur (k + 2) (k + 1) ∧ OwnM wr base 59 3 (.slice (some ⟨g, 0, none⟩) n cap) n (cur.flatMap Lg.cs)) := ⟨l, Cmp.start HD.out HX.out HY.out, HO.out⟩
        clear p0 p1 p2 q0 q1 q2 hne0 hne1 hne2 he0 he1 he2 HO HX HY HD
        go_loopw [3, 5] (fun i i2 wq => ∃ (m j : Nat), i = .int .i64 (m : Nat) ∧ i2 = .int .i64 ((j : Int) + 1) ∧ k + 1 + j + 1 ≤ n ∧ Hid (∃ cur : List Lg, Cmp l cur (k + 1 + j + 1) m ∧ OwnM wq base 59 3 (.slice (some ⟨g, 0, none⟩) n cap) n (cur.flatMap Lg.cs)) ∧ Hid (w.grownBy wq (some g))) (fun _ i2 _ => n + 2 - (intOf i2).toNat)
        case atStart => exact ⟨k + 1, 0, by go_num, rfl, by omega, HS0.out, grown_drewN HG.out _⟩
        case round =>
          clear HS0 HG
          obtain ⟨m, j, rfl, rfl, hj, HS, HG⟩ := hrel
          obtain ⟨cur, hcm, ho⟩ := HS.out
          have hmk := hcm.k1
          have hcl := hcm.len
          have hmn : m < n := by omega
          have HCM := Lib.hid hcm
          have HO := Lib.hid ho
          have HNN : Hid (cur.length = n) := hcl.trans HN.out.symm
          clear HS hcl
          by_cases hlt2 : k + 1 + j + 1 < n
          · obtain ⟨x, hx⟩ : ∃ x, cur[k + 1 + j]? = some x := ⟨cur[k + 1 + j]'(by have := HNN.out; omega), List.getElem?_eq_getElem _⟩
            obtain ⟨z, hz⟩ : ∃ z, cur[k + 1 + j + 1]? = some z := ⟨cur[k + 1 + j + 1]'(by have := HNN.out; omega), List.getElem?_eq_getElem _⟩
            have HX : Hid (l[k + 1 + j]? = some x) := by
              show _ = _
              rw [← hcm.rest _ (by omega)]
              exact hx
            have HZ : Hid (l[k + 1 + j + 1]? = some z) := by
              show _ = _
              rw [← hcm.rest _ (by omega)]
              exact hz
            have hpx := own_lg ho (by omega) hx
            have hpz := own_lg ho (by omega) hz
            rw [show (k + 1 + j) * 3 = (k + 1) * 3 + j * 3 by omega] at hpx
            rw [show (k + 1 + j + 1) * 3 = (k + 1) * 3 + (j + 1) * 3 by omega] at hpz
            obtain ⟨p0, p1, p2⟩ := hpx
            obtain ⟨q0, q1, q2⟩ := hpz
            have hjj : (j : Int) + 1 < ((n - (k + 1) : Nat) : Int) := by omega
            have hj0 : 0 ≤ (j : Int) := by omega
            have hj1 : (j : Int) < ((n - (k + 1) : Nat) : Int) := by omega
            have hv2 : IntKind.i64.wrap ((j : Int) + 1 - 1) = j := by rw [show (j : Int) + 1 - 1 = j by omega]; exact IntWalk.i64_in _ (by omega)
            clear hx hz hcm ho
            by_cases hxz : z = x
            · subst hxz
              have he0 : ((z.g : Int) == (z.g : Int)) = true := by simp
              have he1 : ((z.a : Int) == (z.a : Int)) = true := by simp
              have he2 : ((z.b : Int) == (z.b : Int)) = true := by simp
              go_wp2_with fail
              go_quiet (fail)
              go_wp2_with fail
              exact ⟨⟨m, j + 1, rfl, by go_num, by omega, ⟨cur, HCM.out.skip HX.out HZ.out, HO.out⟩, grown_drewN HG.out _⟩, by simp [intOf]; omega⟩
            · have HD : Hid (¬ (z.g = x.g ∧ z.a = x.a ∧ z.b = x.b)) := lg_unlike hxz
              have HNE := Lib.hid hxz
              clear hxz
              have HTH : Hid (∀ q, (wr.drewN q).there g (m * 3) (#[Value.int .u32 (z.g : Nat), .int .u32 (z.a : Nat), .int .u32 (z.b : Nat)] : Array Value).size) := fun q => there_part (own_there HO.out (by omega)) hmn
              have HST : Hid (∀ q, Hid (∃ cur : List Lg, Cmp l cur (k + 1 + (j + 1) + 1) (m + 1) ∧ OwnM ((wr.drewN q).setCells g (m * 3) [.int .u32 (z.g : Nat), .int .u32 (z.a : Nat), .int .u32 (z.b : Nat)]) base 59 3 (.slice (some ⟨g, 0, none⟩) n cap) n (cur.flatMap Lg.cs))) := fun q => by
                refine ⟨cur.set m z, HCM.out.keep HX.out HZ.out HNE.out, ?_⟩
                rw [← flat_setL (by decide) Lg.cs_len cur m z (by rw [HNN.out]; exact hmn)]
                exact OwnM.setMany (Lg.cs z) (m * 3) (wr.drewN q) _ HO.out (by rw [Lg.cs_len]; omega)
              have HSG : Hid (∀ q, Hid (w.grownBy ((wr.drewN q).setCells g (m * 3) [.int .u32 (z.g : Nat), .int .u32 (z.a : Nat), .int .u32 (z.b : Nat)]) (some g))) := fun q => grown_trans (grown_drewN HG.out q) (grown_setCells g _ _ _)
              by_cases d0 : z.g = x.g
              · have he0 : ((z.g : Int) == (x.g : Int)) = true := by simp [d0]
                by_cases d1 : z.a = x.a
                · have he1 : ((z.a : Int) == (x.a : Int)) = true := by simp [d1]
                  have d2 : ¬ z.b = x.b := fun e => HD.out ⟨d0, d1, e⟩
                  have he2 : ((z.b : Int) == (x.b : Int)) = false := beq_eq_false_iff_ne.2 (by omega)
                  clear d0 d1 d2
                  go_wp2_with fail
                  go_quiet (fail)
                  go_wp2_with (with_reducible show wpList _ _ _ (_ :: _) _ _; refine wpList_store_mid rfl 59 (.tmp 51) (.tmp 50) rfl g (m * 3) #[.int .u32 (z.g : Nat), .int .u32 (z.a : Nat), .int .u32 (z.b : Nat)] rfl rfl (HTH.out _) (by kernel_rfl) (by kernel_rfl) ?_)
                  exact ⟨⟨m + 1, j + 1, by go_num, by go_num, by omega, HST.out _, HSG.out _⟩, by simp [intOf]; omega⟩
                · have he1 : ((z.a : Int) == (x.a : Int)) = false := beq_eq_false_iff_ne.2 (by omega)
                  clear d0 d1
                  go_wp2_with fail
                  go_quiet (fail)
                  go_wp2_with (with_reducible show wpList _ _ _ (_ :: _) _ _; refine wpList_store_mid rfl 59 (.tmp 51) (.tmp 50) rfl g (m * 3) #[.int .u32 (z.g : Nat), .int .u32 (z.a : Nat), .int .u32 (z.b : Nat)] rfl rfl (HTH.out _) (by kernel_rfl) (by kernel_rfl) ?_)
                  exact ⟨⟨m + 1, j + 1, by go_num, by go_num, by omega, HST.out _, HSG.out _⟩, by simp [intOf]; omega⟩
              · have he0 : ((z.g : Int) == (x.g : Int)) = false := beq_eq_false_iff_ne.2 (by omega)
                clear d0
                go_wp2_with fail
                go_quiet (fail)
                go_wp2_with (with_reducible show wpList _ _ _ (_ :: _) _ _; refine wpList_store_mid rfl 59 (.tmp 51) (.tmp 50) rfl g (m * 3) #[.int .u32 (z.g : Nat), .int .u32 (z.a : Nat), .int .u32 (z.b : Nat)] rfl rfl (HTH.out _) (by kernel_rfl) (by kernel_rfl) ?_)
                exact ⟨⟨m + 1, j + 1, by go_num, by go_num, by omega, HST.out _, HSG.out _⟩, by simp [intOf]; omega⟩
          · have hjj : ¬ ((j : Int) + 1 < ((n - (k + 1) : Nat) : Int)) := by omega
            obtain ⟨W, hr, hW, hWG⟩ : ∃ W, (∀ ty, (Builtin.clear_ #[38] ty #[.slice (some ⟨g, m * 3, none⟩) (n - m) (cap - m)]).run Tryz.prog wr = .ok (.tuple #[]) W) ∧ Hid (OwnM W base 59 3 (.slice (some ⟨g, 0, none⟩) m cap) m ((cur.flatMap Lg.cs).take (m * 3))) ∧ Hid (wr.grownBy W (some g)) := by
              obtain ⟨W, h1, h2, h3⟩ := clear_L HO.out hmn (cap - m) 0
              exact ⟨W, fun ty => h1, h2, h3⟩
            have HR : Hid (∃ cur : List Lg, Cmp l cur n m ∧ OwnM W base 59 3 (.slice (some ⟨g, 0, none⟩) m cap) m ((cur.flatMap Lg.cs).take (m * 3)) ∧ w.grownBy W (some g)) := ⟨cur, by rw [← show k + 1 + j + 1 = n by omega]; exact HCM.out, hW.out, grown_trans HG.out hWG.out⟩
            clear hcm ho
            go_wp2_with fail
            exact HRET.out _ _ HR
      · have HNE : Hid (dd (l.take (k + 1 + 1)) = l.take (k + 1 + 1)) := by
          show _ = _
          rw [dd_take l k x y HX.out HY.out, if_neg hxy, HD.out, List.take_add_one (i := k + 1), HY.out]
          rfl
        have HD2 : Hid (¬ (y.g = x.g ∧ y.a = x.a ∧ y.b = x.b)) := lg_unlike hxy
        clear hxy
        by_cases d0 : y.g = x.g
        · have he0 : ((y.g : Int) == (x.g : Int)) = true := by simp [d0]
          by_cases d1 : y.a = x.a
          · have he1 : ((y.a : Int) == (x.a : Int)) = true := by simp [d1]
            have d2 : ¬ y.b = x.b := fun e => HD2.out ⟨d0, d1, e⟩
            have he2 : ((y.b : Int) == (x.b : Int)) = false := beq_eq_false_iff_ne.2 (by omega)
            clear d0 d1 d2
            go_wp2_with fail
            go_quiet (fail)
            go_wp2_with fail
            exact ⟨⟨k + 1, by omega, by go_num, HNE.out, HO.out, grown_drewN HG.out _⟩, by simp [intOf]; omega⟩
          · have he1 : ((y.a : Int) == (x.a : Int)) = false := beq_eq_false_iff_ne.2 (by omega)
            clear d0 d1
            go_wp2_with fail
            go_quiet (fail)
            go_wp2_with fail
            exact ⟨⟨k + 1, by omega, by go_num, HNE.out, HO.out, grown_drewN HG.out _⟩, by simp [intOf]; omega⟩
        · have he0 : ((y.g : Int) == (x.g : Int)) = false := beq_eq_false_iff_ne.2 (by omega)
          clear d0
          go_wp2_with fail
          go_quiet (fail)
          go_wp2_with fail
          exact ⟨⟨k + 1, by omega, by go_num, HNE.out, HO.out, grown_drewN HG.out _⟩, by simp [intOf]; omega⟩
    · have hge : ¬ ((k : Int) + 1 < (n : Int)) := by omega
      have HE : Hid (dd l = l) := by
        have h1 := HD.out
        rwa [List.take_of_length_le (by have := HN.out; omega)] at h1
      have HOL : Hid (OwnL wr base 59 3 Lg.cs (.slice (some ⟨g, 0, none⟩) n cap) l) := by
        show OwnL _ _ _ _ _ _ _
        unfold OwnL
        rw [← HN.out]
        exact HO.out
      go_wp2_with fail
      exact HALL.out _ HE.out HOL.out HG.out
end Go.Proofs.YtkcojblflebomaaGreat
