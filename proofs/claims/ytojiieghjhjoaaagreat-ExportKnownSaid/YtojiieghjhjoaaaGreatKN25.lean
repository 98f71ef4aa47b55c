/-
  Several texts in one.
-/
import Derived.Test.YtojiieghjhjoaaaGreatKN24
import Derived.Test.YtojiieghjhjoaaaGreatKN12
set_option linter.unusedVariables false
set_option linter.unusedSimpArgs false
namespace Go.Proofs.YtojiieghjhjoaaaGreat
open Go.RowKit Go.MapKept Go.Shelf
open Go.Lib hiding intOf

theorem nlC_cases (n : Nl) : nlC n = 0 ∨ nlC n = 2 := by unfold nlC; split <;> simp
theorem str_none (s : ByteArray) : s.toList.isEmpty = (s.size == 0) := by
  rw [ByteArray.toList_eq]
  have h : s.data.toList.length = s.size := rfl
  rw [← h]
  cases s.data.toList <;> simp
theorem mayPath_kind {p : Pth} (h1 : nlC p.n = 0) (h2 : atOk p.a.c = true) : mayPathF p = (if p.kind = 1 then p.peer.size == 0 else decide (1 < p.kind) && decide (p.kind ≤ 5) && nameF p.peer) := by
  unfold mayPathF
  rw [h1, h2]
  rfl

set_option maxRecDepth 100000 in
set_option maxHeartbeats 8000000 in
theorem maypath_any (p : Pth) (w : World) (h : PthOk w p) : Calls Tryz.prog 33 #[.agg p.ar] w fun e w' => e = .returned (.bool (mayPathF p)) ∧ Below w.heap.size w w' := by
  obtain ⟨P, hP⟩ : ∃ P, P = mayPathF p := ⟨_, rfl⟩
  rw [← hP]
  have HP := Lib.hid hP
  clear hP
  have HN : Hid (∀ W, Calls Tryz.prog 66 #[p.n.v] W fun e w' => e = .returned (.int .i64 (nlC p.n)) ∧ Below W.heap.size W w') := fun W => ncheck_any p.n h.n W
  have HA : Hid (∀ W, Below w.heap.size w W → Calls Tryz.prog 26 #[.agg p.a.ar] W fun e w' => e = .returned (.int .i64 (okN (atOk p.a.c))) ∧ Below W.heap.size W w') := fun W hW => check_any p.a W (h.a.below hW (Nat.le_refl _))
  have HC := Lib.hid (fun W => polc_any p.peer W)
  clear h
  go_enter Tryz.func33, Tryz.ntmps33
  go_upto_region 1 with fail
  refine rb_name fun V hV => ?_
  obtain ⟨s, hs⟩ : ∃ s, s = w.heap.size := ⟨_, rfl⟩
  have HC0 : Hid (CellsAt V s p.ar 37) := by rw [hV, hs]; exact CellsAt.new _ _ _
  have HB : Hid (Below w.heap.size w V) := by rw [hV]; exact below1 _ _
  rw [← hs]
  have HS : Hid (s = w.heap.size) := hs
  clear hV hs
  obtain ⟨c0, c4, c5, c8, c16, c22, c23, c25⟩ := pth_cells HC0.out
  go_wp2_with (with_reducible show wpList _ _ _ (_ :: _) _ _; first | refine wpList_load_ppf (by kernel_rfl) (.tmp 4) rfl s rfl p HC0 ?_ | refine wpList_build_nlr rfl (.tmp 5) (.tmp 7) (.tmp 9) rfl p.n rfl rfl rfl ?_)
  refine (HN.out _).mono ?_
  rintro e w1 ⟨rfl, hw1⟩
  have HB1 : Hid (Below w.heap.size w w1) := HB.out.trans (hw1.mono HB.out.size)
  have HC1 : Hid (CellsAt w1 s p.ar 37) := HC0.out.below hw1 HC0.out.lt
  clear hw1 c0 c4 c5 c8 c16 c22 c23 c25
  obtain ⟨c0, c4, c5, c8, c16, c22, c23, c25⟩ := pth_cells HC1.out
  rcases nlC_cases p.n with hn | hn
  · rw [hn]
    go_wp2_with (with_reducible show wpList _ _ _ (_ :: _) _ _; refine wpList_load_pat (by kernel_rfl) (.tmp 14) rfl s rfl p HC1 ?_)
    refine (HA.out _ HB1.out).mono ?_
    rintro e w2 ⟨rfl, hw2⟩
    have HB2 : Hid (Below w.heap.size w w2) := HB1.out.trans (hw2.mono HB1.out.size)
    have HC2 : Hid (CellsAt w2 s p.ar 37) := HC1.out.below hw2 HC1.out.lt
    clear hw2 c0 c4 c5 c8 c16 c22 c23 c25
    obtain ⟨c0, c4, c5, c8, c16, c22, c23, c25⟩ := pth_cells HC2.out
    cases ha : atOk p.a.c with
    | false =>
      obtain rfl : P = false := by rw [HP.out]; unfold mayPathF; rw [ha]; simp
      have e1 : okN false = 2 := rfl
      rw [e1]
      clear hn ha
      go_wp2_with fail
      go_ret
      exact ⟨rfl, HB2.out⟩
    | true =>
      have HK : Hid (P = (if p.kind = 1 then p.peer.size == 0 else decide (1 < p.kind) && decide (p.kind ≤ 5) && nameF p.peer)) := HP.out.trans (mayPath_kind hn ha)
      have e1 : okN true = 0 := rfl
      rw [e1]
      clear hn ha HP
      go_upto_region 4 with (with_reducible show wpList _ _ _ (_ :: _) _ _; first | refine wpList_load_pso (by kernel_rfl) (.tmp 19) rfl s rfl p HC2 ?_ | refine wpList_new_row rfl _ (.tmp 3) (.tmp 20) rfl rfl p.so rfl 6 soZ rfl rfl (so_ones p) ?_)
      intro V3 HD3 HB3'
      obtain ⟨q, hq⟩ : ∃ q, q = w2.heap.size := ⟨_, rfl⟩
      have HB3 : Hid (Below w.heap.size w V3) := HB2.out.trans (HB3'.out.mono HB2.out.size)
      rw [← hq] at HD3
      rw [← hq]
      clear hq HB3' c0 c4 c5 c8 c16 c22 c23 c25
      have c22 : V3.cell? ⟨q, 0, none⟩ = some (.int .i64 p.kind) := (HD3.out.c 0).trans rfl
      have c23 : V3.cell? ⟨q, 1, none⟩ = some (.string p.peer) := (HD3.out.c 1).trans rfl
      by_cases hk : p.kind = 1
      · have k1 : (p.kind == 1) = true := beq_iff_eq.2 hk
        have HQ : Hid (P = (p.peer.size == 0)) := HK.out.trans (if_pos hk)
        rw [hk] at c22
        clear hk HK k1
        go_wp2_with fail
        go_ret
        exact ⟨by rw [HQ.out, ← str_none]; rfl, HB3.out⟩
      · have k1 : (p.kind == 1) = false := beq_eq_false_iff_ne.2 hk
        have HQ : Hid (P = (decide (1 < p.kind) && decide (p.kind ≤ 5) && nameF p.peer)) := HK.out.trans (if_neg hk)
        clear hk HK
        by_cases g1 : 1 < p.kind
        · by_cases g2 : p.kind ≤ 5
          · have d1 : decide (1 < p.kind) = true := decide_eq_true g1
            have d2 : decide (p.kind ≤ 5) = true := decide_eq_true g2
            obtain rfl : P = nameF p.peer := by rw [HQ.out, d1, d2]; rfl
            clear HQ
            go_wp2_with fail
            refine (HC.out _).mono ?_
            rintro e w4 ⟨rfl, hw4⟩
            have HB4 : Hid (Below w.heap.size w w4) := HB3.out.trans (hw4.mono HB3.out.size)
            clear hw4
            have e2 : okN true = 0 := rfl
            have e3 : okN false = 2 := rfl
            cases hx : nameF p.peer with
            | true =>
              rw [e2]
              have HX := Lib.hid hx
              clear hx
              go_wp2_with fail
              go_ret
              exact ⟨by rw [HX.out]; rfl, HB4.out⟩
            | false =>
              rw [e3]
              have HX := Lib.hid hx
              clear hx
              go_wp2_with fail
              go_ret
              exact ⟨by rw [HX.out]; rfl, HB4.out⟩
          · have d1 : decide (1 < p.kind) = true := decide_eq_true g1
            have d2 : decide (p.kind ≤ 5) = false := decide_eq_false g2
            obtain rfl : P = false := by rw [HQ.out, d1, d2]; rfl
            clear HQ
            go_wp2_with fail
            go_ret
            exact ⟨rfl, HB3.out⟩
        · have d1 : decide (1 < p.kind) = false := decide_eq_false g1
          obtain rfl : P = false := by rw [HQ.out, d1]; rfl
          clear HQ
          go_wp2_with fail
          go_ret
          exact ⟨rfl, HB3.out⟩
  · obtain rfl : P = false := by rw [HP.out]; unfold mayPathF; rw [hn]; rfl
    rw [hn]
    clear hn HP
    go_wp2_with fail
    go_ret
    exact ⟨rfl, HB1.out⟩
end Go.Proofs.YtojiieghjhjoaaaGreat
set_option linter.unusedVariables false
set_option linter.unusedSimpArgs false
namespace Go.Proofs.YtojiieghjhjoaaaGreat
open Go.RowKit Go.MapKept Go.Shelf
open Go.Lib hiding intOf

/-- a configuration, a path and a neighbour in their boxes -/
structure Bx (w V : World) (s : Nat) (g : Cfg) (p : Pth) (t : Pr) : Prop where
  c : CellsAt V s g.ar 49
  p : CellsAt V (s + 1) p.ar 37
  t : CellsAt V (s + 1 + 1) t.ar 40
  b : Below w.heap.size w V
  s : s = w.heap.size
section
variable {w V V' : World} {s : Nat} {g : Cfg} {p : Pth} {t : Pr}
theorem Bx.below (h : Bx w V s g p t) (hb : Below V.heap.size V V') : Bx w V' s g p t := ⟨h.c.below hb h.c.lt, h.p.below hb h.p.lt, h.t.below hb h.t.lt, h.b.trans (hb.mono h.b.size), h.s⟩
theorem Bx.row {m : Nat} (h : Bx w V s g p t) (hg : V.grownBy V' (some m)) (hm : s + 1 + 1 < m) : Bx w V' s g p t := by
  have hs := h.s
  exact ⟨h.c.row hg (by omega), h.p.row hg (by omega), h.t.row hg (by omega), h.b.grown hg h.b.size (fun k hk => by injection hk with hk; omega), h.s⟩
theorem Bx.start (w : World) (g : Cfg) (p : Pth) (t : Pr) : Bx w (((w.alloc (.cells g.ar 49)).alloc (.cells p.ar 37)).alloc (.cells t.ar 40)) w.heap.size g p t := by
  refine ⟨(new1 _ _ _ _).alloc _, ?_, ?_, ?_, rfl⟩
  · exact (new2b _ _ _ _).alloc _
  · have h := CellsAt.new ((w.alloc (.cells g.ar 49)).alloc (.cells p.ar 37)) t.ar 40
    rwa [show ((w.alloc (.cells g.ar 49)).alloc (.cells p.ar 37)).heap.size = w.heap.size + 1 + 1 by simp] at h
  · exact (((Below.refl _ _).alloc (Nat.le_refl _) _).alloc (by simp) _).alloc (by simp <;> omega) _
end
theorem ints_at {w : World} {A : Option Addr} {l : List Int} (h : Rd w A 1 (l.map i1)) (h0 : 0 < l.length) : ∃ b off, A = some ⟨b, off, none⟩ ∧ ∀ j, j < l.length → w.cell? ⟨b, off + j, none⟩ = some (.int .i64 (l.getD j 0)) := by
  obtain ⟨b, off, hA, _, hc⟩ := h (by rw [List.length_map]; exact h0)
  refine ⟨b, off, hA, fun j hj => ?_⟩
  have h2 := hc j (i1 l[j]) (by rw [List.getElem?_map, List.getElem?_eq_getElem hj]; rfl) 0 _ rfl
  rw [Nat.mul_one, Nat.add_zero] at h2
  rw [h2, List.getD_eq_getElem?_getD, List.getElem?_eq_getElem hj]
  rfl
theorem contains_i (A : Option Addr) (cap : Nat) (l : List Int) (n : Int) (w : World) (h : Rd w A 1 (l.map i1)) (hl : l.length ≤ 9223372036854775807) :
    Calls Tryz.prog 34 #[.slice A l.length cap, .int .i64 n] w fun e w' => e = .returned (.bool (l.contains n)) ∧ w' = w := by
  cases hx : l with
  | nil => exact Tryz.slices_Contains_int_empty A cap n w
  | cons x r =>
    rw [← hx]
    obtain ⟨b, off, rfl, hc⟩ := ints_at h (by rw [hx]; simp)
    have h2 := Tryz.slices_Contains_int b off l.length cap l n w (Nat.le_refl _) hl hc
    rw [List.take_length] at h2
    exact h2
theorem commhas_any (A : Option Addr) (cap : Nat) (l : List Nat) (n : Int) (w : World) (h : Rd w A 1 (nums .u32 l)) (hl : l.length ≤ cap) (hc : cap ≤ 9223372036854775807) :
    Calls Tryz.prog 35 #[.slice A l.length cap, .int .u32 n] w fun e w' => e = .returned (.bool (hasN l n)) ∧ w' = w := by
  have HC := Lib.hid (contains_any A cap l n w h hl hc)
  clear h
  go_enter Tryz.func35, Tryz.ntmps35
  go_wp2_with fail
  refine HC.out.mono ?_
  rintro e w1 ⟨rfl, hw⟩
  subst w1
  go_wp2_with fail
  go_ret
  exact ⟨rfl, by trivial⟩
/-- the closure not -/
theorem not_any (m x : Bool) (b : Nat) (w : World) (h : CellsAt w b #[.bool m] 4) : Calls Tryz.prog 32 #[.bool x, .pointer (some ⟨b, 0, none⟩)] w fun e w' => e = .returned (.tuple #[]) ∧ CellsAt w' b #[.bool (m && !x)] 4 ∧ w.grownBy w' (some b) := by
  have HS : Hid (∀ u, CellsAt (w.setCell ⟨b, 0, none⟩ u) b #[u] 4) := fun u => h.setAt 0 u
  have HG : Hid (∀ u, w.grownBy (w.setCell ⟨b, 0, none⟩ u) (some b)) := fun u => grown_setCell w ⟨b, 0, none⟩ u
  have c0 := h.c1
  have fz : w.frozen? ⟨b, 0, none⟩ = false := h.unfrozen 0
  clear h
  cases m with
  | true =>
    cases x with
    | true =>
      go_enter Tryz.func32, Tryz.ntmps32
      go_wp2_with fail
      go_end0
      exact ⟨rfl, HS.out _, HG.out _⟩
    | false =>
      go_enter Tryz.func32, Tryz.ntmps32
      go_wp2_with fail
      go_end0
      exact ⟨rfl, HS.out _, HG.out _⟩
  | false =>
    go_enter Tryz.func32, Tryz.ntmps32
    go_wp2_with fail
    go_end0
    exact ⟨rfl, HS.out _, HG.out _⟩
end Go.Proofs.YtojiieghjhjoaaaGreat
