/-
  Several texts in one.
-/
import Derived.Test.YtojiieghjhjoaaaGreatKN36
set_option linter.unusedVariables false
set_option linter.unusedSimpArgs false
namespace Go.Proofs.YtojiieghjhjoaaaGreat
open Go.RowKit Go.MapKept Go.Shelf
open Go.Lib hiding intOf

theorem results_at2 {fn : Func} {p q : Tmp} (hf : fn.results = #[.cell p 33, .tmp q]) (tmps : Array Value) (w : World) (g : Nat) (x : Atr) (y : Value) (hp : tmps.getD p undef = .pointer (some ⟨g, 0, none⟩)) (hq : tmps.getD q undef = y) (hg : CellsAt w g x.ar 33) :
    (results fn tmps).run Tryz.prog w = .ok (.tuple #[.agg x.ar, y]) w := by
  obtain ⟨fs, hu⟩ := atS
  rw [results_cell_tmp hf, hp]
  simp only [asAddr, Sem.run_pure, Result.andThen_ok]
  rw [run_loadVar_mid w g 0 _ x.ar.toList _ (whole_range hg) hu rfl (by rw [atZ]; rfl), hq]
  rfl
theorem results_cell1 {fn : Func} {p : Tmp} {t : TypeId} (h : fn.results = #[.cell p t]) (tmps : Array Value) (P : Program) (w : World) :
    (results fn tmps).run P w = ((asAddr (tmps.getD p undef)).run P w).andThen fun a w₁ => (loadVar t a).run P w₁ := by
  simp only [results, h]
  simp [Sem.run_bind, Result.andThen]
section
variable {ops : Array Oper} {S : World → Prop} {o : Oper} {a : Act}
theorem yields_row (hw : Region.wanted o (yielded ops a.tmps) = true) (T : TypeId) (src : Operand) (ho : o.op = .load T src) (b k : Nat) (hx : a.eval src = .pointer (some ⟨b, k, none⟩)) (cs : Array Value) (hu : ∃ fs, Tryz.prog.underlying T = some (.struct fs)) (n : Nat) (hs : (Tryz.prog.info? T).map (·.size) = some n) (hn : cs.size = n) (hS : ∀ w, S w → w.rangeAt b k cs.toList) : YieldsIf Tryz.prog ops S o (.agg cs) a := by
  obtain ⟨fs, hu⟩ := hu
  have h := yieldsIf_load_mid (P := Tryz.prog) hw T src ho b k hx cs.toList _ hS hu rfl (by rw [hs, ← hn]; simp)
  rwa [Array.toArray_toList] at h
end
/-- which function turns attributes for a kind of neighbour -/
def turnOf (K : Int) : FuncId := if K = 2 then 77 else if K = 3 then 78 else 79
set_option maxHeartbeats 4000000 in
theorem rowof_any (K : Int) (w : World) : Calls Tryz.prog 43 #[.int .i64 K] w fun e w' => e = .returned (.agg #[.func (.func (turnOf K)) #[] #[]]) ∧ Below w.heap.size w w' := by
  have HB := Lib.hid (below1 w)
  obtain ⟨F, hF⟩ : ∃ F, F = turnOf K := ⟨_, rfl⟩
  rw [← hF]
  by_cases h2 : K = 2
  · subst h2
    obtain rfl : F = 77 := hF
    go_enter Tryz.func43, Tryz.ntmps43
    go_wp2_with fail
    exact bodyPost_ret (v := .agg #[.func (.func 77) #[] #[]]) (by rw [results_cell1 rfl]; go_simp) rfl ⟨rfl, HB.out _⟩
  by_cases h3 : K = 3
  · subst h3
    obtain rfl : F = 78 := hF
    go_enter Tryz.func43, Tryz.ntmps43
    go_wp2_with fail
    exact bodyPost_ret (v := .agg #[.func (.func 78) #[] #[]]) (by rw [results_cell1 rfl]; go_simp) rfl ⟨rfl, HB.out _⟩
  obtain rfl : F = 79 := by rw [hF]; unfold turnOf; rw [if_neg h2, if_neg h3]
  clear hF
  have e2 : (K == 2) = false := beq_eq_false_iff_ne.2 h2
  have e3 : (K == 3) = false := beq_eq_false_iff_ne.2 h3
  clear h2 h3
  go_enter Tryz.func43, Tryz.ntmps43
  go_wp2_with fail
  exact bodyPost_ret (v := .agg #[.func (.func 79) #[] #[]]) (by rw [results_cell1 rfl]; go_simp) rfl ⟨rfl, HB.out _⟩
theorem Bx.below' {w V V' : World} {s B : Nat} {g : Cfg} {p : Pth} {t : Pr} (h : Bx w V s g p t) (hb : Below B V V') (hB : s + 1 + 1 < B) : Bx w V' s g p t := by
  have hs := h.s
  exact ⟨h.c.below hb (by omega), h.p.below hb (by omega), h.t.below hb hB, h.b.trans (hb.mono (by omega)), hs⟩
/-- the boxes of three arguments and of the attributes that are answered -/
structure B4 (w V : World) (s : Nat) (g : Cfg) (p : Pth) (t : Pr) : Prop where
  bx : Bx w V s g p t
  r : CellsAt V (s + 1 + 1 + 1) noAtr.ar 33
theorem B4.below {w V V' : World} {s : Nat} {g : Cfg} {p : Pth} {t : Pr} (h : B4 w V s g p t) (hb : Below V.heap.size V V') : B4 w V' s g p t := ⟨h.bx.below hb, h.r.below hb h.r.lt⟩
theorem B4.below' {w V V' : World} {s B : Nat} {g : Cfg} {p : Pth} {t : Pr} (h : B4 w V s g p t) (hb : Below B V V') (hB : s + 1 + 1 + 1 < B) : B4 w V' s g p t := ⟨h.bx.below' hb (by omega), h.r.below hb hB⟩
theorem B4.start (w : World) (g : Cfg) (p : Pth) (t : Pr) : B4 w ((((w.alloc (.cells g.ar 49)).alloc (.cells p.ar 37)).alloc (.cells t.ar 40)).alloc (.cells noAtr.ar 33)) w.heap.size g p t := by
  refine ⟨(Bx.start w g p t).below (below1 _ _), ?_⟩
  have h := CellsAt.new (((w.alloc (.cells g.ar 49)).alloc (.cells p.ar 37)).alloc (.cells t.ar 40)) noAtr.ar 33
  rwa [show (((w.alloc (.cells g.ar 49)).alloc (.cells p.ar 37)).alloc (.cells t.ar 40)).heap.size = w.heap.size + 1 + 1 + 1 by simp] at h
theorem str_ne {s : ByteArray} (h : s.size ≠ 0) : s.toList.isEmpty = false := by rw [str_none]; exact beq_eq_false_iff_ne.2 h
theorem str_ne' {s : ByteArray} (h : s.size ≠ 0) : (s.toList == []) = false ∧ ¬ s.toList = [] ∧ ¬ s = ⟨#[]⟩ := by
  have h2 := str_ne h
  rw [List.isEmpty_eq_false_iff] at h2
  exact ⟨beq_eq_false_iff_ne.2 h2, h2, fun e => h (by rw [e]; rfl)⟩
theorem nextF_size {g : Cfg} {p : Pth} {t : Pr} (hp : p.a.next.size ≤ 9223372036854775807) (hg : g.addr.size ≤ 9223372036854775807) : (nextF g p t).size ≤ 9223372036854775807 := by
  unfold nextF
  split
  · exact hp
  · split
    · decide
    · rename_i h
      have h4 : g.addr.size = 4 := by omega
      split
      · rw [ByteArray.size_append, h4]
        decide
      · exact hg
/-- what Attrs answers -/
def AttrsP (w0 : World) (r : AtC × Int) (e : Ending) (w' : World) : Prop := ∃ a' : Atr, e = .returned (.tuple #[.agg a'.ar, .int .i64 r.2]) ∧ AtO w' w0.heap.size a' ∧ a'.c = r.1 ∧ Below w0.heap.size w0 w'
def Atr.withNext (a : Atr) (s : ByteArray) : Atr := { a with next := s }
theorem ClT.withNext {w : World} {base b : Nat} {a : Atr} (h : ClT w base a) (hc : CellsAt w b a.ar 33) (s : ByteArray) (hs : s.size ≤ 9223372036854775807) : ClT (w.setCell ⟨b, 2, none⟩ (.string s)) base (a.withNext s) := by
  have h2 := (h.box (grown_setCell w ⟨b, 2, none⟩ (.string s)) hc).own
  exact ⟨⟨h2.path, h2.comms, h2.exts, h2.larges, h2.clus, hs, h2.mfit, h2.xfit, h2.lfit, h2.kfit, h2.ofit, h2.nfit⟩, h.apart⟩

set_option maxRecDepth 100000 in
set_option maxHeartbeats 16000000 in
theorem attrs_any (g : Cfg) (p : Pth) (t : Pr) (w : World) (hg : g.Ok) (hp : PthOk w p) (ht : PrOk w t) : Calls Tryz.prog 15 #[.agg g.ar, .agg p.ar, .agg t.ar] w (AttrsP w (attrsF g p t)) := by
  obtain ⟨POST, hP⟩ : ∃ P, P = AttrsP w (attrsF g p t) := ⟨_, rfl⟩
  rw [← hP]
  have HRET : Hid (∀ (a' : Atr) (E : Int) (W : World), attrsF g p t = (a'.c, E) → AtO W w.heap.size a' → Below w.heap.size w W → POST (.returned (.tuple #[.agg a'.ar, .int .i64 E])) W) := fun a' E W e h1 h2 => by
    rw [hP, e]
    exact ⟨a', rfl, h1, rfl, h2⟩
  obtain ⟨N, hN⟩ : ∃ N, N = nextF g p t := ⟨_, rfl⟩
  have HNF := Lib.hid hN
  have HNS : Hid (N.size ≤ 9223372036854775807) := by show _ ≤ _; rw [hN]; exact nextF_size hp.a.next hg.addr
  obtain ⟨x1, hx1⟩ : ∃ x, x = mayPathF p := ⟨_, rfl⟩
  have HX1 := Lib.hid hx1
  obtain ⟨K, hK⟩ : ∃ K, K = kindOf g t := ⟨_, rfl⟩
  have HKK := Lib.hid hK
  have H1 : Hid (∀ W, Calls Tryz.prog 18 #[.agg g.ar, .agg p.ar, .agg t.ar] W fun e w' => e = .returned (.string N) ∧ Below W.heap.size W w') := fun W => by rw [hN]; exact next_any g p t W
  have H2 : Hid (∀ W, Below w.heap.size w W → Calls Tryz.prog 33 #[.agg p.ar] W fun e w' => e = .returned (.bool x1) ∧ Below W.heap.size W w') := fun W hW => by rw [hx1]; exact maypath_any p W (hp.below hW (Nat.le_refl _))
  have HCP : Hid (∀ W, Below w.heap.size w W → Calls Tryz.prog 42 #[.agg p.a.ar] W fun e w' => (∃ a' : Atr, e = .returned (.agg a'.ar) ∧ ClT w' W.heap.size a' ∧ a'.c = p.a.c) ∧ Below W.heap.size W w') := fun W hW => copyT_any p.a W (hp.a.below hW (Nat.le_refl _)) hp.sz
  have HK : Hid (∀ W, Calls Tryz.prog 31 #[.agg g.ar, .agg t.ar] W fun e w' => e = .returned (.int .i64 K) ∧ Below W.heap.size W w') := fun W => by rw [hK]; exact internal_any g t W
  have HRO := Lib.hid (rowof_any K)
  have HCF := Lib.hid hg
  have HSZ := Lib.hid hp.sz
  have HSID := Lib.hid hp.nums.2
  clear hP hN hx1 hK hg hp ht
  go_enter Tryz.func15, Tryz.ntmps15
  go_upto_region 1 with fail
  refine rb_name fun V0 hV0 => ?_
  have hbx := B4.start w g p t
  obtain ⟨s, hs⟩ : ∃ s, s = w.heap.size := ⟨_, rfl⟩
  have HB0 : Hid (B4 w V0 s g p t) := by rw [hV0, hs]; exact hbx
  have HS : Hid (s = w.heap.size) := hs
  rw [← hs]
  clear hV0 hbx hs
  go_wp2_with (with_reducible show wpList _ _ _ (_ :: _) _ _; first | refine wpList_load_conf (by kernel_rfl) (.tmp 3) rfl s rfl g (Lib.hid HB0.out.bx.c) ?_ | refine wpList_load_path (by kernel_rfl) (.tmp 4) rfl (s + 1) rfl p (Lib.hid HB0.out.bx.p) ?_ | refine wpList_load_peer (by kernel_rfl) (.tmp 5) rfl (s + 1 + 1) rfl t (Lib.hid HB0.out.bx.t) ?_)
  refine (H1.out _).mono ?_
  rintro e w1 ⟨rfl, hw1⟩
  have HB1 : Hid (B4 w w1 s g p t) := HB0.out.below hw1
  clear hw1 HB0
  go_wp2_with (with_reducible show wpList _ _ _ (_ :: _) _ _; refine wpList_load_path (by kernel_rfl) (.tmp 4) rfl (s + 1) rfl p (Lib.hid HB1.out.bx.p) ?_)
  refine (H2.out _ HB1.out.bx.b).mono ?_
  rintro e w2 ⟨rfl, hw2⟩
  have HB2 : Hid (B4 w w2 s g p t) := HB1.out.below hw2
  clear hw2 HB1
  cases x1 with
  | false =>
    have HE : Hid (attrsF g p t = (noAtr.c, 2)) := by show _ = _; unfold attrsF; rw [if_pos (Or.inl HX1.out.symm)]; rfl
    go_wp2_with (with_reducible show wpList _ _ _ (_ :: _) _ _; refine wpList_store_attrs rfl (.tmp 6) (.tmp 22) rfl (s + 1 + 1 + 1) rfl noAtr (by kernel_rfl) noAtr HB2.out.r ?_)
    try simp only [Exit.inBlock, Exit.then]
    have HG := Lib.hid (grown_setRow' w2 (s + 1 + 1 + 1) noAtr.ar)
    refine bodyPost_ret (results_at2 rfl _ _ (s + 1 + 1 + 1) noAtr (.int .i64 2) rfl rfl (HB2.out.r.setRow' _)) rfl (HRET.out noAtr _ _ HE.out (noAtr_own _ _) ?_)
    exact HB2.out.bx.b.grown HG.out HB2.out.bx.b.size (fun k hk => by injection hk with hk; have := HS.out; omega)
  | true =>
    by_cases hne : N.size = 0
    · have f1 : N.toList.isEmpty = true := by rw [str_none, hne]; rfl
      have f2 : N = ⟨#[]⟩ := by
        apply ByteArray.ext
        apply Array.eq_empty_of_size_eq_zero
        exact hne
      have HNE : Hid ((nextF g p t).size = 0) := by show _ = _; rw [← HNF.out]; exact hne
      clear hne f1
      subst f2
      have HE : Hid (attrsF g p t = (noAtr.c, 2)) := by show _ = _; unfold attrsF; rw [if_pos (Or.inr HNE.out)]; rfl
      go_wp2_with (with_reducible show wpList _ _ _ (_ :: _) _ _; refine wpList_store_attrs rfl (.tmp 6) (.tmp 22) rfl (s + 1 + 1 + 1) rfl noAtr (by kernel_rfl) noAtr HB2.out.r ?_)
      try simp only [Exit.inBlock, Exit.then]
      have HG := Lib.hid (grown_setRow' w2 (s + 1 + 1 + 1) noAtr.ar)
      refine bodyPost_ret (results_at2 rfl _ _ (s + 1 + 1 + 1) noAtr (.int .i64 2) rfl rfl (HB2.out.r.setRow' _)) rfl (HRET.out noAtr _ _ HE.out (noAtr_own _ _) ?_)
      exact HB2.out.bx.b.grown HG.out HB2.out.bx.b.size (fun k hk => by injection hk with hk; have := HS.out; omega)
    · have f1 := str_ne hne
      obtain ⟨f2, f3, f4⟩ := str_ne' hne
      have HOK : Hid (¬ (mayPathF p = false ∨ (nextF g p t).size = 0)) := by
        show ¬ _
        rw [← HX1.out, ← HNF.out]
        simp [hne]
      clear hne
      go_wp2_with (with_reducible show wpList _ _ _ (_ :: _) _ _; refine wpList_load_pat (by kernel_rfl) (.tmp 23) rfl (s + 1) rfl p (Lib.hid HB2.out.bx.p) ?_)
      refine (HCP.out _ HB2.out.bx.b).mono ?_
      rintro e w3 ⟨⟨a1, rfl, hcl, hac⟩, hw3⟩
      obtain ⟨B0, hB0⟩ : ∃ B, B = w2.heap.size := ⟨_, rfl⟩
      rw [← hB0] at hcl
      have HCL := Lib.hid hcl
      have HAC := Lib.hid hac
      have HB3 : Hid (B4 w w3 s g p t) := HB2.out.below hw3
      have HBL : Hid (s + 1 + 1 + 1 < B0 ∧ B0 ≤ w3.heap.size) := ⟨by rw [hB0]; exact HB2.out.r.lt, by rw [hB0]; exact hw3.size⟩
      clear hcl hac hw3 hB0 HB2 f1 f2 f3 f4
      go_upto_region 5 with (with_reducible show wpList _ _ _ (_ :: _) _ _; refine wpList_new_row rfl _ (.tmp 9) (.tmp 25) rfl rfl a1.ar rfl 16 atZ rfl rfl (attrs_ones a1) ?_)
      intro V4 HC4 HB4'
      obtain ⟨b, hb⟩ : ∃ b, b = w3.heap.size := ⟨_, rfl⟩
      rw [← hb] at HC4
      have HB4 : Hid (B4 w V4 s g p t) := HB3.out.below HB4'.out
      have HCL4 : Hid (ClT V4 B0 a1) := ⟨HCL.out.own.below HB4'.out, HCL.out.apart⟩
      have HBB : Hid (s + 1 + 1 + 1 < B0 ∧ B0 ≤ b ∧ b < V4.heap.size) := ⟨HBL.out.1, by rw [hb]; exact HBL.out.2, HC4.out.lt⟩
      rw [← hb]
      clear hb HB4' HB3 HCL HBL
      obtain ⟨c0, c1, c2, c3, c4, c5, c6, c7, c8, c9, c10, c11, c12, c13, c14, c15⟩ := atr_cells HC4.out
      have fz2 := HC4.out.unfrozen 2
      go_upto_region 6 with fail
      refine rb_name fun V5 hV5 => ?_
      obtain ⟨a2, ha2⟩ : ∃ a2, a2 = a1.withNext N := ⟨_, rfl⟩
      have HC5 : Hid (CellsAt V5 b a2.ar 33) := by rw [hV5, ha2]; exact HC4.out.setAt 2 _
      have HCL5 : Hid (ClT V5 B0 a2) := by rw [hV5, ha2]; exact HCL4.out.withNext HC4.out N HNS.out
      have HB5 : Hid (B4 w V5 s g p t) := by
        have hg5 : V4.grownBy V5 (some b) := by rw [hV5]; exact grown_setCell V4 ⟨b, 2, none⟩ _
        have h1 := HBB.out
        exact ⟨HB4.out.bx.row hg5 (by omega), HB4.out.r.row hg5 (by omega)⟩
      have HAC5 : Hid (a2.c = { p.a.c with next := nextF g p t }) := by
        show _ = _
        rw [ha2, ← HNF.out, ← HAC.out]
        rfl
      have HAZ : Hid ((∀ s ∈ a2.segs, s.as_.length * 4 ≤ 140737488351232) ∧ a2.segs.length * 32 ≤ 140737488351232) := path_sz HSZ.out (by
        have h := congrArg AtC.path HAC5.out
        exact h)
      clear hV5 ha2 c0 c1 c2 c3 c4 c5 c6 c7 c8 c9 c10 c11 c12 c13 c14 c15 fz2 HC4 HCL4 HB4 HAC
      have HTU : Hid (∀ W q, W.heap.size = q → Below V5.heap.size V5 W → Calls Tryz.prog (turnOf K) #[.agg g.ar, .agg p.so, .pointer (some ⟨b, 0, none⟩)] W (TurnP W B0 b (turnF g p t))) := fun W q _ hW => by
        have h1 := HC5.out.below hW HC5.out.lt
        have h2 := HCL5.out.own.below hW
        unfold turnOf turnF
        rw [← HKK.out]
        by_cases k2 : K = 2
        · rw [if_pos k2, if_pos k2, ← HAC5.out]
          exact outside_any g HCF.out p a2 b B0 W h1 h2 HBB.out.2.1 HAZ.out.1 HAZ.out.2
        · rw [if_neg k2, if_neg k2]
          by_cases k3 : K = 3
          · rw [if_pos k3, if_pos k3, ← HAC5.out]
            exact member_any g HCF.out p a2 b B0 W h1 h2 HBB.out.2.1 HAZ.out.1 HAZ.out.2
          · rw [if_neg k3, if_neg k3, ← HAC5.out]
            exact inside_any g HCF.out p a2 b B0 W h1 h2 HBB.out.2.1 HAZ.out.1 HAZ.out.2 HCL5.out.apart HSID.out
      have hfl : ∀ W : World, (Instr.field 84 (.agg #[.func (.func (turnOf K)) #[] #[]]) 0).run Tryz.prog W = .ok (.func (.func (turnOf K)) #[] #[]) W := fun W => by kernel_rfl
      have hen : ∀ args W, (callFunc (turnOf K) args).run Tryz.prog W = .ok (.enter (turnOf K) args) W := by
        unfold turnOf
        split
        · exact enters_of Tryz.func77 (by kernel_rfl) rfl
        · split
          · exact enters_of Tryz.func78 (by kernel_rfl) rfl
          · exact enters_of Tryz.func79 (by kernel_rfl) rfl
      obtain ⟨F, hF⟩ : ∃ F, F = turnOf K := ⟨_, rfl⟩
      rw [← hF] at HTU hfl hen HRO
      obtain ⟨TF, hTF⟩ : ∃ r, r = turnF g p t := ⟨_, rfl⟩
      rw [← hTF] at HTU
      have HTF := Lib.hid hTF
      clear hF hTF
      refine wp_region_held_drew (S := fun w' => B4 w w' s g p t ∧ True) (by kernel_rfl) (⟨HB5.out.below (below_drewN (Below.refl _ _) 1), trivial⟩) (fun hHeld => ?_)
      refine wpAnyH_take (i := 0) (oi := { dst := some 28, op := Op.load 49 (Operand.tmp 3), type := 49, pos := "export.go:132", after := #[], guard := none }) (v := .agg g.ar) rfl (by kernel_rfl) (by kernel_rfl) (by kernel_rfl) (fun _ _ _ h => h) (yields_row (by rfl) _ _ rfl s 0 (by rfl) g.ar confS 13 confZ rfl (fun w h => whole_range h.1.bx.c)) hHeld ?_
      try simp only [Act.put, List.setIfInBounds_toArray, List.set_cons_zero, List.set_cons_succ]
      refine wpAnyH_take (i := 1) (oi := { dst := some 29, op := Op.load 40 (Operand.tmp 5), type := 40, pos := "export.go:132", after := #[], guard := none }) (v := .agg t.ar) rfl (by kernel_rfl) (by kernel_rfl) (by kernel_rfl) (fun _ _ _ h => h) (yields_row (by rfl) _ _ rfl (s + 1 + 1) 0 (by rfl) t.ar peerS 23 peerZ rfl (fun w h => whole_range h.1.bx.t)) hHeld ?_
      try simp only [Act.put, List.setIfInBounds_toArray, List.set_cons_zero, List.set_cons_succ]
      refine wpAnyH_take (i := 5) (oi := { dst := some 33, op := Op.load 49 (Operand.tmp 3), type := 49, pos := "export.go:132", after := #[], guard := none }) (v := .agg g.ar) rfl (by kernel_rfl) (by kernel_rfl) (by kernel_rfl) (fun _ _ _ h => h) (yields_row (by rfl) _ _ rfl s 0 (by rfl) g.ar confS 13 confZ rfl (fun w h => whole_range h.1.bx.c)) hHeld ?_
      try simp only [Act.put, List.setIfInBounds_toArray, List.set_cons_zero, List.set_cons_succ]
      refine wpAnyH_take (i := 6) (oi := { dst := some 34, op := Op.fieldAddr 37 (Operand.tmp 4) 4, type := 0, pos := "export.go:132", after := #[], guard := none }) (v := ?_) rfl (by kernel_rfl) (by kernel_rfl) (by kernel_rfl) (fun _ _ _ h => h) (Or.inl ⟨by rfl, ?_⟩) hHeld ?_
      rotate_left
      · intro w hSw
        clear hSw
        go_simp
        try with_reducible rfl
      try simp only [Act.put, List.setIfInBounds_toArray, List.set_cons_zero, List.set_cons_succ]
      refine wpAnyH_take (i := 7) (oi := { dst := some 35, op := Op.load 35 (Operand.tmp 34), type := 35, pos := "export.go:132", after := #[{ on := 6, ground := Ground.data }], guard := none }) (v := .agg p.so) rfl (by kernel_rfl) (by kernel_rfl) (by kernel_rfl) (fun _ _ _ h => h) (yields_row (by rfl) _ _ rfl (s + 1) 22 (by rfl) p.so soS 6 soZ rfl (fun w h => pth_so h.1.bx.p)) hHeld ?_
      try simp only [Act.put, List.setIfInBounds_toArray, List.set_cons_zero, List.set_cons_succ]
      refine wpAnyH_ready (rs := [2]) (by kernel_rfl) (by simp) ?_
      refine AllReadyH.cons (o := { dst := some 30, op := Op.call { callee := Callee.value (Operand.func 31), args := #[Operand.tmp 28, Operand.tmp 29], argTypes := #[49, 40] }, type := 3, pos := "export.go:132", after := #[{ on := 0, ground := Ground.data }, { on := 1, ground := Ground.data }], guard := none }) rfl (fun K hK => ?_) AllReadyH.nil
      go_simp
      refine (HK.out _).mono ?_
      rintro e w6 ⟨rfl, hw6⟩
      have HB6 : Hid (Below V5.heap.size V5 w6) := (below_drewN (Below.refl V5.heap.size V5) 1).trans hw6
      have HX6 : Hid (B4 w w6 s g p t) := hHeld.1.below hw6
      clear hw6 hHeld
      refine hK.out _ _ (⟨HX6.out, trivial⟩) (fun hHeld => ?_)
      clear hK K
      try simp only [Act.put, List.setIfInBounds_toArray, List.set_cons_zero, List.set_cons_succ]
      refine wpAnyH_ready (rs := [3]) (by kernel_rfl) (by simp) ?_
      refine AllReadyH.cons (o := { dst := some 31, op := Op.call { callee := Callee.value (Operand.func 43), args := #[Operand.tmp 30], argTypes := #[3] }, type := 84, pos := "export.go:132", after := #[{ on := 2, ground := Ground.data }, { on := 2, ground := Ground.chain }], guard := none }) rfl (fun K hK => ?_) AllReadyH.nil
      go_simp
      refine (HRO.out _).mono ?_
      rintro e w7 ⟨rfl, hw7⟩
      have HB7 : Hid (Below V5.heap.size V5 w7) := HB6.out.trans (hw7.mono HB6.out.size)
      have HX7 : Hid (B4 w w7 s g p t) := HX6.out.below hw7
      clear hw7 hHeld HB6 HX6
      refine hK.out _ _ (⟨HX7.out, trivial⟩) (fun hHeld => ?_)
      clear hK K
      try simp only [Act.put, List.setIfInBounds_toArray, List.set_cons_zero, List.set_cons_succ]
      refine wpAnyH_take (i := 4) (oi := { dst := some 32, op := Op.field 84 (Operand.tmp 31) 0, type := 82, pos := "export.go:132", after := #[{ on := 3, ground := Ground.data }], guard := none }) (v := ?_) rfl (by kernel_rfl) (by kernel_rfl) (by kernel_rfl) (fun _ _ _ h => h) (Or.inl ⟨by rfl, ?_⟩) hHeld ?_
      rotate_left
      · intro w hSw
        clear hSw
        go_simp
        try with_reducible rfl
      try simp only [Act.put, List.setIfInBounds_toArray, List.set_cons_zero, List.set_cons_succ]
      refine wpAnyH_ready (rs := [8]) (by kernel_rfl) (by simp) ?_
      refine AllReadyH.cons (o := { dst := some 36, op := Op.call { callee := Callee.value (Operand.tmp 32), args := #[Operand.tmp 33, Operand.tmp 35, Operand.tmp 9], argTypes := #[49, 35, 86] }, type := 54, pos := "export.go:132", after := #[{ on := 4, ground := Ground.data }, { on := 5, ground := Ground.data }, { on := 7, ground := Ground.data }, { on := 3, ground := Ground.chain }], guard := none }) rfl (fun K hK => ?_) AllReadyH.nil
      go_simp
      refine (HTU.out _ _ rfl HB7.out).mono ?_
      rintro e w8 ⟨a8, rfl, hc8, ho8, hm8, hb8⟩
      have HC8 := Lib.hid hc8
      have HO8 := Lib.hid ho8
      have HM8 := Lib.hid hm8
      have HB8 : Hid (B4 w w8 s g p t) := HX7.out.below' hb8 HBB.out.1
      clear hc8 ho8 hm8 hb8 hHeld
      refine hK.out _ _ (⟨HB8.out, trivial⟩) (fun hHeld => ?_)
      clear hK K
      try simp only [Act.put, List.setIfInBounds_toArray, List.set_cons_zero, List.set_cons_succ]
      refine wpAnyH_take (i := 9) (oi := { dst := some 10, op := Op.assign (Operand.tmp 36), type := 54, pos := "export.go:132", after := #[{ on := 8, ground := Ground.data }, { on := 8, ground := Ground.chain }, { on := 0, ground := Ground.phase }, { on := 1, ground := Ground.phase }, { on := 2, ground := Ground.phase }, { on := 3, ground := Ground.phase }, { on := 4, ground := Ground.phase }, { on := 5, ground := Ground.phase }, { on := 6, ground := Ground.phase }, { on := 7, ground := Ground.phase }, { on := 8, ground := Ground.phase }], guard := none }) (v := ?_) rfl (by kernel_rfl) (by kernel_rfl) (by kernel_rfl) (fun _ _ _ h => h) (Or.inl ⟨by rfl, ?_⟩) hHeld ?_
      rotate_left
      · intro w hSw
        clear hSw
        go_simp
        try with_reducible rfl
      try simp only [Act.put, List.setIfInBounds_toArray, List.set_cons_zero, List.set_cons_succ]
      refine wpAnyH_done (by kernel_rfl) ?_ _
      clear hHeld hfl hen
      by_cases hE : TF.2 = 0
      · have HE : Hid (attrsF g p t = (a8.c, 0)) := by
          show _ = _
          unfold attrsF
          rw [if_neg HOK.out, ← HTF.out, if_neg (by simp [hE]), HM8.out]
        rw [hE]
        clear hE
        go_wp2_with (with_reducible show wpList _ _ _ (_ :: _) _ _; first | refine wpList_load_attrs rfl (.tmp 9) rfl b rfl a8 HC8.out ?_ | refine wpList_store_attrs rfl (.tmp 6) (.tmp 41) rfl (s + 1 + 1 + 1) rfl a8 (by kernel_rfl) noAtr HB8.out.r ?_)
        try simp only [Exit.inBlock, Exit.then]
        have HG := Lib.hid (grown_setRow' w8 (s + 1 + 1 + 1) a8.ar)
        refine bodyPost_ret (results_at2 rfl _ _ (s + 1 + 1 + 1) a8 (.int .i64 0) rfl rfl (HB8.out.r.setRow' _)) rfl (HRET.out a8 _ _ HE.out ?_ ?_)
        · exact (HO8.out.box HG.out HB8.out.r).lower' (by have := HBB.out; have := HS.out; omega)
        · exact HB8.out.bx.b.grown HG.out HB8.out.bx.b.size (fun k hk => by injection hk with hk; have := HS.out; omega)
      · have HE : Hid (attrsF g p t = (noAtr.c, TF.2)) := by
          show _ = _
          unfold attrsF
          rw [if_neg HOK.out, ← HTF.out, if_pos hE]
          rfl
        have e1 : (TF.2 == 0) = false := beq_eq_false_iff_ne.2 hE
        have e2 : (TF.2 != 0) = true := by rw [bne, e1]; rfl
        clear hE
        go_wp2_with (with_reducible show wpList _ _ _ (_ :: _) _ _; refine wpList_store_attrs rfl (.tmp 6) (.tmp 39) rfl (s + 1 + 1 + 1) rfl noAtr (by kernel_rfl) noAtr HB8.out.r ?_)
        try simp only [Exit.inBlock, Exit.then]
        have HG := Lib.hid (grown_setRow' w8 (s + 1 + 1 + 1) noAtr.ar)
        refine bodyPost_ret (results_at2 rfl _ _ (s + 1 + 1 + 1) noAtr (.int .i64 TF.2) rfl rfl (HB8.out.r.setRow' _)) rfl (HRET.out noAtr _ _ HE.out (noAtr_own _ _) ?_)
        exact HB8.out.bx.b.grown HG.out HB8.out.bx.b.size (fun k hk => by injection hk with hk; have := HS.out; omega)
end Go.Proofs.YtojiieghjhjoaaaGreat
