/-
  Several texts in one.
-/
import Derived.Test.YtldpcliahfiloaaGreatPW44
import Derived.Test.YtldpcliahfiloaaGreatPW45
set_option linter.unusedVariables false
set_option linter.unusedSimpArgs false
namespace Go.Proofs.YtldpcliahfiloaaGreat
open Go.RowKit Go.MapKept Go.Shelf
open Go.ChangeShapes Go.WideShapes Go.ChangeAt
open Go.ChangeMaps (open_string shut_string)
open Go.Lib hiding intOf
open Go.Sort hiding Below

theorem path_facts {w : World} {g : Nat} {k : Pk} {l : Nat} {a : Atr} {s : Bool} (h : CellsAt w g (pathAr k l a s) 64) : (w.cell? ⟨g, 0, none⟩ = some (.int .i64 k.fam) ∧ w.cell? ⟨g, 1, none⟩ = some (.int .u64 k.rd) ∧ w.cell? ⟨g, 2, none⟩ = some (.string k.addr) ∧ w.cell? ⟨g, 3, none⟩ = some (.int .i64 k.len) ∧ w.cell? ⟨g, 4, none⟩ = some (.int .u32 (k.id : Nat)) ∧ w.cell? ⟨g, 5, none⟩ = some (.int .u32 (l : Nat))) ∧ (w.cell? ⟨g, 22, none⟩ = some (.int .i64 0) ∧ w.cell? ⟨g, 23, none⟩ = some (.string ⟨#[]⟩) ∧ w.cell? ⟨g, 24, none⟩ = some (.int .u32 0) ∧ w.cell? ⟨g, 25, none⟩ = some (.int .u32 0) ∧ w.cell? ⟨g, 26, none⟩ = some (.string ⟨#[]⟩) ∧ w.cell? ⟨g, 27, none⟩ = some (.string ⟨#[]⟩) ∧ w.cell? ⟨g, 28, none⟩ = some (.bool s)) :=
  ⟨⟨(h.c 0).trans rfl, (h.c 1).trans rfl, (h.c 2).trans rfl, (h.c 3).trans rfl, (h.c 4).trans rfl, (h.c 5).trans rfl⟩, (h.c 22).trans rfl, (h.c 23).trans rfl, (h.c 24).trans rfl, (h.c 25).trans rfl, (h.c 26).trans rfl, (h.c 27).trans rfl, (h.c 28).trans rfl⟩
theorem path_mid {w : World} {b : Nat} {T : TypeId} {k : Pk} {l : Nat} {a : Atr} {s : Bool} (h : CellsAt w b (pathAr k l a s) T) : w.rangeAt b 6 a.ar.toList := fun j v hv => by
  rw [h.c]
  have e : (pathAr k l a s).toList = [.int .i64 k.fam, .int .u64 k.rd, .string k.addr, .int .i64 k.len, .int .u32 (k.id : Nat), .int .u32 (l : Nat)] ++ (a.cs ++ [.int .i64 0, .string ⟨#[]⟩, .int .u32 0, .int .u32 0, .string ⟨#[]⟩, .string ⟨#[]⟩, .bool s]) := rfl
  have hv2 : a.cs[j]? = some v := hv
  rw [← Array.getElem?_toList, e, List.getElem?_append_right (by simp)]
  simp only [List.length_cons, List.length_nil, Nat.zero_add, Nat.reduceAdd, Nat.add_sub_cancel_left]
  rw [List.getElem?_append_left (List.getElem?_eq_some_iff.1 hv2).1]
  exact hv2
theorem load_path_attrs_g {ops : Array Oper} {rest : List Oper} {op : Oper} {a : Act} {w : World} {Q : Exit → Act → World → Prop} (hw : Region.wanted op (yielded ops a.tmps) = true) (src : Operand) (ho : op.op = .load 41 src) (b : Nat) (hx : a.eval src = .pointer (some ⟨b, 6, none⟩)) (p : Atr) (hc : w.rangeAt b 6 p.ar.toList)
    (h : wpList Tryz.prog ops Q rest (a.put op.dst p.v) w) : wpList Tryz.prog ops Q (op :: rest) a w := by
  obtain ⟨fs, hu⟩ := attrs_under
  refine wpList_step fun K hK => ?_
  rw [if_pos hw]
  exact wp_load_mid 41 src ho b 6 hx p.ar.toList _ hc hu rfl (by rw [attrs_size]; rfl) (hK _ _ h)
theorem yields_ph {ops : Array Oper} {S : World → Prop} {o : Oper} {a : Act} (hw : Region.wanted o (yielded ops a.tmps) = true) (src : Operand) (ho : o.op = .load 64 src)
    (b off : Nat) (hx : a.eval src = .pointer (some ⟨b, off, none⟩)) (t : Td) (hS : ∀ w, S w → w.rangeAt b off t.pa.toList) : YieldsIf Tryz.prog ops S o (.agg t.pa) a := by
  obtain ⟨fs, hu⟩ := path_under
  exact yieldsIf_load_mid hw 64 src ho b off hx t.pa.toList _ hS hu rfl (by rw [path_size]; rfl)
set_option maxRecDepth 100000 in
set_option maxHeartbeats 8000000 in
theorem samepath_any (k : Pk) (l : Nat) (s : Bool) (a b : Atr) (hc : a.c = b.c) (w : World) (h1 : AtrOk w a) (h2 : AtrOk w b) :
    Calls Tryz.prog 20 #[.agg (pathAr k l a s), .agg (pathAr k l b s)] w fun e w' => e = .returned (.bool true) ∧ Below w.heap.size w w' := by
  have HSM : Hid (∀ W, Below w.heap.size w W → Calls Tryz.prog 15 #[a.v, b.v] W fun e w' => e = .returned (.bool true) ∧ Below W.heap.size W w') := fun W hW => by
    have h := rsame_any a b W (h1.below hW (Nat.le_refl _)) (h2.below hW (Nat.le_refl _))
    rwa [decide_eq_true hc] at h
  clear hc h1 h2
  go_enter Tryz.func20, Tryz.ntmps20
  go_upto_region 1 with fail
  refine rb_name fun V hV => ?_
  obtain ⟨g, hg⟩ : ∃ s, s = w.heap.size := ⟨_, rfl⟩
  have HX0 : Hid (CellsAt V g (pathAr k l a s) 64) := by rw [hV, hg]; exact (CellsAt.new _ _ _).alloc _
  have HY0 : Hid (CellsAt V (g + 1) (pathAr k l b s) 64) := by
    have h := CellsAt.new (w.alloc (.cells (pathAr k l a s) 64)) (pathAr k l b s) 64
    rw [World.size_alloc] at h
    rw [hV, hg]
    exact h
  have HB : Hid (Below w.heap.size w V) := by rw [hV]; exact ((Below.refl _ _).alloc (Nat.le_refl _) _).alloc (by simp) _
  rw [← hg]
  clear hV hg
  obtain ⟨⟨a0, a1, a2, a3, a4, a5⟩, a22, a23, a24, a25, a26, a27, a28⟩ := path_facts HX0.out
  obtain ⟨⟨b0, b1, b2, b3, b4, b5⟩, b22, b23, b24, b25, b26, b27, b28⟩ := path_facts HY0.out
  have HM1 := Lib.hid (path_mid HX0.out)
  have HM2 := Lib.hid (path_mid HY0.out)
  clear HX0 HY0
  go_wp2_with (first | (with_reducible show wpList _ _ _ (⟨some 40, _, _, _, _, _⟩ :: _) _ _; refine load_path_attrs_g (by as_aux_lemma => kernel_rfl) (.tmp 39) rfl g rfl a HM1.out ?_) | (with_reducible show wpList _ _ _ (⟨some 42, _, _, _, _, _⟩ :: _) _ _; refine load_path_attrs_g (by as_aux_lemma => kernel_rfl) (.tmp 41) rfl (g + 1) rfl b HM2.out ?_))
  refine (HSM.out V HB.out).mono ?_
  rintro e w2 ⟨rfl, hw2⟩
  have HB2 : Hid (Below w.heap.size w w2) := HB.out.trans (hw2.mono HB.out.size)
  clear hw2 HM1 HM2
  go_wp2_with fail
  go_ret
  exact ⟨rfl, HB2.out⟩
theorem samepath_td {t u : Td} (e : t.c = u.c) (w : World) (h1 : AtrOk w t.a) (h2 : AtrOk w u.a) :
    Calls Tryz.prog 20 #[.agg t.pa, .agg u.pa] w fun e w' => e = .returned (.bool true) ∧ Below w.heap.size w w' := by
  obtain ⟨k, l, a, s⟩ := t
  obtain ⟨k2, l2, b, s2⟩ := u
  unfold Td.c at e
  injection e with e1 e2 e3 e4
  dsimp only at e1 e2 e3 e4
  subst e1 e2 e4
  exact samepath_any k l s a b e3 w h1 h2
set_option maxRecDepth 100000 in
set_option maxHeartbeats 8000000 in
theorem same22_any {w : World} {A1 A2 : Option Addr} {c1 c2 : Nat} {L1 L2 : List Td} (h1 : PhL w A1 c1 L1) (h2 : PhL w A2 c2 L2) (he : L1.map Td.c = L2.map Td.c) (hL : L1.length ≤ 1000) :
    Calls Tryz.prog 7 #[.slice A1 L1.length c1, .slice A2 L2.length c2] w fun e w' => e = .returned (.bool true) ∧ Below w.heap.size w w' := by
  have hlen : L2.length = L1.length := by have h := congrArg List.length he; simpa using h.symm
  have HP1 := Lib.hid h1
  have HP2 := Lib.hid h2
  have HE := Lib.hid he
  have HLN := Lib.hid hlen
  have hl1 := h1.len
  have hm1 := h1.cap
  have hl2 := h2.len
  have hm2 := h2.cap
  unfold maxLen at hm1 hm2
  rw [hlen] at hl2 ⊢
  clear h1 h2 he hlen
  go_enter Tryz.func7, Tryz.ntmps7
  go_wp2_with fail
  go_loopw [5] (fun i wr => ∃ n : Nat, i = .int .i64 n ∧ n ≤ L1.length ∧ Hid (Below w.heap.size w wr)) (fun i _ => L1.length + 1 - (intOf i).toNat)
  case atStart => exact ⟨0, rfl, Nat.zero_le _, Below.refl _ _⟩
  case round =>
    obtain ⟨wq, hwq⟩ : ∃ x, x = wr := ⟨_, rfl⟩
    subst hwq
    obtain ⟨n, rfl, hn, HBq⟩ := hrel
    by_cases hlt : n < L1.length
    · obtain ⟨t, ht⟩ : ∃ x, L1[n]? = some x := ⟨L1[n]'hlt, List.getElem?_eq_getElem _⟩
      obtain ⟨u, hu⟩ : ∃ x, L2[n]? = some x := ⟨L2[n]'(by rw [HLN.out]; exact hlt), List.getElem?_eq_getElem _⟩
      have hc : t.c = u.c := by
        have h := congrArg (fun l => l[n]?) HE.out
        simp only [List.getElem?_map, ht, hu, Option.map_some, Option.some.injEq] at h
        exact h
      obtain ⟨b1, off1, rfl, hr1⟩ := HP1.out.row ht
      obtain ⟨b2, off2, rfl, hr2⟩ := HP2.out.row hu
      have HR1 : Hid (∀ W, Below wq.heap.size wq W → W.rangeAt b1 (off1 + n * 29) t.pa.toList) := fun W hW => hr1 W (HBq.out.trans (hW.mono HBq.out.size))
      have HR2 : Hid (∀ W, Below wq.heap.size wq W → W.rangeAt b2 (off2 + n * 29) u.pa.toList) := fun W hW => hr2 W (HBq.out.trans (hW.mono HBq.out.size))
      have HSP : Hid (∀ W, Below wq.heap.size wq W → Calls Tryz.prog 20 #[.agg t.pa, .agg u.pa] W fun e w' => e = .returned (.bool true) ∧ Below W.heap.size W w') := fun W hW => samepath_td hc W ((HP1.out.below (HBq.out.trans (hW.mono HBq.out.size))).ok t (List.mem_of_getElem? ht)).2.2.1 ((HP2.out.below (HBq.out.trans (hW.mono HBq.out.size))).ok u (List.mem_of_getElem? hu)).2.2.1
      clear hr1 hr2 ht hu hc
      go_upto_region 6 with fail
      refine wp_region_held_drew (S := fun w' => Below wq.heap.size wq w') (by kernel_rfl) (below_drewN (Below.refl _ _) 1) (fun hHeld => ?_)
      refine wpAnyH_take (i := 0) (oi := { dst := some 17, op := Op.move (Operand.tmp 0), type := 25, pos := "ref.go:135", after := #[], guard := none }) (v := ?_) rfl (by kernel_rfl) (by kernel_rfl) (by kernel_rfl) (fun _ _ _ h => h) (Or.inl ⟨by rfl, ?_⟩) hHeld ?_
      rotate_left
      · intro w hSw
        clear hSw
        go_simp
        try with_reducible rfl
      try simp only [Act.put, List.setIfInBounds_toArray, List.set_cons_zero, List.set_cons_succ]
      refine wpAnyH_take (i := 1) (oi := { dst := some 18, op := Op.move (Operand.tmp 5), type := 3, pos := "ref.go:135", after := #[], guard := none }) (v := ?_) rfl (by kernel_rfl) (by kernel_rfl) (by kernel_rfl) (fun _ _ _ h => h) (Or.inl ⟨by rfl, ?_⟩) hHeld ?_
      rotate_left
      · intro w hSw
        clear hSw
        go_simp
        try with_reducible rfl
      try simp only [Act.put, List.setIfInBounds_toArray, List.set_cons_zero, List.set_cons_succ]
      refine wpAnyH_take (i := 2) (oi := { dst := some 19, op := Op.indexAddr 25 (Operand.tmp 17) (Operand.tmp 18), type := 0, pos := "ref.go:135", after := #[{ on := 0, ground := Ground.data }, { on := 1, ground := Ground.data }], guard := none }) (v := ?_) rfl (by kernel_rfl) (by kernel_rfl) (by kernel_rfl) (fun _ _ _ h => h) (Or.inl ⟨by rfl, ?_⟩) hHeld ?_
      rotate_left
      · intro w hSw
        clear hSw
        go_simp
        try with_reducible rfl
      try simp only [Act.put, List.setIfInBounds_toArray, List.set_cons_zero, List.set_cons_succ]
      refine wpAnyH_take (i := 3) (oi := { dst := some 20, op := Op.load 64 (Operand.tmp 19), type := 64, pos := "ref.go:135", after := #[{ on := 2, ground := Ground.data }], guard := none }) (v := Value.agg t.pa) rfl (by kernel_rfl) (by kernel_rfl) (by kernel_rfl) (fun _ _ _ h => h) (yields_ph (by rfl) (.tmp 19) rfl b1 (off1 + n * 29) (by rfl) t (fun w hSw => HR1.out w hSw)) hHeld ?_
      try simp only [Act.put, List.setIfInBounds_toArray, List.set_cons_zero, List.set_cons_succ]
      refine wpAnyH_take (i := 4) (oi := { dst := some 21, op := Op.move (Operand.tmp 1), type := 25, pos := "ref.go:135", after := #[], guard := none }) (v := ?_) rfl (by kernel_rfl) (by kernel_rfl) (by kernel_rfl) (fun _ _ _ h => h) (Or.inl ⟨by rfl, ?_⟩) hHeld ?_
      rotate_left
      · intro w hSw
        clear hSw
        go_simp
        try with_reducible rfl
      try simp only [Act.put, List.setIfInBounds_toArray, List.set_cons_zero, List.set_cons_succ]
      refine wpAnyH_take (i := 5) (oi := { dst := some 22, op := Op.move (Operand.tmp 5), type := 3, pos := "ref.go:135", after := #[], guard := none }) (v := ?_) rfl (by kernel_rfl) (by kernel_rfl) (by kernel_rfl) (fun _ _ _ h => h) (Or.inl ⟨by rfl, ?_⟩) hHeld ?_
      rotate_left
      · intro w hSw
        clear hSw
        go_simp
        try with_reducible rfl
      try simp only [Act.put, List.setIfInBounds_toArray, List.set_cons_zero, List.set_cons_succ]
      refine wpAnyH_take (i := 6) (oi := { dst := some 23, op := Op.indexAddr 25 (Operand.tmp 21) (Operand.tmp 22), type := 0, pos := "ref.go:135", after := #[{ on := 4, ground := Ground.data }, { on := 5, ground := Ground.data }], guard := none }) (v := ?_) rfl (by kernel_rfl) (by kernel_rfl) (by kernel_rfl) (fun _ _ _ h => h) (Or.inl ⟨by rfl, ?_⟩) hHeld ?_
      rotate_left
      · intro w hSw
        clear hSw
        go_simp
        try with_reducible rfl
      try simp only [Act.put, List.setIfInBounds_toArray, List.set_cons_zero, List.set_cons_succ]
      refine wpAnyH_take (i := 7) (oi := { dst := some 24, op := Op.load 64 (Operand.tmp 23), type := 64, pos := "ref.go:135", after := #[{ on := 6, ground := Ground.data }], guard := none }) (v := Value.agg u.pa) rfl (by kernel_rfl) (by kernel_rfl) (by kernel_rfl) (fun _ _ _ h => h) (yields_ph (by rfl) (.tmp 23) rfl b2 (off2 + n * 29) (by rfl) u (fun w hSw => HR2.out w hSw)) hHeld ?_
      try simp only [Act.put, List.setIfInBounds_toArray, List.set_cons_zero, List.set_cons_succ]
      refine wpAnyH_ready (rs := [8]) (by kernel_rfl) (by simp) ?_
      refine AllReadyH.cons (o := { dst := some 25, op := Op.call { callee := Callee.value (Operand.func 20), args := #[Operand.tmp 20, Operand.tmp 24], argTypes := #[64, 64] }, type := 4, pos := "ref.go:135", after := #[{ on := 3, ground := Ground.data }, { on := 7, ground := Ground.data }], guard := none }) rfl (fun K hK => ?_) AllReadyH.nil
      go_simp
      refine (HSP.out _ (hHeld)).mono ?_
      rintro e w9 ⟨rfl, hw9⟩
      refine hK.out _ _ (hHeld.trans (hw9.mono hHeld.size)) (fun hHeld => ?_)
      clear hK K
      try simp only [Act.put, List.setIfInBounds_toArray, List.set_cons_zero, List.set_cons_succ]
      refine wpAnyH_take (i := 9) (oi := { dst := some 26, op := Op.unOp UnOp.not 4 (Operand.tmp 25), type := 4, pos := "ref.go:135", after := #[{ on := 8, ground := Ground.data }], guard := none }) (v := ?_) rfl (by kernel_rfl) (by kernel_rfl) (by kernel_rfl) (fun _ _ _ h => h) (Or.inl ⟨by rfl, ?_⟩) hHeld ?_
      rotate_left
      · intro w hSw
        clear hSw
        go_simp
        try with_reducible rfl
      try simp only [Act.put, List.setIfInBounds_toArray, List.set_cons_zero, List.set_cons_succ]
      refine wpAnyH_done (by kernel_rfl) ?_ _
      go_upto_region 5 with fail
      refine rb_name fun Z hZ => ?_
      have HBZ : Hid (Below w.heap.size w Z) := by rw [hZ]; exact HBq.out.trans (hHeld.mono HBq.out.size)
      clear hZ hHeld HR1 HR2 HSP
      go_wp2_with fail
      exact ⟨⟨n + 1, by go_num, by omega, HBZ.out⟩, by simp [intOf]; omega⟩
    · have hnL : n = L1.length := by omega
      subst hnL
      go_wp2_with fail
      go_ret
      exact ⟨rfl, HBq.out⟩
set_option maxRecDepth 100000 in
set_option maxHeartbeats 8000000 in
theorem samenl_any {w : World} {A1 A2 : Option Addr} {c1 c2 : Nat} {L : List Nr} (h1 : NrsOk w A1 c1 L) (h2 : NrsOk w A2 c2 L) (hL : L.length ≤ 1000) :
    Calls Tryz.prog 25 #[.slice A1 L.length c1, .slice A2 L.length c2] w fun e w' => e = .returned (.bool true) ∧ Below w.heap.size w w' := by
  have HP1 := Lib.hid h1
  have HP2 := Lib.hid h2
  have hl1 := h1.len
  have hm1 := h1.cap
  have hl2 := h2.len
  have hm2 := h2.cap
  clear h1 h2
  go_enter Tryz.func25, Tryz.ntmps25
  go_wp2_with fail
  go_loopw [5] (fun i wr => ∃ n : Nat, i = .int .i64 n ∧ n ≤ L.length ∧ Hid (Below w.heap.size w wr)) (fun i _ => L.length + 1 - (intOf i).toNat)
  case atStart => exact ⟨0, rfl, Nat.zero_le _, Below.refl _ _⟩
  case round =>
    obtain ⟨wq, hwq⟩ : ∃ x, x = wr := ⟨_, rfl⟩
    subst hwq
    obtain ⟨n, rfl, hn, HBq⟩ := hrel
    by_cases hlt : n < L.length
    · obtain ⟨t, ht⟩ : ∃ x, L[n]? = some x := ⟨L[n]'hlt, List.getElem?_eq_getElem _⟩
      obtain ⟨b1, off1, rfl, _, hr1⟩ := HP1.out.row ht (Nat.le_refl _)
      obtain ⟨b2, off2, rfl, _, hr2⟩ := HP2.out.row ht (Nat.le_refl _)
      have HR1 := Lib.hid hr1
      have HR2 := Lib.hid hr2
      clear hr1 hr2 ht
      go_upto_region 6 with fail
      refine wp_region_held_drew (S := fun w' => Below wq.heap.size wq w') (by kernel_rfl) (below_drewN (Below.refl _ _) 1) (fun hHeld => ?_)
      refine wpAnyH_take (i := 0) (oi := { dst := some 17, op := Op.move (Operand.tmp 0), type := 73, pos := "ref.go:148", after := #[], guard := none }) (v := ?_) rfl (by kernel_rfl) (by kernel_rfl) (by kernel_rfl) (fun _ _ _ h => h) (Or.inl ⟨by rfl, ?_⟩) hHeld ?_
      rotate_left
      · intro w hSw
        clear hSw
        go_simp
        try with_reducible rfl
      try simp only [Act.put, List.setIfInBounds_toArray, List.set_cons_zero, List.set_cons_succ]
      refine wpAnyH_take (i := 1) (oi := { dst := some 18, op := Op.move (Operand.tmp 5), type := 3, pos := "ref.go:148", after := #[], guard := none }) (v := ?_) rfl (by kernel_rfl) (by kernel_rfl) (by kernel_rfl) (fun _ _ _ h => h) (Or.inl ⟨by rfl, ?_⟩) hHeld ?_
      rotate_left
      · intro w hSw
        clear hSw
        go_simp
        try with_reducible rfl
      try simp only [Act.put, List.setIfInBounds_toArray, List.set_cons_zero, List.set_cons_succ]
      refine wpAnyH_take (i := 2) (oi := { dst := some 19, op := Op.indexAddr 73 (Operand.tmp 17) (Operand.tmp 18), type := 0, pos := "ref.go:148", after := #[{ on := 0, ground := Ground.data }, { on := 1, ground := Ground.data }], guard := none }) (v := ?_) rfl (by kernel_rfl) (by kernel_rfl) (by kernel_rfl) (fun _ _ _ h => h) (Or.inl ⟨by rfl, ?_⟩) hHeld ?_
      rotate_left
      · intro w hSw
        clear hSw
        go_simp
        try with_reducible rfl
      try simp only [Act.put, List.setIfInBounds_toArray, List.set_cons_zero, List.set_cons_succ]
      refine wpAnyH_take (i := 3) (oi := { dst := some 20, op := Op.load 35 (Operand.tmp 19), type := 35, pos := "ref.go:148", after := #[{ on := 2, ground := Ground.data }], guard := none }) (v := ?_) rfl (by kernel_rfl) (by kernel_rfl) (by kernel_rfl) (fun _ _ _ h => h) (Or.inl ⟨by rfl, ?_⟩) hHeld ?_
      rotate_left
      · intro w hSw
        obtain ⟨a0, a1, a2, a3, a4, a5⟩ := HR1.out w (HBq.out.trans (hSw.mono HBq.out.size))
        obtain ⟨d0, d1, d2, d3, d4, d5⟩ := HR2.out w (HBq.out.trans (hSw.mono HBq.out.size))
        go_simp
        try with_reducible rfl
      try simp only [Act.put, List.setIfInBounds_toArray, List.set_cons_zero, List.set_cons_succ]
      refine wpAnyH_take (i := 4) (oi := { dst := some 21, op := Op.move (Operand.tmp 1), type := 73, pos := "ref.go:148", after := #[], guard := none }) (v := ?_) rfl (by kernel_rfl) (by kernel_rfl) (by kernel_rfl) (fun _ _ _ h => h) (Or.inl ⟨by rfl, ?_⟩) hHeld ?_
      rotate_left
      · intro w hSw
        clear hSw
        go_simp
        try with_reducible rfl
      try simp only [Act.put, List.setIfInBounds_toArray, List.set_cons_zero, List.set_cons_succ]
      refine wpAnyH_take (i := 5) (oi := { dst := some 22, op := Op.move (Operand.tmp 5), type := 3, pos := "ref.go:148", after := #[], guard := none }) (v := ?_) rfl (by kernel_rfl) (by kernel_rfl) (by kernel_rfl) (fun _ _ _ h => h) (Or.inl ⟨by rfl, ?_⟩) hHeld ?_
      rotate_left
      · intro w hSw
        clear hSw
        go_simp
        try with_reducible rfl
      try simp only [Act.put, List.setIfInBounds_toArray, List.set_cons_zero, List.set_cons_succ]
      refine wpAnyH_take (i := 6) (oi := { dst := some 23, op := Op.indexAddr 73 (Operand.tmp 21) (Operand.tmp 22), type := 0, pos := "ref.go:148", after := #[{ on := 4, ground := Ground.data }, { on := 5, ground := Ground.data }], guard := none }) (v := ?_) rfl (by kernel_rfl) (by kernel_rfl) (by kernel_rfl) (fun _ _ _ h => h) (Or.inl ⟨by rfl, ?_⟩) hHeld ?_
      rotate_left
      · intro w hSw
        clear hSw
        go_simp
        try with_reducible rfl
      try simp only [Act.put, List.setIfInBounds_toArray, List.set_cons_zero, List.set_cons_succ]
      refine wpAnyH_take (i := 7) (oi := { dst := some 24, op := Op.load 35 (Operand.tmp 23), type := 35, pos := "ref.go:148", after := #[{ on := 6, ground := Ground.data }], guard := none }) (v := ?_) rfl (by kernel_rfl) (by kernel_rfl) (by kernel_rfl) (fun _ _ _ h => h) (Or.inl ⟨by rfl, ?_⟩) hHeld ?_
      rotate_left
      · intro w hSw
        obtain ⟨a0, a1, a2, a3, a4, a5⟩ := HR1.out w (HBq.out.trans (hSw.mono HBq.out.size))
        obtain ⟨d0, d1, d2, d3, d4, d5⟩ := HR2.out w (HBq.out.trans (hSw.mono HBq.out.size))
        go_simp
        try with_reducible rfl
      try simp only [Act.put, List.setIfInBounds_toArray, List.set_cons_zero, List.set_cons_succ]
      refine wpAnyH_take (i := 8) (oi := { dst := some 25, op := Op.binOp BinOp.neq 35 (Operand.tmp 20) (Operand.tmp 24) 35, type := 4, pos := "ref.go:148", after := #[{ on := 3, ground := Ground.data }, { on := 7, ground := Ground.data }], guard := none }) (v := ?_) rfl (by kernel_rfl) (by kernel_rfl) (by kernel_rfl) (fun _ _ _ h => h) (Or.inl ⟨by rfl, ?_⟩) hHeld ?_
      rotate_left
      · intro w hSw
        clear hSw
        go_simp
        try with_reducible rfl
      try simp only [Act.put, List.setIfInBounds_toArray, List.set_cons_zero, List.set_cons_succ]
      refine wpAnyH_done (by kernel_rfl) ?_ _
      go_upto_region 5 with fail
      refine rb_name fun Z hZ => ?_
      have HBZ : Hid (Below w.heap.size w Z) := by rw [hZ]; exact HBq.out.trans (hHeld.mono HBq.out.size)
      clear hZ hHeld HR1 HR2
      go_wp2_with fail
      exact ⟨⟨n + 1, by go_num, by omega, HBZ.out⟩, by simp [intOf]; omega⟩
    · have hnL : n = L.length := by omega
      subst hnL
      go_wp2_with fail
      go_ret
      exact ⟨rfl, HBq.out⟩
end Go.Proofs.YtldpcliahfiloaaGreat
