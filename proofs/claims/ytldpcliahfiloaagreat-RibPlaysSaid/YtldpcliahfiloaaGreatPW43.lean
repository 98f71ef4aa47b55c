/-
  Several texts in one.
-/
import Derived.Test.YtldpcliahfiloaaGreatPW39
import Derived.Test.YtldpcliahfiloaaGreatPW41
import Derived.Test.YtldpcliahfiloaaGreatPW42
import Derived.Test.YtldpcliahfiloaaGreatPW20
set_option linter.unusedVariables false
set_option linter.unusedSimpArgs false
namespace Go.Proofs.YtldpcliahfiloaaGreat
open Go.RowKit Go.MapKept Go.Shelf
open Go.ChangeShapes Go.WideShapes Go.ChangeAt
open Go.ChangeMaps (open_string shut_string)
open Go.Lib hiding intOf
open Go.Sort hiding Below

/-- how far a search has come -/
def PlQ (C : List TdC) (k : Pk) (n : Nat) : Prop := n ≤ C.length ∧ placeF C k = ((placeF (C.drop n) k).1 + n, (placeF (C.drop n) k).2)
theorem PlQ.start (C : List TdC) (k : Pk) : PlQ C k 0 := ⟨Nat.zero_le _, rfl⟩
theorem PlQ.at_ {C : List TdC} {k : Pk} {n : Nat} {x : TdC} (h : PlQ C k n) (hx : C[n]? = some x) : (cfP x.k k = 0 → placeF C k = (n, true)) ∧ (0 < cfP x.k k → placeF C k = (n, false)) ∧ (cfP x.k k < 0 → PlQ C k (n + 1)) := by
  obtain ⟨a1, a2⟩ := List.getElem?_eq_some_iff.1 hx
  have hd : C.drop n = x :: C.drop (n + 1) := by rw [List.drop_eq_getElem_cons a1, a2]
  have h2 := h.2
  rw [hd] at h2
  unfold placeF at h2
  refine ⟨fun e => ?_, fun e => ?_, fun e => ?_⟩
  · rw [if_pos e] at h2
    rw [← Nat.zero_add n]
    exact (by rw [Nat.zero_add] at h2 ⊢; exact (by unfold placeF; exact h2))
  · rw [if_neg (by omega), if_pos e] at h2
    exact (by rw [Nat.zero_add] at h2; exact (by unfold placeF; exact h2))
  · rw [if_neg (by omega), if_neg (by omega)] at h2
    refine ⟨by omega, ?_⟩
    have h3 : placeF C k = ((placeF (C.drop (n + 1)) k).1 + 1 + n, (placeF (C.drop (n + 1)) k).2) := by
      conv => lhs; unfold placeF
      exact h2
    rw [h3, Nat.add_assoc, Nat.add_comm 1 n]
theorem PlQ.fin {C : List TdC} {k : Pk} (h : PlQ C k C.length) : placeF C k = (C.length, false) := by
  have h2 := h.2
  rw [List.drop_length] at h2
  rw [h2]
  show ((placeF [] k).1 + C.length, (placeF [] k).2) = _
  unfold placeF
  rw [Nat.zero_add]
set_option maxRecDepth 100000 in
set_option maxHeartbeats 8000000 in
theorem place_any {w : World} {A : Option Addr} {c : Nat} {L : List Td} (h : PhL w A c L) (hL : L.length ≤ 1000) (k : Pk) (hk : k.Ok) :
    Calls Tryz.prog 40 #[.slice A L.length c, .agg k.pf, .int .u32 (k.id : Nat)] w fun e w' => e = .returned (.tuple #[.int .i64 ((placeF (L.map Td.c) k).1 : Nat), .bool (placeF (L.map Td.c) k).2]) ∧ Below w.heap.size w w' := by
  have HP := Lib.hid h
  have HK := Lib.hid hk
  have hlc := h.len
  have hcm := h.cap
  unfold maxLen at hcm
  have HLN : Hid ((L.map Td.c).length = L.length) := List.length_map ..
  clear h
  obtain ⟨r, hr⟩ : ∃ r, r = placeF (L.map Td.c) k := ⟨_, rfl⟩
  rw [← hr]
  have HR := Lib.hid hr
  clear hr
  obtain ⟨ri, rb⟩ := r
  dsimp only
  unfold Pk.pf
  go_enter Tryz.func40, Tryz.ntmps40
  go_upto_region 1 with fail
  refine rb_name fun V hV => ?_
  obtain ⟨s, hs⟩ : ∃ s, s = w.heap.size := ⟨_, rfl⟩
  have HX0 : Hid (CellsAt V s #[.int .i64 k.fam, .int .u64 k.rd, .string k.addr, .int .i64 k.len] 32) := by rw [hV, hs]; exact CellsAt.new _ _ _
  have HB : Hid (Below w.heap.size w V) := by rw [hV]; exact (Below.refl _ _).alloc (Nat.le_refl _) _
  rw [← hs]
  clear hV hs hk
  go_wp2_with fail
  go_loopw [8] (fun i wr => ∃ n : Nat, i = .int .i64 n ∧ n ≤ L.length ∧ Hid (PlQ (L.map Td.c) k n) ∧ Hid (Below V.heap.size V wr)) (fun i _ => L.length + 1 - (intOf i).toNat)
  case atStart => exact ⟨0, rfl, Nat.zero_le _, PlQ.start _ _, Below.refl _ _⟩
  case round =>
    obtain ⟨wq, hwq⟩ : ∃ x, x = wr := ⟨_, rfl⟩
    subst hwq
    obtain ⟨n, rfl, hn, HQ, HBq⟩ := hrel
    by_cases hlt : n < L.length
    · obtain ⟨t, ht⟩ : ∃ x, L[n]? = some x := ⟨L[n]'hlt, List.getElem?_eq_getElem _⟩
      obtain ⟨q1, q2, q3⟩ := HQ.out.at_ (x := t.c) (by rw [List.getElem?_map, ht]; rfl)
      obtain ⟨b, off, rfl, hrow⟩ := HP.out.row ht
      have HTK := Lib.hid (HP.out.ok t (List.mem_of_getElem? ht)).1
      obtain ⟨x, lab, at_, st⟩ := t
      dsimp only at HTK
      have HROW : Hid (∀ W, Below wq.heap.size wq W → W.cell? ⟨b, off + n * 29, none⟩ = some (.int .i64 x.fam) ∧ W.cell? ⟨b, off + n * 29 + 1, none⟩ = some (.int .u64 x.rd) ∧ W.cell? ⟨b, off + n * 29 + 2, none⟩ = some (.string x.addr) ∧ W.cell? ⟨b, off + n * 29 + 3, none⟩ = some (.int .i64 x.len) ∧ W.cell? ⟨b, off + n * 29 + 4, none⟩ = some (.int .u32 (x.id : Nat))) := fun W hW => by
        obtain ⟨e0, e1, e2, e3, e4, _⟩ := pa_at (hrow W (HB.out.trans ((HBq.out.trans (hW.mono HBq.out.size)).mono HB.out.size)))
        exact ⟨e0, e1, e2, e3, e4⟩
      have HKEY : Hid (∀ W, Below wq.heap.size wq W → W.cell? ⟨s, 0, none⟩ = some (.int .i64 k.fam) ∧ W.cell? ⟨s, 1, none⟩ = some (.int .u64 k.rd) ∧ W.cell? ⟨s, 2, none⟩ = some (.string k.addr) ∧ W.cell? ⟨s, 3, none⟩ = some (.int .i64 k.len)) := fun W hW => (HX0.out.below (HBq.out.trans (hW.mono HBq.out.size)) HX0.out.lt).c4
      have HORD : Hid (∀ W, Calls Tryz.prog 65 #[.agg #[.int .i64 x.fam, .int .u64 x.rd, .string x.addr, .int .i64 x.len], .int .u32 (x.id : Nat), .agg #[.int .i64 k.fam, .int .u64 k.rd, .string k.addr, .int .i64 k.len], .int .u32 (k.id : Nat)] W fun e w' => e = .returned (.int .i64 (cfP x k)) ∧ Below W.heap.size W w') := fun W => r22ord_any x k HTK.out HK.out W
      clear hrow ht HQ
      have HQ1 : Hid (cfP x k = 0 → placeF (L.map Td.c) k = (n, true)) := q1
      have HQ2 : Hid (0 < cfP x k → placeF (L.map Td.c) k = (n, false)) := q2
      have HQ3 : Hid (cfP x k < 0 → PlQ (L.map Td.c) k (n + 1)) := q3
      clear q1 q2 q3
      generalize cfP x k = cf at HORD HQ1 HQ2 HQ3
      go_upto_region 4 with fail
      refine wp_region_held_drew (S := fun w' => Below wq.heap.size wq w') (by kernel_rfl) (below_drewN (Below.refl _ _) 1) (fun hHeld => ?_)
      refine wpAnyH_take (i := 0) (oi := { dst := some 16, op := Op.move (Operand.tmp 0), type := 25, pos := "ref.go:35", after := #[], guard := none }) (v := ?_) rfl (by kernel_rfl) (by kernel_rfl) (by kernel_rfl) (fun _ _ _ h => h) (Or.inl ⟨by rfl, ?_⟩) hHeld ?_
      rotate_left
      · intro w hSw
        clear hSw
        go_simp
        try with_reducible rfl
      try simp only [Act.put, List.setIfInBounds_toArray, List.set_cons_zero, List.set_cons_succ]
      refine wpAnyH_take (i := 1) (oi := { dst := some 17, op := Op.move (Operand.tmp 8), type := 3, pos := "ref.go:35", after := #[], guard := none }) (v := ?_) rfl (by kernel_rfl) (by kernel_rfl) (by kernel_rfl) (fun _ _ _ h => h) (Or.inl ⟨by rfl, ?_⟩) hHeld ?_
      rotate_left
      · intro w hSw
        clear hSw
        go_simp
        try with_reducible rfl
      try simp only [Act.put, List.setIfInBounds_toArray, List.set_cons_zero, List.set_cons_succ]
      refine wpAnyH_take (i := 2) (oi := { dst := some 18, op := Op.indexAddr 25 (Operand.tmp 16) (Operand.tmp 17), type := 0, pos := "ref.go:35", after := #[{ on := 0, ground := Ground.data }, { on := 1, ground := Ground.data }], guard := none }) (v := ?_) rfl (by kernel_rfl) (by kernel_rfl) (by kernel_rfl) (fun _ _ _ h => h) (Or.inl ⟨by rfl, ?_⟩) hHeld ?_
      rotate_left
      · intro w hSw
        clear hSw
        go_simp
        try with_reducible rfl
      try simp only [Act.put, List.setIfInBounds_toArray, List.set_cons_zero, List.set_cons_succ]
      refine wpAnyH_take (i := 3) (oi := { dst := some 19, op := Op.fieldAddr 64 (Operand.tmp 18) 0, type := 0, pos := "ref.go:35", after := #[{ on := 2, ground := Ground.data }], guard := none }) (v := ?_) rfl (by kernel_rfl) (by kernel_rfl) (by kernel_rfl) (fun _ _ _ h => h) (Or.inl ⟨by rfl, ?_⟩) hHeld ?_
      rotate_left
      · intro w hSw
        clear hSw
        go_simp
        try with_reducible rfl
      try simp only [Act.put, List.setIfInBounds_toArray, List.set_cons_zero, List.set_cons_succ]
      refine wpAnyH_take (i := 4) (oi := { dst := some 20, op := Op.load 32 (Operand.tmp 19), type := 32, pos := "ref.go:35", after := #[{ on := 3, ground := Ground.data }], guard := none }) (v := ?_) rfl (by kernel_rfl) (by kernel_rfl) (by kernel_rfl) (fun _ _ _ h => h) (Or.inl ⟨by rfl, ?_⟩) hHeld ?_
      rotate_left
      · intro w hSw
        obtain ⟨a0, a1, a2, a3, a4⟩ := HROW.out w hSw
        obtain ⟨b0, b1, b2, b3⟩ := HKEY.out w hSw
        go_simp
        try with_reducible rfl
      try simp only [Act.put, List.setIfInBounds_toArray, List.set_cons_zero, List.set_cons_succ]
      refine wpAnyH_take (i := 5) (oi := { dst := some 21, op := Op.move (Operand.tmp 0), type := 25, pos := "ref.go:35", after := #[], guard := none }) (v := ?_) rfl (by kernel_rfl) (by kernel_rfl) (by kernel_rfl) (fun _ _ _ h => h) (Or.inl ⟨by rfl, ?_⟩) hHeld ?_
      rotate_left
      · intro w hSw
        clear hSw
        go_simp
        try with_reducible rfl
      try simp only [Act.put, List.setIfInBounds_toArray, List.set_cons_zero, List.set_cons_succ]
      refine wpAnyH_take (i := 6) (oi := { dst := some 22, op := Op.move (Operand.tmp 8), type := 3, pos := "ref.go:35", after := #[], guard := none }) (v := ?_) rfl (by kernel_rfl) (by kernel_rfl) (by kernel_rfl) (fun _ _ _ h => h) (Or.inl ⟨by rfl, ?_⟩) hHeld ?_
      rotate_left
      · intro w hSw
        clear hSw
        go_simp
        try with_reducible rfl
      try simp only [Act.put, List.setIfInBounds_toArray, List.set_cons_zero, List.set_cons_succ]
      refine wpAnyH_take (i := 7) (oi := { dst := some 23, op := Op.indexAddr 25 (Operand.tmp 21) (Operand.tmp 22), type := 0, pos := "ref.go:35", after := #[{ on := 5, ground := Ground.data }, { on := 6, ground := Ground.data }], guard := none }) (v := ?_) rfl (by kernel_rfl) (by kernel_rfl) (by kernel_rfl) (fun _ _ _ h => h) (Or.inl ⟨by rfl, ?_⟩) hHeld ?_
      rotate_left
      · intro w hSw
        clear hSw
        go_simp
        try with_reducible rfl
      try simp only [Act.put, List.setIfInBounds_toArray, List.set_cons_zero, List.set_cons_succ]
      refine wpAnyH_take (i := 8) (oi := { dst := some 24, op := Op.fieldAddr 64 (Operand.tmp 23) 1, type := 0, pos := "ref.go:35", after := #[{ on := 7, ground := Ground.data }], guard := none }) (v := ?_) rfl (by kernel_rfl) (by kernel_rfl) (by kernel_rfl) (fun _ _ _ h => h) (Or.inl ⟨by rfl, ?_⟩) hHeld ?_
      rotate_left
      · intro w hSw
        clear hSw
        go_simp
        try with_reducible rfl
      try simp only [Act.put, List.setIfInBounds_toArray, List.set_cons_zero, List.set_cons_succ]
      refine wpAnyH_take (i := 9) (oi := { dst := some 25, op := Op.load 33 (Operand.tmp 24), type := 33, pos := "ref.go:35", after := #[{ on := 8, ground := Ground.data }], guard := none }) (v := ?_) rfl (by kernel_rfl) (by kernel_rfl) (by kernel_rfl) (fun _ _ _ h => h) (Or.inl ⟨by rfl, ?_⟩) hHeld ?_
      rotate_left
      · intro w hSw
        obtain ⟨a0, a1, a2, a3, a4⟩ := HROW.out w hSw
        obtain ⟨b0, b1, b2, b3⟩ := HKEY.out w hSw
        go_simp
        try with_reducible rfl
      try simp only [Act.put, List.setIfInBounds_toArray, List.set_cons_zero, List.set_cons_succ]
      refine wpAnyH_take (i := 10) (oi := { dst := some 26, op := Op.load 32 (Operand.tmp 4), type := 32, pos := "ref.go:35", after := #[], guard := none }) (v := ?_) rfl (by kernel_rfl) (by kernel_rfl) (by kernel_rfl) (fun _ _ _ h => h) (Or.inl ⟨by rfl, ?_⟩) hHeld ?_
      rotate_left
      · intro w hSw
        obtain ⟨a0, a1, a2, a3, a4⟩ := HROW.out w hSw
        obtain ⟨b0, b1, b2, b3⟩ := HKEY.out w hSw
        go_simp
        try with_reducible rfl
      try simp only [Act.put, List.setIfInBounds_toArray, List.set_cons_zero, List.set_cons_succ]
      refine wpAnyH_take (i := 11) (oi := { dst := some 27, op := Op.move (Operand.tmp 2), type := 33, pos := "ref.go:35", after := #[], guard := none }) (v := ?_) rfl (by kernel_rfl) (by kernel_rfl) (by kernel_rfl) (fun _ _ _ h => h) (Or.inl ⟨by rfl, ?_⟩) hHeld ?_
      rotate_left
      · intro w hSw
        clear hSw
        go_simp
        try with_reducible rfl
      try simp only [Act.put, List.setIfInBounds_toArray, List.set_cons_zero, List.set_cons_succ]
      refine wpAnyH_ready (rs := [12]) (by kernel_rfl) (by simp) ?_
      refine AllReadyH.cons (o := { dst := some 28, op := Op.call { callee := Callee.value (Operand.func 65), args := #[Operand.tmp 20, Operand.tmp 25, Operand.tmp 26, Operand.tmp 27], argTypes := #[32, 33, 32, 33] }, type := 3, pos := "ref.go:35", after := #[{ on := 4, ground := Ground.data }, { on := 9, ground := Ground.data }, { on := 10, ground := Ground.data }, { on := 11, ground := Ground.data }], guard := none }) rfl (fun K hK => ?_) AllReadyH.nil
      go_simp
      refine (HORD.out _).mono ?_
      rintro e w9 ⟨rfl, hw9⟩
      refine hK.out _ _ (hHeld.trans (hw9.mono hHeld.size)) (fun hHeld => ?_)
      clear hK K
      try simp only [Act.put, List.setIfInBounds_toArray, List.set_cons_zero, List.set_cons_succ]
      refine wpAnyH_take (i := 13) (oi := { dst := some 9, op := Op.assign (Operand.tmp 28), type := 3, pos := "ref.go:35", after := #[{ on := 12, ground := Ground.data }, { on := 12, ground := Ground.chain }, { on := 0, ground := Ground.phase }, { on := 1, ground := Ground.phase }, { on := 2, ground := Ground.phase }, { on := 3, ground := Ground.phase }, { on := 4, ground := Ground.phase }, { on := 5, ground := Ground.phase }, { on := 6, ground := Ground.phase }, { on := 7, ground := Ground.phase }, { on := 8, ground := Ground.phase }, { on := 9, ground := Ground.phase }, { on := 10, ground := Ground.phase }, { on := 11, ground := Ground.phase }, { on := 12, ground := Ground.phase }], guard := none }) (v := ?_) rfl (by kernel_rfl) (by kernel_rfl) (by kernel_rfl) (fun _ _ _ h => h) (Or.inl ⟨by rfl, ?_⟩) hHeld ?_
      rotate_left
      · intro w hSw
        clear hSw
        go_simp
        try with_reducible rfl
      try simp only [Act.put, List.setIfInBounds_toArray, List.set_cons_zero, List.set_cons_succ]
      refine wpAnyH_done (by kernel_rfl) ?_ _
      go_upto_region 5 with fail
      refine rb_name fun Z hZ => ?_
      have HBZ : Hid (Below wq.heap.size wq Z) := by rw [hZ]; exact hHeld
      clear hZ hHeld HROW HKEY HORD
      have HBw : Hid (Below w.heap.size w Z) := HB.out.trans ((HBq.out.trans (HBZ.out.mono HBq.out.size)).mono HB.out.size)
      rcases Int.lt_trichotomy cf 0 with hc | hc | hc
      · have HQ4 := Lib.hid (HQ3.out hc)
        have hc1 : ¬ 0 < cf := by omega
        have hc2 : ¬ cf = 0 := by omega
        have hne1 : (cf == 0) = false := beq_false_of_ne hc2
        go_wp2_with fail
        exact ⟨⟨n + 1, by go_num, by omega, HQ4.out, HBq.out.trans (HBZ.out.mono HBq.out.size)⟩, by simp [intOf]; omega⟩
      · have HQ4 := HR.out.trans (HQ1.out hc)
        subst hc
        injection HQ4 with e1 e2
        subst e1
        subst e2
        go_wp2_with fail
        go_ret2
        exact ⟨rfl, HBw.out⟩
      · have HQ4 := HR.out.trans (HQ2.out hc)
        injection HQ4 with e1 e2
        subst e1
        subst e2
        have hc2 : ¬ cf = 0 := by omega
        have hne1 : (cf == 0) = false := beq_false_of_ne hc2
        go_wp2_with fail
        go_ret2
        exact ⟨rfl, HBw.out⟩
    · have hnL : n = L.length := by omega
      subst hnL
      have HQ4 := HR.out.trans (PlQ.fin (by rw [HLN.out]; exact HQ.out))
      rw [HLN.out] at HQ4
      injection HQ4 with e1 e2
      subst e2
      have HBw : Hid (Below w.heap.size w wq) := HB.out.trans (HBq.out.mono HB.out.size)
      go_wp2_with fail
      go_ret2
      exact ⟨by rw [e1]; rfl, HBw.out⟩
/-- the document's rib, as a value -/
def ribAr (most : Int) (A : Option Addr) (n c : Nat) : Array Value := #[.int .i64 most, .slice A n c]
theorem rib_under : ∃ fs, Tryz.prog.underlying 27 = some (.struct fs) := ⟨_, Tryz.underlying27⟩
theorem rib_size : (Tryz.prog.info? 27).map (·.size) = some 2 := by kernel_rfl
theorem rib_ones (most : Int) (A : Option Addr) (n c : Nat) : (ribAr most A n c).all Value.oneCell' = true := Array.all_eq_true_iff_forall_mem.2 (fun u hu => by
  simp only [ribAr, List.mem_toArray, List.mem_cons, List.not_mem_nil, or_false] at hu
  rcases hu with rfl | rfl <;> rfl)
theorem wpList_store_rib {ops : Array Oper} {rest : List Oper} {op : Oper} {a : Act} {w : World} {Q : Exit → Act → World → Prop} (hgd : op.guard = none) (x y : Operand) (ho : op.op = .store 27 x y) (b : Nat) (hx : a.eval x = .pointer (some ⟨b, 0, none⟩)) (most : Int) (A : Option Addr) (n c : Nat) (hy : a.eval y = .agg (ribAr most A n c)) (cs : Array Value) (hc : CellsAt w b cs 27) (hn : cs.size = 2)
    (h : wpList Tryz.prog ops Q rest (a.put op.dst undef) (w.setRow b (ribAr most A n c))) : wpList Tryz.prog ops Q (op :: rest) a w :=
  wpList_store_row hgd 27 x y ho b (ribAr most A n c) hx hy 27 cs hc (by rw [rib_size]; rfl) (by rw [hn]; rfl) (rib_ones most A n c) h
theorem wpList_load_rib {ops : Array Oper} {rest : List Oper} {op : Oper} {a : Act} {w : World} {Q : Exit → Act → World → Prop} (hgd : op.guard = none) (src : Operand) (ho : op.op = .load 27 src) (b : Nat) (hx : a.eval src = .pointer (some ⟨b, 0, none⟩)) (most : Int) (A : Option Addr) (n c : Nat) (hc : CellsAt w b (ribAr most A n c) 27)
    (h : wpList Tryz.prog ops Q rest (a.put op.dst (.agg (ribAr most A n c))) w) : wpList Tryz.prog ops Q (op :: rest) a w := by
  obtain ⟨fs, hu⟩ := rib_under
  exact wpList_load_mid hgd 27 src ho b 0 hx (ribAr most A n c).toList _ hc.range hu rfl (by rw [rib_size]; rfl) h
theorem results_rib1 {fn : Func} {p : Tmp} (hf : fn.results = #[.cell p 27]) (tmps : Array Value) (w : World) (g : Nat) (most : Int) (A : Option Addr) (n c : Nat) (hp : tmps.getD p undef = .pointer (some ⟨g, 0, none⟩)) (hg : CellsAt w g (ribAr most A n c) 27) :
    (results fn tmps).run Tryz.prog w = .ok (.agg (ribAr most A n c)) w := by
  obtain ⟨fs, hu⟩ := rib_under
  rw [rb_results1 hf, hp]
  simp only [asAddr, Sem.run_pure, Result.andThen_ok]
  rw [run_loadVar_mid w g 0 _ (ribAr most A n c).toList _ hg.range hu rfl (by rw [rib_size]; rfl)]
theorem results_rib2 {fn : Func} {p q : Tmp} (hf : fn.results = #[.cell p 27, .tmp q]) (tmps : Array Value) (w : World) (g : Nat) (most : Int) (A : Option Addr) (n c : Nat) (y : Value) (hp : tmps.getD p undef = .pointer (some ⟨g, 0, none⟩)) (hq : tmps.getD q undef = y) (hg : CellsAt w g (ribAr most A n c) 27) :
    (results fn tmps).run Tryz.prog w = .ok (.tuple #[.agg (ribAr most A n c), y]) w := by
  obtain ⟨fs, hu⟩ := rib_under
  rw [results_cell_tmp hf, hp]
  simp only [asAddr, Sem.run_pure, Result.andThen_ok]
  rw [run_loadVar_mid w g 0 _ (ribAr most A n c).toList _ hg.range hu rfl (by rw [rib_size]; rfl), hq]
  rfl
theorem results_cell_tmp2 {fn : Func} {p u x : Tmp} {ty : TypeId} (h : fn.results = #[.cell p ty, .tmp u, .tmp x]) (tmps : Array Value) (P : Program) (w : World) :
    (results fn tmps).run P w =
      ((asAddr (tmps.getD p undef)).run P w).andThen fun a w₁ => ((loadVar ty a).run P w₁).andThen fun v w₂ => .ok (.tuple #[v, tmps.getD u undef, tmps.getD x undef]) w₂ := by
  simp only [results, h]
  simp [Sem.run_bind, Result.andThen]
theorem results_rib3 {fn : Func} {p q r : Tmp} (hf : fn.results = #[.cell p 27, .tmp q, .tmp r]) (tmps : Array Value) (w : World) (g : Nat) (most : Int) (A : Option Addr) (n c : Nat) (y z : Value) (hp : tmps.getD p undef = .pointer (some ⟨g, 0, none⟩)) (hq : tmps.getD q undef = y) (hr : tmps.getD r undef = z) (hg : CellsAt w g (ribAr most A n c) 27) :
    (results fn tmps).run Tryz.prog w = .ok (.tuple #[.agg (ribAr most A n c), y, z]) w := by
  obtain ⟨fs, hu⟩ := rib_under
  rw [results_cell_tmp2 hf, hp]
  simp only [asAddr, Sem.run_pure, Result.andThen_ok]
  rw [run_loadVar_mid w g 0 _ (ribAr most A n c).toList _ hg.range hu rfl (by rw [rib_size]; rfl), hq, hr]
  rfl
/-- Get -/
def G22R (L : List Td) (i : Nat) (is : Bool) (e : Ending) : Prop :=
  (is = true → ∃ t, L[i]? = some t ∧ e = .returned (.tuple #[.agg t.pa, .bool true])) ∧ (is = false → e = .returned (.tuple #[.agg (pathAr noPk 0 noAtr false), .bool false]))
def G22Post (L : List Td) (k : Pk) (e : Ending) : Prop := G22R L (placeF (L.map Td.c) k).1 (placeF (L.map Td.c) k).2 e
set_option maxRecDepth 100000 in
set_option maxHeartbeats 8000000 in
theorem get22_any {w : World} {A : Option Addr} {c : Nat} {L : List Td} (h : PhL w A c L) (hs : Srt (L.map Td.c)) (hL : L.length ≤ 1000) (most : Int) (k : Pk) (hk : k.Ok) :
    Calls Tryz.prog 19 #[.agg (ribAr most A L.length c), .agg k.pf, .int .u32 (k.id : Nat)] w fun e w' => G22Post L k e ∧ Below w.heap.size w w' := by
  have HP := Lib.hid h
  have HPL : Hid (∀ W, Below w.heap.size w W → Calls Tryz.prog 40 #[.slice A L.length c, .agg #[.int .i64 k.fam, .int .u64 k.rd, .string k.addr, .int .i64 k.len], .int .u32 (k.id : Nat)] W fun e w' => e = .returned (.tuple #[.int .i64 ((placeF (L.map Td.c) k).1 : Nat), .bool (placeF (L.map Td.c) k).2]) ∧ Below W.heap.size W w') := fun W hW => place_any (HP.out.below hW) hL k hk
  have hlc := h.len
  have hcm := h.cap
  unfold maxLen at hcm
  have HLE := Lib.hid (placeF_le (L.map Td.c) k hs)
  have HLN : Hid ((L.map Td.c).length = L.length) := List.length_map ..
  clear h hs
  unfold Pk.pf ribAr G22Post
  generalize placeF (L.map Td.c) k = r at HPL HLE ⊢
  obtain ⟨i, is⟩ := r
  dsimp only at HPL HLE ⊢
  go_enter Tryz.func19, Tryz.ntmps19
  go_upto_region 1 with fail
  refine rb_name fun V hV => ?_
  obtain ⟨s, hs⟩ : ∃ s, s = w.heap.size := ⟨_, rfl⟩
  have HR0 : Hid (CellsAt V s #[.int .i64 most, .slice A L.length c] 27) := by rw [hV, hs]; exact ((CellsAt.new _ _ _).alloc _).alloc _
  have HK0 : Hid (CellsAt V (s + 1) #[.int .i64 k.fam, .int .u64 k.rd, .string k.addr, .int .i64 k.len] 32) := by
    have h := CellsAt.new (w.alloc (.cells #[.int .i64 most, .slice A L.length c] 27)) #[.int .i64 k.fam, .int .u64 k.rd, .string k.addr, .int .i64 k.len] 32
    rw [World.size_alloc] at h
    rw [hV, hs]
    exact h.alloc _
  have HQ0 : Hid (CellsAt V (s + 2) (pathAr noPk 0 noAtr false) 64) := by
    have h := CellsAt.new ((w.alloc (.cells #[.int .i64 most, .slice A L.length c] 27)).alloc (.cells #[.int .i64 k.fam, .int .u64 k.rd, .string k.addr, .int .i64 k.len] 32)) (pathAr noPk 0 noAtr false) 64
    rw [World.size_alloc, World.size_alloc] at h
    rw [hV, hs]
    exact h
  have HB : Hid (Below w.heap.size w V) := by rw [hV]; exact (((Below.refl _ _).alloc (Nat.le_refl _) _).alloc (by simp) _).alloc (by simp; omega) _
  have HS : Hid (s = w.heap.size) := hs
  rw [← hs]
  clear hV hs hk
  obtain ⟨a0, a1⟩ := HR0.out.c2
  obtain ⟨b0, b1, b2, b3⟩ := HK0.out.c4
  go_wp2_with fail
  refine (HPL.out V HB.out).mono ?_
  rintro e w2 ⟨rfl, hw2⟩
  have HB2 : Hid (Below w.heap.size w w2) := HB.out.trans (hw2.mono HB.out.size)
  have HR2 := Lib.hid (HR0.out.below hw2 HR0.out.lt)
  have HQ2 := Lib.hid (HQ0.out.below hw2 HQ0.out.lt)
  clear a0 a1 b0 b1 b2 b3 hw2 HPL HK0 HR0 HQ0 HB
  obtain ⟨a0, a1⟩ := HR2.out.c2
  cases is with
  | false =>
    go_wp2_with (with_reducible show wpList _ _ _ (_ :: _) _ _; refine wpList_store_path rfl (.tmp 6) (.tmp 20) rfl (s + 2) rfl noPk 0 noAtr false rfl _ HQ2.out rfl ?_)
    have HF : Hid (CellsAt (w2.setRow (s + 2) (pathAr noPk 0 noAtr false)) (s + 2) (pathAr noPk 0 noAtr false) 64) := HQ2.out.setRow' _
    have HBF : Hid (Below w.heap.size w (w2.setRow (s + 2) (pathAr noPk 0 noAtr false))) := HB2.out.grown (grown_setRow' _ _ _) HB2.out.size (fun q hq => by cases hq; have := HS.out; omega)
    exact bodyPost_ret (results_path2 rfl _ _ (s + 2) _ rfl (.bool false) rfl rfl HF.out) rfl ⟨(⟨fun h => by (cases h), fun _ => rfl⟩ : G22R L i false _), HBF.out⟩
  | true =>
    have hil : i < L.length := by have := HLE.out.2 rfl; rw [HLN.out] at this; exact this
    obtain ⟨t, ht⟩ : ∃ x, L[i]? = some x := ⟨L[i]'hil, List.getElem?_eq_getElem _⟩
    obtain ⟨b, off, rfl, hrow⟩ := HP.out.row ht
    have HROW := Lib.hid (hrow w2 HB2.out)
    clear hrow
    go_wp2_with (with_reducible show wpList _ _ _ (_ :: _) _ _; first | refine wpList_load_ph rfl (.tmp 24) rfl b (off + i * 29) rfl t HROW.out ?_ | refine wpList_store_path rfl (.tmp 6) (.tmp 25) rfl (s + 2) rfl t.k t.label t.a t.stale rfl _ HQ2.out rfl ?_)
    have HF : Hid (CellsAt (w2.setRow (s + 2) (pathAr t.k t.label t.a t.stale)) (s + 2) (pathAr t.k t.label t.a t.stale) 64) := HQ2.out.setRow' _
    have HBF : Hid (Below w.heap.size w (w2.setRow (s + 2) (pathAr t.k t.label t.a t.stale))) := HB2.out.grown (grown_setRow' _ _ _) HB2.out.size (fun q hq => by cases hq; have := HS.out; omega)
    exact bodyPost_ret (results_path2 rfl _ _ (s + 2) _ rfl (.bool true) rfl rfl HF.out) rfl ⟨(⟨fun _ => ⟨t, ht, rfl⟩, fun h => by (cases h)⟩ : G22R L i true _), HBF.out⟩
theorem AtO.off2 {w w' : World} {base g : Nat} {a : Atr} {cs : Array Value} (h : AtO w base a) (hg : w.grownBy w' (some g)) (hc : CellsAt w g cs 64) : AtO w' base a :=
  { h with path := h.path.off hg hc (by decide) (by decide), comms := h.comms.off hg hc (by decide), exts := h.exts.off hg hc (by decide), larges := h.larges.off hg hc (by decide), clus := h.clus.off hg hc (by decide) }
/-- Put -/
def putD (most : Int) (C : List TdC) (k : Pk) (label : Nat) (c : AtC) : Bool × Int × List TdC :=
  if ¬ (nlMay (nlk k label) ∧ atOk c = true) then (false, 2, C)
  else if (placeF C k).2 = false ∧ 0 < most ∧ most ≤ C.length then (true, 0, C)
  else (false, 0, C.take (placeF C k).1 ++ ⟨k, label, c, false⟩ :: C.drop (if (placeF C k).2 = true then (placeF C k).1 + 1 else (placeF C k).1))
theorem putD_bad {most : Int} {C : List TdC} {k : Pk} {label : Nat} {c : AtC} (h : ¬ (nlMay (nlk k label) ∧ atOk c = true)) : putD most C k label c = (false, 2, C) := if_pos h
theorem putD_over {most : Int} {C : List TdC} {k : Pk} {label : Nat} {c : AtC} (h : nlMay (nlk k label) ∧ atOk c = true) (h2 : (placeF C k).2 = false ∧ 0 < most ∧ most ≤ C.length) : putD most C k label c = (true, 0, C) := by
  unfold putD
  rw [if_neg (fun e => e h), if_pos h2]
theorem putD_set {most : Int} {C : List TdC} {k : Pk} {label : Nat} {c : AtC} (h : nlMay (nlk k label) ∧ atOk c = true) (h2 : ¬ ((placeF C k).2 = false ∧ 0 < most ∧ most ≤ C.length)) : putD most C k label c = (false, 0, C.take (placeF C k).1 ++ ⟨k, label, c, false⟩ :: C.drop (if (placeF C k).2 = true then (placeF C k).1 + 1 else (placeF C k).1)) := by
  unfold putD
  rw [if_neg (fun e => e h), if_neg h2]
theorem Rel.putD {M C : List TdC} (h : Rel M C) (most : Int) (k : Pk) (label : Nat) (c : AtC) : (putC most M (nlk k label) c).1 = (Go.Proofs.YtldpcliahfiloaaGreat.putD most C k label c).1 ∧ (putC most M (nlk k label) c).2.1 = (Go.Proofs.YtldpcliahfiloaaGreat.putD most C k label c).2.1 ∧ Rel (putC most M (nlk k label) c).2.2 (Go.Proofs.YtldpcliahfiloaaGreat.putD most C k label c).2.2 := by
  by_cases h1 : nlMay (nlk k label) ∧ atOk c = true
  · have hg : (getC M k = none) ↔ (placeF C k).2 = false := by
      refine Iff.intro (fun e => ?_) (h.get k).2
      cases hp : (placeF C k).2 with
      | false => rfl
      | true =>
        obtain ⟨t, _, _, e2⟩ := (h.get k).1 hp
        rw [e] at e2
        cases e2
    by_cases h2 : (placeF C k).2 = false ∧ 0 < most ∧ most ≤ C.length
    · rw [putD_over h1 h2, putC_over h1 ⟨hg.2 h2.1, h2.2.1, by rw [← h.len]; exact h2.2.2⟩]
      exact ⟨rfl, rfl, h⟩
    · rw [putD_set h1 h2, putC_set h1 (fun e => h2 ⟨hg.1 e.1, e.2.1, by rw [h.len]; exact e.2.2⟩)]
      exact ⟨rfl, rfl, h.put ⟨k, label, c, false⟩⟩
  · rw [putC_bad h1, putD_bad h1]
    exact ⟨rfl, rfl, h⟩
def P22 (w w' : World) (A : Option Addr) (c : Nat) (L : List Td) (most : Int) (r : Bool × Int × List TdC) (e : Ending) : Prop :=
  ∃ A' c' L', e = .returned (.tuple #[.agg (ribAr most A' (List.length L') c'), .bool r.1, .int .i64 r.2.1]) ∧ NewL w w' A c L A' c' L' ∧ L'.map Td.c = r.2.2
set_option maxRecDepth 100000 in
set_option maxHeartbeats 16000000 in
theorem put22_any {w : World} {A : Option Addr} {c : Nat} {L : List Td} (h : PhL w A c L) (hs : Srt (L.map Td.c)) (hL : L.length < 900) (most : Int) (k : Pk) (hk : k.Ok) (label : Nat) (hl : label < 4294967296) (a : Atr) (ha : AtrOk w a) (hz : AtrSz a.c) :
    Calls Tryz.prog 14 #[.agg (ribAr most A L.length c), .agg (nlA k label), .agg a.ar] w fun e w' => P22 w w' A c L most (putD most (L.map Td.c) k label a.c) e ∧ Below w.heap.size w w' := by
  have HP := Lib.hid h
  have HAO := Lib.hid ha
  have HK := Lib.hid hk
  have HL := Lib.hid hl
  have HPL : Hid (∀ W, Below w.heap.size w W → Calls Tryz.prog 40 #[.slice A L.length c, .agg #[.int .i64 k.fam, .int .u64 k.rd, .string k.addr, .int .i64 k.len], .int .u32 (k.id : Nat)] W fun e w' => e = .returned (.tuple #[.int .i64 ((placeF (L.map Td.c) k).1 : Nat), .bool (placeF (L.map Td.c) k).2]) ∧ Below W.heap.size W w') := fun W hW => place_any (HP.out.below hW) (by omega) k hk
  have HC7 : Hid (∀ W, Calls Tryz.prog 38 #[.agg #[.int .i64 k.fam, .int .u64 k.rd, .string k.addr, .int .i64 k.len, .int .u32 (k.id : Nat), .int .u32 (label : Nat)]] W fun e w' => e = .returned (.int .i64 (nlC (nlk k label))) ∧ Below W.heap.size W w') := fun W => r7check_any k label hk hl W
  have HC6 : Hid (∀ W, Below w.heap.size w W → Calls Tryz.prog 39 #[.agg a.ar] W fun e w' => e = .returned (.int .i64 (okN (atOk a.c))) ∧ Below W.heap.size W w') := fun W hW => rcheck_any a W (HAO.out.below hW (Nat.le_refl _))
  have HOWN : Hid (∀ W, Below w.heap.size w W → Calls Tryz.prog 12 #[.agg a.ar] W fun e w' => (∃ a' : Atr, e = .returned (.agg a'.ar) ∧ AtO w' W.heap.size a' ∧ a'.c = a.c) ∧ Below W.heap.size W w') := fun W hW => rown_any a W (HAO.out.below hW (Nat.le_refl _)) hz
  have HSZ0 := Lib.hid hz
  have hlc := h.len
  have hcm := h.cap
  unfold maxLen at hcm
  have HLE := Lib.hid (placeF_le (L.map Td.c) k hs)
  have HLN : Hid ((L.map Td.c).length = L.length) := List.length_map ..
  have HLT9 := Lib.hid hL
  obtain ⟨r3, hr3⟩ : ∃ r3, r3 = putD most (L.map Td.c) k label a.c := ⟨_, rfl⟩
  rw [← hr3]
  have HRR := Lib.hid hr3
  clear hr3
  clear h hs ha hk hl hz
  unfold nlA
  go_enter Tryz.func14, Tryz.ntmps14
  go_upto_region 1 with fail
  refine rb_name fun V hV => ?_
  obtain ⟨s, hs⟩ : ∃ s, s = w.heap.size := ⟨_, rfl⟩
  have HR0 : Hid (CellsAt V s (ribAr most A L.length c) 27) := by rw [hV, hs]; exact (((CellsAt.new _ _ _).alloc _).alloc _).alloc _
  have HN0 : Hid (CellsAt V (s + 1) #[.int .i64 k.fam, .int .u64 k.rd, .string k.addr, .int .i64 k.len, .int .u32 (k.id : Nat), .int .u32 (label : Nat)] 35) := by
    have h := CellsAt.new (w.alloc (.cells (ribAr most A L.length c) 27)) #[.int .i64 k.fam, .int .u64 k.rd, .string k.addr, .int .i64 k.len, .int .u32 (k.id : Nat), .int .u32 (label : Nat)] 35
    rw [World.size_alloc] at h
    rw [hV, hs]
    exact (h.alloc _).alloc _
  have HA0 : Hid (CellsAt V (s + 2) a.ar 41) := by
    have h := CellsAt.new ((w.alloc (.cells (ribAr most A L.length c) 27)).alloc (.cells #[.int .i64 k.fam, .int .u64 k.rd, .string k.addr, .int .i64 k.len, .int .u32 (k.id : Nat), .int .u32 (label : Nat)] 35)) a.ar 41
    rw [World.size_alloc, World.size_alloc] at h
    rw [hV, hs]
    exact h.alloc _
  have HQ0 : Hid (CellsAt V (s + 3) (ribAr 0 none 0 0) 27) := by
    have h := CellsAt.new (((w.alloc (.cells (ribAr most A L.length c) 27)).alloc (.cells #[.int .i64 k.fam, .int .u64 k.rd, .string k.addr, .int .i64 k.len, .int .u32 (k.id : Nat), .int .u32 (label : Nat)] 35)).alloc (.cells a.ar 41)) (ribAr 0 none 0 0) 27
    rw [World.size_alloc, World.size_alloc, World.size_alloc] at h
    rw [hV, hs]
    exact h
  have HB : Hid (Below w.heap.size w V) := by rw [hV]; exact ((((Below.refl _ _).alloc (Nat.le_refl _) _).alloc (by simp) _).alloc (by simp; omega) _).alloc (by simp; omega) _
  have HS : Hid (s = w.heap.size) := hs
  rw [← hs]
  clear hV hs
  obtain ⟨n0, n1, n2, n3, n4, n5⟩ := c6 HN0.out
  by_cases hm : nlMay (nlk k label)
  · rw [show nlC (nlk k label) = 0 from if_pos hm] at HC7
    go_wp2_with fail
    refine (HC7.out _).mono ?_
    rintro e w2 ⟨rfl, hw2⟩
    have HB2 : Hid (Below w.heap.size w w2) := HB.out.trans (hw2.mono HB.out.size)
    have HR2 := Lib.hid (HR0.out.below hw2 HR0.out.lt)
    have HN2 := Lib.hid (HN0.out.below hw2 HN0.out.lt)
    have HA2 := Lib.hid (HA0.out.below hw2 HA0.out.lt)
    have HQ2 := Lib.hid (HQ0.out.below hw2 HQ0.out.lt)
    clear n0 n1 n2 n3 n4 n5 hw2 HC7 HN0 HA0 HR0 HQ0 HB
    go_wp2_with (with_reducible show wpList _ _ _ (_ :: _) _ _; refine rb_load_attrs_g (by kernel_rfl) (.tmp 5) rfl (s + 2) rfl a HA2.out ?_)
    refine (HC6.out w2 HB2.out).mono ?_
    rintro e w3 ⟨rfl, hw3⟩
    have HB3 : Hid (Below w.heap.size w w3) := HB2.out.trans (hw3.mono HB2.out.size)
    have HR3 := Lib.hid (HR2.out.below hw3 HR2.out.lt)
    have HN3 := Lib.hid (HN2.out.below hw3 HN2.out.lt)
    have HA3 := Lib.hid (HA2.out.below hw3 HA2.out.lt)
    have HQ3 := Lib.hid (HQ2.out.below hw3 HQ2.out.lt)
    clear hw3 HC6 HN2 HA2 HR2 HQ2 HB2
    cases hc : atOk a.c with
    | false =>
      have hko : okN false = 2 := rfl
      rw [hko]
      have hr3 := HRR.out
      rw [putD_bad (fun e => by rw [hc] at e; cases e.2)] at hr3
      subst hr3
      go_wp2_with (with_reducible show wpList _ _ _ (_ :: _) _ _; first | refine wpList_load_rib rfl (.tmp 3) rfl s rfl most A L.length c HR3.out ?_ | refine wpList_store_rib rfl (.tmp 6) (.tmp 21) rfl (s + 3) rfl most A L.length c rfl _ HQ3.out rfl ?_)
      have HF : Hid (CellsAt (w3.setRow (s + 3) (ribAr most A L.length c)) (s + 3) (ribAr most A L.length c) 27) := HQ3.out.setRow' _
      have HBF : Hid (Below w.heap.size w (w3.setRow (s + 3) (ribAr most A L.length c))) := HB3.out.grown (grown_setRow' _ _ _) HB3.out.size (fun q hq => by cases hq; have := HS.out; omega)
      exact bodyPost_ret (results_rib3 rfl _ _ (s + 3) most A L.length c (.bool false) (.int .i64 2) rfl rfl rfl HF.out) rfl ⟨⟨A, c, L, rfl, .inl ⟨rfl, rfl, rfl⟩, rfl⟩, HBF.out⟩
    | true =>
      have hko : okN true = 0 := rfl
      rw [hko]
      have HRR2 := HRR
      have HMC := Lib.hid (And.intro hm hc)
      clear HRR
      clear hm
      have HNL : Hid (∀ W, Below w3.heap.size w3 W → W.cell? ⟨s + 1, 0, none⟩ = some (.int .i64 k.fam) ∧ W.cell? ⟨s + 1, 1, none⟩ = some (.int .u64 k.rd) ∧ W.cell? ⟨s + 1, 2, none⟩ = some (.string k.addr) ∧ W.cell? ⟨s + 1, 3, none⟩ = some (.int .i64 k.len) ∧ W.cell? ⟨s + 1, 4, none⟩ = some (.int .u32 (k.id : Nat)) ∧ W.cell? ⟨s + 1, 5, none⟩ = some (.int .u32 (label : Nat))) := fun W hW => c6 (HN3.out.below hW HN3.out.lt)
      have HAT : Hid (∀ W, Below w3.heap.size w3 W → CellsAt W (s + 2) a.ar 41) := fun W hW => HA3.out.below hW HA3.out.lt
      obtain ⟨Z, hZ⟩ : ∃ x, x = w3 := ⟨_, rfl⟩
      subst hZ
      have HBz := HB3
      clear HB3
      have hs3 : s + 3 < Z.heap.size := HQ3.out.lt
      go_upto_region 3 with fail
      go_cut [9] (fun v9 wx => ∃ (g : Nat) (a2 : Atr), v9 = .pointer (some ⟨g, 0, none⟩) ∧ Hid (CellsAt wx g (pathAr k label a2 false) 64) ∧ Hid (a2.c = a.c) ∧ Hid (∃ bb, s + 3 < bb ∧ AtO wx bb a2) ∧ Hid (Below Z.heap.size Z wx))
      case first =>
        refine wp_region_held_drew (S := fun w' => Below Z.heap.size Z w') (by kernel_rfl) (below_drewN (Below.refl _ _) 1) (fun hHeld => ?_)
        refine wpAnyH_take (i := 0) (oi := { dst := some 22, op := Op.fieldAddr 35 (Operand.tmp 4) 0, type := 0, pos := "ref.go:51", after := #[], guard := none }) (v := ?_) rfl (by kernel_rfl) (by kernel_rfl) (by kernel_rfl) (fun _ _ _ h => h) (Or.inl ⟨by rfl, ?_⟩) hHeld ?_
        rotate_left
        · intro w hSw
          clear hSw
          go_simp
          try with_reducible rfl
        try simp only [Act.put, List.setIfInBounds_toArray, List.set_cons_zero, List.set_cons_succ]
        refine wpAnyH_take (i := 1) (oi := { dst := some 23, op := Op.load 32 (Operand.tmp 22), type := 32, pos := "ref.go:51", after := #[{ on := 0, ground := Ground.data }], guard := none }) (v := ?_) rfl (by kernel_rfl) (by kernel_rfl) (by kernel_rfl) (fun _ _ _ h => h) (Or.inl ⟨by rfl, ?_⟩) hHeld ?_
        rotate_left
        · intro w hSw
          obtain ⟨n0, n1, n2, n3, n4, n5⟩ := HNL.out w hSw
          go_simp
          try with_reducible rfl
        try simp only [Act.put, List.setIfInBounds_toArray, List.set_cons_zero, List.set_cons_succ]
        refine wpAnyH_take (i := 2) (oi := { dst := some 24, op := Op.fieldAddr 35 (Operand.tmp 4) 1, type := 0, pos := "ref.go:51", after := #[], guard := none }) (v := ?_) rfl (by kernel_rfl) (by kernel_rfl) (by kernel_rfl) (fun _ _ _ h => h) (Or.inl ⟨by rfl, ?_⟩) hHeld ?_
        rotate_left
        · intro w hSw
          clear hSw
          go_simp
          try with_reducible rfl
        try simp only [Act.put, List.setIfInBounds_toArray, List.set_cons_zero, List.set_cons_succ]
        refine wpAnyH_take (i := 3) (oi := { dst := some 25, op := Op.load 33 (Operand.tmp 24), type := 33, pos := "ref.go:51", after := #[{ on := 2, ground := Ground.data }], guard := none }) (v := ?_) rfl (by kernel_rfl) (by kernel_rfl) (by kernel_rfl) (fun _ _ _ h => h) (Or.inl ⟨by rfl, ?_⟩) hHeld ?_
        rotate_left
        · intro w hSw
          obtain ⟨n0, n1, n2, n3, n4, n5⟩ := HNL.out w hSw
          go_simp
          try with_reducible rfl
        try simp only [Act.put, List.setIfInBounds_toArray, List.set_cons_zero, List.set_cons_succ]
        refine wpAnyH_take (i := 4) (oi := { dst := some 26, op := Op.fieldAddr 35 (Operand.tmp 4) 2, type := 0, pos := "ref.go:51", after := #[], guard := none }) (v := ?_) rfl (by kernel_rfl) (by kernel_rfl) (by kernel_rfl) (fun _ _ _ h => h) (Or.inl ⟨by rfl, ?_⟩) hHeld ?_
        rotate_left
        · intro w hSw
          clear hSw
          go_simp
          try with_reducible rfl
        try simp only [Act.put, List.setIfInBounds_toArray, List.set_cons_zero, List.set_cons_succ]
        refine wpAnyH_take (i := 5) (oi := { dst := some 27, op := Op.load 33 (Operand.tmp 26), type := 33, pos := "ref.go:51", after := #[{ on := 4, ground := Ground.data }], guard := none }) (v := ?_) rfl (by kernel_rfl) (by kernel_rfl) (by kernel_rfl) (fun _ _ _ h => h) (Or.inl ⟨by rfl, ?_⟩) hHeld ?_
        rotate_left
        · intro w hSw
          obtain ⟨n0, n1, n2, n3, n4, n5⟩ := HNL.out w hSw
          go_simp
          try with_reducible rfl
        try simp only [Act.put, List.setIfInBounds_toArray, List.set_cons_zero, List.set_cons_succ]
        refine wpAnyH_take (i := 6) (oi := { dst := some 28, op := Op.load 41 (Operand.tmp 5), type := 41, pos := "ref.go:51", after := #[], guard := none }) (v := Value.agg a.ar) rfl (by kernel_rfl) (by kernel_rfl) (by kernel_rfl) (fun _ _ _ h => h) (yields_attrs0 (by rfl) (.tmp 5) rfl (s + 2) (by rfl) a (fun w hSw => HAT.out w hSw)) hHeld ?_
        try simp only [Act.put, List.setIfInBounds_toArray, List.set_cons_zero, List.set_cons_succ]
        refine wpAnyH_ready (rs := [7, 9]) (by kernel_rfl) (by simp) ?_
        refine AllReadyH.cons (o := { dst := some 29, op := Op.call { callee := Callee.value (Operand.func 12), args := #[Operand.tmp 28], argTypes := #[41] }, type := 41, pos := "ref.go:51", after := #[{ on := 6, ground := Ground.data }], guard := none }) rfl (fun K hK => ?_) ?_
        · go_simp
          refine (HOWN.out _ (HBz.out.trans (hHeld.mono HBz.out.size))).mono ?_
          rintro e w9 ⟨⟨a2, rfl, ho2, hc2⟩, hw9⟩
          have HO2 : Hid (∃ bb, s + 3 < bb ∧ AtO w9 bb a2) := ⟨_, (by exact hs3), ho2⟩
          have HC2 : Hid (a2.c = a.c) := hc2
          unfold Atr.ar
          have HG9 : Hid (Below Z.heap.size Z w9) := hHeld.trans (hw9.mono hHeld.size)
          clear ho2 hc2
          refine hK.out _ _ HG9.out (fun hHeld => ?_)
          clear hK K
          try simp only [Act.put, List.setIfInBounds_toArray, List.set_cons_zero, List.set_cons_succ]
          refine wpAnyH_take (i := 8) (oi := { dst := some 30, op := Op.build 64 #[(0, Operand.tmp 23), (1, Operand.tmp 25), (2, Operand.tmp 27), (3, Operand.tmp 29)], type := 64, pos := "ref.go:51", after := #[{ on := 1, ground := Ground.data }, { on := 3, ground := Ground.data }, { on := 5, ground := Ground.data }, { on := 7, ground := Ground.data }], guard := none }) (v := ?_) rfl (by kernel_rfl) (by kernel_rfl) (by kernel_rfl) (fun _ _ _ h => h) (Or.inl ⟨by rfl, ?_⟩) hHeld ?_
          rotate_left
          · intro w hSw
            clear hSw
            go_simp
            try with_reducible rfl
          try simp only [Act.put, List.setIfInBounds_toArray, List.set_cons_zero, List.set_cons_succ]
          have HNx9 : Hid (∀ cs : Array Value, CellsAt (w9.alloc (.cells cs 64)) w9.heap.size cs 64) := fun cs => CellsAt.new _ _ _
          have HB9 : Hid (∀ cs : Array Value, Below w9.heap.size w9 ((w9.alloc (.cells cs 64)).setRow w9.heap.size (pathAr k label a2 false))) := fun cs => ((Below.refl _ _).alloc (Nat.le_refl _) _).grown (grown_setRow' _ _ _) (by simp) (fun q hq => by cases hq; exact Nat.le_refl _)
          have HGS9 : Hid (∀ cs : Array Value, Below Z.heap.size Z ((w9.alloc (.cells cs 64)).setRow w9.heap.size (pathAr k label a2 false))) := fun cs => HG9.out.trans ((HB9.out cs).mono HG9.out.size)
          refine wpAnyH_ready (rs := [9]) (by kernel_rfl) (by simp) ?_
          refine AllReadyH.cons (o := { dst := some 9, op := Op.alloc 64, type := 0, pos := "ref.go:51", after := #[], guard := none }) rfl (fun K hK => ?_) AllReadyH.nil
          go_simp
          refine hK.out _ _ (HG9.out.trans (((Below.refl _ _).alloc (Nat.le_refl _) _).mono HG9.out.size)) (fun hHeld => ?_)
          clear hK K
          try simp only [Act.put, List.setIfInBounds_toArray, List.set_cons_zero, List.set_cons_succ]
          refine wpAnyH_ready (rs := [10]) (by kernel_rfl) (by simp) ?_
          refine AllReadyH.cons (o := { dst := none, op := Op.store 64 (Operand.tmp 9) (Operand.tmp 30), type := 0, pos := "ref.go:51", after := #[{ on := 9, ground := Ground.data }, { on := 8, ground := Ground.data }, { on := 7, ground := Ground.chain }, { on := 0, ground := Ground.phase }, { on := 1, ground := Ground.phase }, { on := 2, ground := Ground.phase }, { on := 3, ground := Ground.phase }, { on := 4, ground := Ground.phase }, { on := 5, ground := Ground.phase }, { on := 6, ground := Ground.phase }, { on := 7, ground := Ground.phase }, { on := 8, ground := Ground.phase }, { on := 9, ground := Ground.phase }], guard := none }) rfl (fun K hK => ?_) AllReadyH.nil
          refine wp_store_row 64 (.tmp 9) (.tmp 30) rfl w9.heap.size (pathAr k label a2 false) rfl rfl 64 _ (HNx9.out _) (by rw [path_size]; rfl) rfl (path_ones _ _ _ _) ?_
          refine hK.out _ _ (HGS9.out _) (fun hHeld => ?_)
          clear hK K
          try simp only [Act.put, List.setIfInBounds_toArray, List.set_cons_zero, List.set_cons_succ]
          refine wpAnyH_done (by kernel_rfl) ?_ _
          have HF1 := Lib.hid (fun cs => (HNx9.out cs).setRow' (pathAr k label a2 false))
          have HF3 : Hid (∀ cs : Array Value, ∃ bb, s + 3 < bb ∧ AtO ((w9.alloc (.cells cs 64)).setRow w9.heap.size (pathAr k label a2 false)) bb a2) := fun cs => by
            obtain ⟨bb, h1, h2⟩ := HO2.out
            exact ⟨bb, h1, AtO.below h2 (HB9.out cs)⟩
          have HF4 := HGS9
          clear hHeld
          go_wp2_with fail
          go_meet
          exact ⟨_, a2, rfl, HF1.out _, HC2.out, HF3.out _, HF4.out _⟩
        · refine AllReadyH.cons (o := { dst := some 9, op := Op.alloc 64, type := 0, pos := "ref.go:51", after := #[], guard := none }) rfl (fun K hK => ?_) AllReadyH.nil
          go_simp
          have HNB : Hid (∀ cs : Array Value, CellsAt (Z.drew.alloc (.cells cs 64)) Z.heap.size cs 64) := fun cs => CellsAt.new Z.drew _ _
          have hbB : ∀ cs : Array Value, Below Z.drew.heap.size Z.drew (Z.drew.alloc (.cells cs 64)) := fun cs => (Below.refl _ _).alloc (Nat.le_refl _) _
          have HSZ : Hid (∀ cs : Array Value, (Z.drew.alloc (.cells cs 64)).heap.size = Z.heap.size + 1) := fun cs => by rw [World.size_alloc]; rfl
          refine hK.out _ _ (hHeld.trans ((hbB _).mono hHeld.size)) (fun hHeld => ?_)
          clear hK K hbB
          try simp only [Act.put, List.setIfInBounds_toArray, List.set_cons_zero, List.set_cons_succ]
          refine wpAnyH_ready (rs := [7]) (by kernel_rfl) (by simp) ?_
          refine AllReadyH.cons (o := { dst := some 29, op := Op.call { callee := Callee.value (Operand.func 12), args := #[Operand.tmp 28], argTypes := #[41] }, type := 41, pos := "ref.go:51", after := #[{ on := 6, ground := Ground.data }], guard := none }) rfl (fun K hK => ?_) AllReadyH.nil
          go_simp
          refine (HOWN.out _ (HBz.out.trans (hHeld.mono HBz.out.size))).mono ?_
          rintro e w9 ⟨⟨a2, rfl, ho2, hc2⟩, hw9⟩
          have HO2 : Hid (∃ bb, s + 3 < bb ∧ AtO w9 bb a2) := ⟨_, (by show s + 3 < (Z.alloc _).heap.size; rw [World.size_alloc]; omega), ho2⟩
          have HC2 : Hid (a2.c = a.c) := hc2
          unfold Atr.ar
          have HG9 : Hid (Below Z.heap.size Z w9) := hHeld.trans (hw9.mono hHeld.size)
          clear ho2 hc2
          refine hK.out _ _ HG9.out (fun hHeld => ?_)
          clear hK K
          try simp only [Act.put, List.setIfInBounds_toArray, List.set_cons_zero, List.set_cons_succ]
          refine wpAnyH_take (i := 8) (oi := { dst := some 30, op := Op.build 64 #[(0, Operand.tmp 23), (1, Operand.tmp 25), (2, Operand.tmp 27), (3, Operand.tmp 29)], type := 64, pos := "ref.go:51", after := #[{ on := 1, ground := Ground.data }, { on := 3, ground := Ground.data }, { on := 5, ground := Ground.data }, { on := 7, ground := Ground.data }], guard := none }) (v := ?_) rfl (by kernel_rfl) (by kernel_rfl) (by kernel_rfl) (fun _ _ _ h => h) (Or.inl ⟨by rfl, ?_⟩) hHeld ?_
          rotate_left
          · intro w hSw
            clear hSw
            go_simp
            try with_reducible rfl
          try simp only [Act.put, List.setIfInBounds_toArray, List.set_cons_zero, List.set_cons_succ]
          have HC9 := Lib.hid ((HNB.out _).below hw9 (HNB.out _).lt)
          have HGS9 : Hid (Below Z.heap.size Z (w9.setRow Z.heap.size (pathAr k label a2 false))) := HG9.out.grown (grown_setRow' w9 Z.heap.size (pathAr k label a2 false)) HG9.out.size (fun q hq => by cases hq; exact Nat.le_refl _)
          refine wpAnyH_ready (rs := [10]) (by kernel_rfl) (by simp) ?_
          refine AllReadyH.cons (o := { dst := none, op := Op.store 64 (Operand.tmp 9) (Operand.tmp 30), type := 0, pos := "ref.go:51", after := #[{ on := 9, ground := Ground.data }, { on := 8, ground := Ground.data }, { on := 7, ground := Ground.chain }, { on := 0, ground := Ground.phase }, { on := 1, ground := Ground.phase }, { on := 2, ground := Ground.phase }, { on := 3, ground := Ground.phase }, { on := 4, ground := Ground.phase }, { on := 5, ground := Ground.phase }, { on := 6, ground := Ground.phase }, { on := 7, ground := Ground.phase }, { on := 8, ground := Ground.phase }, { on := 9, ground := Ground.phase }], guard := none }) rfl (fun K hK => ?_) AllReadyH.nil
          refine wp_store_row 64 (.tmp 9) (.tmp 30) rfl Z.heap.size (pathAr k label a2 false) rfl rfl 64 _ HC9.out (by rw [path_size]; rfl) rfl (path_ones _ _ _ _) ?_
          refine hK.out _ _ (HGS9.out) (fun hHeld => ?_)
          clear hK K
          try simp only [Act.put, List.setIfInBounds_toArray, List.set_cons_zero, List.set_cons_succ]
          refine wpAnyH_done (by kernel_rfl) ?_ _
          have HF1 := Lib.hid (HC9.out.setRow' (pathAr k label a2 false))
          have HF3 : Hid (∃ bb, s + 3 < bb ∧ AtO (w9.setRow Z.heap.size (pathAr k label a2 false)) bb a2) := by
            obtain ⟨bb, h1, h2⟩ := HO2.out
            exact ⟨bb, h1, h2.off2 (grown_setRow' w9 Z.heap.size (pathAr k label a2 false)) HC9.out⟩
          have HF4 := Lib.hid (HGS9.out)
          clear hHeld
          go_wp2_with fail
          go_meet
          exact ⟨_, a2, rfl, HF1.out, HC2.out, HF3.out, HF4.out⟩
      case rest =>
      obtain ⟨Y, hY⟩ : ∃ x, x = wc := ⟨_, rfl⟩
      subst hY
      obtain ⟨g, a2, rfl, HPG, HC2, HA2, hbY⟩ := hcut
      obtain ⟨bb, hbb, ha2⟩ := HA2.out
      have HBY : Hid (Below w.heap.size w Y) := HBz.out.trans (hbY.out.mono HBz.out.size)
      have HR4 := Lib.hid (HR3.out.below hbY.out HR3.out.lt)
      have HQ4 := Lib.hid (HQ3.out.below hbY.out HQ3.out.lt)
      have HN4 := Lib.hid (HN3.out.below hbY.out HN3.out.lt)
      have hgY : g < Y.heap.size := HPG.out.lt
      clear hbY HNL HAT HR3 HQ3 HN3 HA3 HBz HOWN
      have HOV : Hid ((placeF (L.map Td.c) k).2 = false ∧ 0 < most ∧ most ≤ ((L.map Td.c).length : Nat) → r3 = (true, 0, L.map Td.c)) := fun h => HRR2.out.trans (putD_over HMC.out h)
      have HST : Hid (¬ ((placeF (L.map Td.c) k).2 = false ∧ 0 < most ∧ most ≤ ((L.map Td.c).length : Nat)) → r3 = (false, 0, (L.map Td.c).take (placeF (L.map Td.c) k).1 ++ ⟨k, label, a.c, false⟩ :: (L.map Td.c).drop (if (placeF (L.map Td.c) k).2 = true then (placeF (L.map Td.c) k).1 + 1 else (placeF (L.map Td.c) k).1))) := fun h => HRR2.out.trans (putD_set HMC.out h)
      clear HRR2 HMC
      generalize placeF (L.map Td.c) k = r at HPL HLE HOV HST
      obtain ⟨i, is⟩ := r
      dsimp only at HPL HLE HOV HST
      have hil : i ≤ L.length := by have := HLE.out.1; rw [HLN.out] at this; exact this
      obtain ⟨a0, a1⟩ := HR4.out.c2
      obtain ⟨n0, n1, n2, n3, n4, n5⟩ := c6 HN4.out
      go_wp2_with fail
      refine (HPL.out Y HBY.out).mono ?_
      rintro e w5 ⟨rfl, hw5⟩
      have HB5 : Hid (Below w.heap.size w w5) := HBY.out.trans (hw5.mono HBY.out.size)
      have HR5 := Lib.hid (HR4.out.below hw5 HR4.out.lt)
      have HQ5 := Lib.hid (HQ4.out.below hw5 HQ4.out.lt)
      have HP5 := Lib.hid (HPG.out.below hw5 HPG.out.lt)
      have HA5 : Hid (AtO w5 bb a2) := AtO.below ha2 hw5
      have hg5 : g < w5.heap.size := HP5.out.lt
      have hs5 : s + 3 < w5.heap.size := HQ5.out.lt
      have hss : s < w5.heap.size := HR5.out.lt
      clear a0 a1 n0 n1 n2 n3 n4 n5 hw5 HPL HN4 HR4 HQ4 HPG HA2 ha2 HBY hgY
      obtain ⟨a0, a1⟩ := HR5.out.c2
      by_cases hfull : is = false ∧ 0 < most ∧ most ≤ ((L.map Td.c).length : Nat)
      · have hr3 := HOV.out hfull
        subst hr3
        obtain ⟨rfl, hf1, hf2⟩ := hfull
        rw [HLN.out] at hf2
        go_wp2_with (with_reducible show wpList _ _ _ (_ :: _) _ _; first | refine wpList_load_rib rfl (.tmp 3) rfl s rfl most A L.length c HR5.out ?_ | refine wpList_store_rib rfl (.tmp 6) (.tmp 56) rfl (s + 3) rfl most A L.length c rfl _ HQ5.out rfl ?_)
        have HF : Hid (CellsAt (w5.setRow (s + 3) (ribAr most A L.length c)) (s + 3) (ribAr most A L.length c) 27) := HQ5.out.setRow' _
        have HBF : Hid (Below w.heap.size w (w5.setRow (s + 3) (ribAr most A L.length c))) := HB5.out.grown (grown_setRow' _ _ _) HB5.out.size (fun q hq => by cases hq; have := HS.out; omega)
        exact bodyPost_ret (results_rib3 rfl _ _ (s + 3) most A L.length c (.bool true) (.int .i64 0) rfl rfl rfl HF.out) rfl ⟨⟨A, c, L, rfl, .inl ⟨rfl, rfl, rfl⟩, rfl⟩, HBF.out⟩
      · have HRR3 := Lib.hid (HST.out hfull)
        clear HST HOV
        rw [HLN.out] at hfull
        go_upto_region 5 with fail
        go_cut [55] (fun v wx => v = .bool false ∧ wx = w5)
        case first =>
          cases is with
          | true =>
            clear hfull
            go_wp2_with fail
            go_meet
            exact ⟨rfl, rfl⟩
          | false =>
            by_cases h0 : 0 < most
            · have h1 : ¬ most ≤ (L.length : Int) := fun e => hfull ⟨rfl, h0, e⟩
              clear hfull
              go_wp2_with fail
              go_meet
              exact ⟨rfl, rfl⟩
            · clear hfull
              go_wp2_with fail
              go_meet
              exact ⟨rfl, rfl⟩
        case rest =>
        obtain ⟨rfl, hwc⟩ := hcut
        subst hwc
        obtain ⟨w5, hw5⟩ : ∃ x, x = wc := ⟨_, rfl⟩
        subst hw5
        clear hfull
        have HPW := Lib.hid (HP.out.below HB5.out)
        obtain ⟨HU1, hu2, hu3⟩ := ph_upto HPW.out i hil
        have HU2 := Lib.hid hu2
        clear hu2
        have hlt9 : L.length < 900 := HLT9.out
        obtain ⟨B0, hB0⟩ : ∃ x, x = w5.heap.size := ⟨_, rfl⟩
        have HB0 : Hid (B0 = w5.heap.size) := hB0
        have HSB : Hid (s + 3 < B0) := by show _ < _; rw [hB0]; exact hs5
        have HGB : Hid (g < B0) := by show _ < _; rw [hB0]; exact hg5
        have HWB : Hid (w.heap.size ≤ B0) := by show _ ≤ _; rw [hB0]; exact HB5.out.size
        have HZI : Hid (0 + i = i) := Nat.zero_add i
        have HU3 : Hid ((L.take i).length = i) := hu3
        clear hB0 hu3 hs5 hg5 hss
        go_wp2_with (at_builtin; refine wpList_app_ph rfl (.tmp 57) (.tmp 61) rfl B0 none 0 0 [] rfl rfl (OwnM.nil _ _ _ _) (L.take i) A i c HU3.out rfl HU2.out i HZI.out (by omega) (Nat.le_of_eq HB0.out) ?_)
        intro A1 c1 w6 HO1 HW6
        have HP6 : Hid (w6.rangeAt g 0 (Td.pa ⟨k, label, a2, false⟩).toList) := (HP5.out.below HW6.out HGB.out).range
        clear a0 a1 HU1 HU2 HU3 HZI
        go_wp2_with (with_reducible show wpList _ _ _ (_ :: _) _ _; first | refine wpList_load_ph rfl (.tmp 9) rfl g 0 rfl ⟨k, label, a2, false⟩ HP6.out ?_ | refine wpList_build_ph rfl (.tmp 64) rfl ⟨k, label, a2, false⟩ rfl ?_)
        intro gs w7 hgs0 hw70
        have hgs := hgs0.out
        have hw7 := hw70.out
        have HB76 : Hid (Below w6.heap.size w6 w7) := by rw [hw7]; exact (Below.refl _ _).alloc (Nat.le_refl _) _
        have hbs : B0 ≤ w6.heap.size := by rw [HB0.out]; exact HW6.out.size
        have HW7 : Hid (Below B0 w5 w7) := HW6.out.trans (HB76.out.mono hbs)
        have HX7 : Hid (Rd w7 (some ⟨gs, 0, none⟩) 29 ([(⟨k, label, a2, false⟩ : Td)].map paF)) := by rw [hw7, hgs]; exact ph_one w6 ⟨k, label, a2, false⟩
        have HO7 : Hid (OwnL w7 B0 64 29 paF (.slice A1 i c1) ([] ++ L.take i)) := OwnM.below HO1.out HB76.out (Nat.le_refl _)
        have HL7 : Hid (([] ++ L.take i).length = i) := by show _ = _; rw [List.nil_append, List.length_take]; omega
        have HBB7 : Hid (B0 ≤ w7.heap.size) := Nat.le_trans hbs HB76.out.size
        have HI1 : Hid (i + 1 = i + 1) := rfl
        clear hgs hw7 hgs0 hw70 HO1 HW6 HB76 hbs HP6
        go_wp2_with (at_builtin; refine wpList_app_ph rfl (.tmp 63) (.tmp 65) rfl B0 A1 i c1 ([] ++ L.take i) HL7.out rfl HO7.out [⟨k, label, a2, false⟩] (some ⟨gs, 0, none⟩) 1 1 rfl rfl HX7.out (i + 1) HI1.out (by omega) HBB7.out ?_)
        intro A3 c3 w8 HO3 hb8
        have HW8 : Hid (Below B0 w5 w8) := HW7.out.trans hb8.out
        have HBB8 : Hid (B0 ≤ w8.heap.size) := Nat.le_trans HBB7.out hb8.out.size
        have HL8 : Hid (([] ++ L.take i ++ [(⟨k, label, a2, false⟩ : Td)]).length = i + 1) := by show _ = _; rw [List.nil_append, List.length_append, List.length_take]; simp; omega
        clear hb8 HO7 HX7 HBB7 HL7 HI1 HW7
        obtain ⟨a0, a1⟩ := (HR5.out.below HW8.out (Nat.lt_of_le_of_lt (Nat.le_add_right _ _) HSB.out)).c2
        have HLE2 := HLE
        cases is with
        | true =>
          have hi2 : i + 1 ≤ L.length := by have := HLE.out.2 rfl; rw [HLN.out] at this; exact this
          have HPW8 := Lib.hid (HP.out.below (HB5.out.trans (HW8.out.mono HWB.out)))
          obtain ⟨A4, c4, hu4, hr4⟩ := ph_from HPW8.out (i + 1) (by omega)
          have HR4 := Lib.hid hr4
          have HD : Hid ((L.drop (i + 1)).length = L.length - (i + 1)) := List.length_drop ..
          obtain ⟨d, hd⟩ : ∃ d, d = (L.drop (i + 1)).length := ⟨_, rfl⟩
          have HD2 : Hid ((L.drop (i + 1)).length = d) := hd.symm
          have HD3 : Hid (d ≤ 900) := by have := HD.out; show _ ≤ _; omega
          rw [← hd] at hu4
          try rw [Int.natCast_succ] at hu4
          clear hr4 hd
          obtain ⟨q, hq⟩ : ∃ q, q = i + 1 + d := ⟨_, rfl⟩
          have HQQ : Hid (i + 1 + d = q) := hq.symm
          have HQL : Hid (q ≤ 1000) := by have h1 := HD.out; have h2 := HD2.out; show _ ≤ _; omega
          clear hq
          go_wp2_with (at_builtin; refine wpList_app_ph rfl (.tmp 70) (.tmp 74) rfl B0 A3 (i + 1) c3 ([] ++ L.take i ++ [⟨k, label, a2, false⟩]) HL8.out rfl HO3.out (L.drop (i + 1)) A4 d c4 HD2.out rfl HR4.out q HQQ.out HQL.out HBB8.out ?_)
          intro A5 c5 w9 HO5 hb9
          have HW9 : Hid (Below B0 w5 w9) := HW8.out.trans hb9.out
          clear hb9 hu4 HO3 HR4 HBB8 HL8 a0 a1 HW8 HPW8
          have HQ9 := Lib.hid (HQ5.out.below HW9.out HSB.out)
          obtain ⟨a0, a1⟩ := (HR5.out.below HW9.out (Nat.lt_of_le_of_lt (Nat.le_add_right _ _) HSB.out)).c2
          go_wp2_with (with_reducible show wpList _ _ _ (_ :: _) _ _; first | refine wpList_store_rib rfl (.tmp 6) (.tmp 79) rfl (s + 3) rfl most A5 q c5 rfl _ HQ9.out rfl ?_)
          have HF : Hid (CellsAt (w9.setRow (s + 3) (ribAr most A5 q c5)) (s + 3) (ribAr most A5 q c5) 27) := HQ9.out.setRow' _
          have hgr := grown_setRow' w9 (s + 3) (ribAr most A5 q c5)
          have HB9 : Hid (Below w.heap.size w w9) := HB5.out.trans (HW9.out.mono HWB.out)
          have HBF : Hid (Below w.heap.size w (w9.setRow (s + 3) (ribAr most A5 q c5))) := HB9.out.grown hgr HB9.out.size (fun q hq => by cases hq; have := HS.out; omega)
          have HW9' : Below w5.heap.size w5 w9 := by rw [← HB0.out]; exact HW9.out
          have HA9 : AtO (w9.setRow (s + 3) (ribAr most A5 q c5)) bb a2 := (AtO.below HA5.out HW9').keep (fun i h1 h2 => hgr.block i h2 (fun e => by injection e with e; omega))
          have HO9 : OwnL (w9.setRow (s + 3) (ribAr most A5 q c5)) B0 64 29 paF (.slice A5 q c5) (L.take i ++ ⟨k, label, a2, false⟩ :: L.drop (i + 1)) := OwnL.keep HO5.out (fun i h1 h2 => hgr.block i h2 (fun e => by injection e with e; have := HSB.out; omega))
          have HPF := HP.out.below HBF.out
          obtain ⟨hph, hql⟩ := ph_of HO9 (fun t ht => by
            rcases List.mem_append.1 ht with ht | ht
            · exact HPF.ok t (List.mem_of_mem_take ht)
            · rcases List.mem_cons.1 ht with ht | ht
              · subst ht
                exact ⟨HK.out, HL.out, HA9.ok, by show AtrSz a2.c; rw [HC2.out]; exact HSZ0.out⟩
              · exact HPF.ok t (List.mem_of_mem_drop ht))
          have hr3 := HRR3.out
          subst hr3
          exact bodyPost_ret (results_rib3 rfl _ _ (s + 3) most A5 q c5 (.bool false) (.int .i64 0) rfl rfl rfl HF.out) rfl ⟨⟨A5, c5, L.take i ++ ⟨k, label, a2, false⟩ :: L.drop (i + 1), by rw [← hql], .inr ⟨by rw [← hql]; exact OwnM.lower HO9 HWB.out, fun t ht => by
            rcases List.mem_append.1 ht with ht | ht
            · exact .inl ⟨t, List.mem_of_mem_take ht, rfl, rfl, rfl⟩
            · rcases List.mem_cons.1 ht with ht | ht
              · subst ht
                exact .inr ⟨HK.out, HL.out, HA9.lower' (by have := HS.out; omega), by show AtrSz a2.c; rw [HC2.out]; exact HSZ0.out⟩
              · exact .inl ⟨t, List.mem_of_mem_drop ht, rfl, rfl, rfl⟩⟩, by
            show List.map Td.c (L.take i ++ ⟨k, label, a2, false⟩ :: L.drop (i + 1)) = _
            rw [List.map_append, List.map_cons, List.map_take, List.map_drop, ← HC2.out]
            rfl⟩, HBF.out⟩
        | false =>
          have HPW8 := Lib.hid (HP.out.below (HB5.out.trans (HW8.out.mono HWB.out)))
          obtain ⟨A4, c4, hu4, hr4⟩ := ph_from HPW8.out i (by omega)
          have HR4 := Lib.hid hr4
          have HD : Hid ((L.drop i).length = L.length - i) := List.length_drop ..
          obtain ⟨d, hd⟩ : ∃ d, d = (L.drop i).length := ⟨_, rfl⟩
          have HD2 : Hid ((L.drop i).length = d) := hd.symm
          have HD3 : Hid (d ≤ 900) := by have := HD.out; show _ ≤ _; omega
          rw [← hd] at hu4
          try rw [Int.natCast_succ] at hu4
          clear hr4 hd
          obtain ⟨q, hq⟩ : ∃ q, q = i + 1 + d := ⟨_, rfl⟩
          have HQQ : Hid (i + 1 + d = q) := hq.symm
          have HQL : Hid (q ≤ 1000) := by have h1 := HD.out; have h2 := HD2.out; show _ ≤ _; omega
          clear hq
          go_wp2_with (at_builtin; refine wpList_app_ph rfl (.tmp 70) (.tmp 74) rfl B0 A3 (i + 1) c3 ([] ++ L.take i ++ [⟨k, label, a2, false⟩]) HL8.out rfl HO3.out (L.drop i) A4 d c4 HD2.out rfl HR4.out q HQQ.out HQL.out HBB8.out ?_)
          intro A5 c5 w9 HO5 hb9
          have HW9 : Hid (Below B0 w5 w9) := HW8.out.trans hb9.out
          clear hb9 hu4 HO3 HR4 HBB8 HL8 a0 a1 HW8 HPW8
          have HQ9 := Lib.hid (HQ5.out.below HW9.out HSB.out)
          obtain ⟨a0, a1⟩ := (HR5.out.below HW9.out (Nat.lt_of_le_of_lt (Nat.le_add_right _ _) HSB.out)).c2
          go_wp2_with (with_reducible show wpList _ _ _ (_ :: _) _ _; first | refine wpList_store_rib rfl (.tmp 6) (.tmp 79) rfl (s + 3) rfl most A5 q c5 rfl _ HQ9.out rfl ?_)
          have HF : Hid (CellsAt (w9.setRow (s + 3) (ribAr most A5 q c5)) (s + 3) (ribAr most A5 q c5) 27) := HQ9.out.setRow' _
          have hgr := grown_setRow' w9 (s + 3) (ribAr most A5 q c5)
          have HB9 : Hid (Below w.heap.size w w9) := HB5.out.trans (HW9.out.mono HWB.out)
          have HBF : Hid (Below w.heap.size w (w9.setRow (s + 3) (ribAr most A5 q c5))) := HB9.out.grown hgr HB9.out.size (fun q hq => by cases hq; have := HS.out; omega)
          have HW9' : Below w5.heap.size w5 w9 := by rw [← HB0.out]; exact HW9.out
          have HA9 : AtO (w9.setRow (s + 3) (ribAr most A5 q c5)) bb a2 := (AtO.below HA5.out HW9').keep (fun i h1 h2 => hgr.block i h2 (fun e => by injection e with e; omega))
          have HO9 : OwnL (w9.setRow (s + 3) (ribAr most A5 q c5)) B0 64 29 paF (.slice A5 q c5) (L.take i ++ ⟨k, label, a2, false⟩ :: L.drop i) := OwnL.keep HO5.out (fun i h1 h2 => hgr.block i h2 (fun e => by injection e with e; have := HSB.out; omega))
          have HPF := HP.out.below HBF.out
          obtain ⟨hph, hql⟩ := ph_of HO9 (fun t ht => by
            rcases List.mem_append.1 ht with ht | ht
            · exact HPF.ok t (List.mem_of_mem_take ht)
            · rcases List.mem_cons.1 ht with ht | ht
              · subst ht
                exact ⟨HK.out, HL.out, HA9.ok, by show AtrSz a2.c; rw [HC2.out]; exact HSZ0.out⟩
              · exact HPF.ok t (List.mem_of_mem_drop ht))
          have hr3 := HRR3.out
          subst hr3
          exact bodyPost_ret (results_rib3 rfl _ _ (s + 3) most A5 q c5 (.bool false) (.int .i64 0) rfl rfl rfl HF.out) rfl ⟨⟨A5, c5, L.take i ++ ⟨k, label, a2, false⟩ :: L.drop i, by rw [← hql], .inr ⟨by rw [← hql]; exact OwnM.lower HO9 HWB.out, fun t ht => by
            rcases List.mem_append.1 ht with ht | ht
            · exact .inl ⟨t, List.mem_of_mem_take ht, rfl, rfl, rfl⟩
            · rcases List.mem_cons.1 ht with ht | ht
              · subst ht
                exact .inr ⟨HK.out, HL.out, HA9.lower' (by have := HS.out; omega), by show AtrSz a2.c; rw [HC2.out]; exact HSZ0.out⟩
              · exact .inl ⟨t, List.mem_of_mem_drop ht, rfl, rfl, rfl⟩⟩, by
            show List.map Td.c (L.take i ++ ⟨k, label, a2, false⟩ :: L.drop i) = _
            rw [List.map_append, List.map_cons, List.map_take, List.map_drop, ← HC2.out]
            rfl⟩, HBF.out⟩
  · rw [show nlC (nlk k label) = 2 from if_neg hm] at HC7
    have hr3 := HRR.out
    rw [putD_bad (fun e => hm e.1)] at hr3
    subst hr3
    go_wp2_with fail
    refine (HC7.out _).mono ?_
    rintro e w2 ⟨rfl, hw2⟩
    have HB2 : Hid (Below w.heap.size w w2) := HB.out.trans (hw2.mono HB.out.size)
    have HR2 := Lib.hid (HR0.out.below hw2 HR0.out.lt)
    have HQ2 := Lib.hid (HQ0.out.below hw2 HQ0.out.lt)
    clear n0 n1 n2 n3 n4 n5 hw2 HC7 HN0 HA0 HR0 HQ0 HB
    go_wp2_with (with_reducible show wpList _ _ _ (_ :: _) _ _; first | refine wpList_load_rib rfl (.tmp 3) rfl s rfl most A L.length c HR2.out ?_ | refine wpList_store_rib rfl (.tmp 6) (.tmp 21) rfl (s + 3) rfl most A L.length c rfl _ HQ2.out rfl ?_)
    have HF : Hid (CellsAt (w2.setRow (s + 3) (ribAr most A L.length c)) (s + 3) (ribAr most A L.length c) 27) := HQ2.out.setRow' _
    have HBF : Hid (Below w.heap.size w (w2.setRow (s + 3) (ribAr most A L.length c))) := HB2.out.grown (grown_setRow' _ _ _) HB2.out.size (fun q hq => by cases hq; have := HS.out; omega)
    exact bodyPost_ret (results_rib3 rfl _ _ (s + 3) most A L.length c (.bool false) (.int .i64 2) rfl rfl rfl HF.out) rfl ⟨⟨A, c, L, rfl, .inl ⟨rfl, rfl, rfl⟩, rfl⟩, HBF.out⟩
end Go.Proofs.YtldpcliahfiloaaGreat
