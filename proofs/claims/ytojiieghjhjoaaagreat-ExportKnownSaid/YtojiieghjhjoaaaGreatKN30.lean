/-
  Several texts in one.
-/
import Derived.Test.YtojiieghjhjoaaaGreatKN29
import Derived.BigRegion
set_option linter.unusedVariables false
set_option linter.unusedSimpArgs false
namespace Go.Proofs.YtojiieghjhjoaaaGreat
open Go.RowKit Go.MapKept Go.Shelf
open Go.Lib hiding intOf

/-- no two segments' lists lie in one block -/
def Apart (segs : List Sg) : Prop := segs.Pairwise fun s t => ∀ k, (Value.slice s.A s.as_.length s.cap).ownBlock = some k → (Value.slice t.A t.as_.length t.cap).ownBlock ≠ some k
theorem Apart.snoc {segs : List Sg} {t : Sg} (h : Apart segs) (ht : ∀ s ∈ segs, ∀ k, (Value.slice s.A s.as_.length s.cap).ownBlock = some k → (Value.slice t.A t.as_.length t.cap).ownBlock ≠ some k) : Apart (segs ++ [t]) := by
  unfold Apart
  rw [List.pairwise_append]
  exact ⟨h, List.pairwise_singleton _ _, fun a ha b hb => by rw [List.mem_singleton.1 hb]; exact ht a ha⟩
theorem SegsO.lower {w : World} {b b' : Nat} {v : Value} {segs : List Sg} (h : SegsO w b v segs) (hb : b' ≤ b) : SegsO w b' v segs := ⟨OwnM.lower h.own hb, fun s hs => ⟨OwnM.lower (h.as_ s hs).1 hb, (h.as_ s hs).2⟩⟩
def conF (k : Int) : Bool := k == 3 || k == 4
theorem confed_any (k : Int) (x : Value) (hx : x.oneCell' = true) (w : World) : Calls Tryz.prog 62 #[.agg #[.int .i64 k, x]] w fun e w' => e = .returned (.bool (conF k)) ∧ Below w.heap.size w w' := by
  have HB := Lib.hid (below1 w)
  unfold conF
  by_cases h : k = 3
  · subst h
    go_enter Tryz.func62, Tryz.ntmps62
    go_wp2_with fail
    go_ret
    exact ⟨rfl, HB.out _⟩
  · have e : (k == 3) = false := beq_eq_false_iff_ne.2 h
    rw [e, Bool.false_or]
    clear h
    go_enter Tryz.func62, Tryz.ntmps62
    go_wp2_with fail
    go_ret
    exact ⟨rfl, HB.out _⟩
set_option maxRecDepth 100000 in
set_option maxHeartbeats 16000000 in
theorem clone_any (A : Option Addr) (cap : Nat) (l : List Sg) (w : World) (h : SegsOk w A cap l) (hsz : ∀ s ∈ l, s.as_.length * 4 ≤ 140737488351232) (hlz : l.length * 32 ≤ 140737488351232) :
    Calls Tryz.prog 64 #[.slice A l.length cap] w fun e w' => (∃ A' c segs, e = .returned (.slice A' l.length c) ∧ segs.length = l.length ∧ segs.map Sg.c = l.map Sg.c ∧ SegsO w' w.heap.size (.slice A' l.length c) segs ∧ Apart segs) ∧ Below w.heap.size w w' := by
  obtain ⟨i1, hi, hz0, hz1, hz2⟩ := info_parts inSeg
  have HI := Lib.hid hi
  have HZ0 := Lib.hid hz0
  have HZ1 := Lib.hid hz1
  have HZ2 := Lib.hid hz2
  clear hi hz0 hz1 hz2
  have HR := Lib.hid h
  have HSZ := Lib.hid hsz
  have hl : l.length ≤ cap := h.len
  have hc : cap ≤ 9223372036854775807 := h.cap
  have HCM := Lib.hid clone_u32
  clear h hsz
  go_enter Tryz.func64, Tryz.ntmps64
  go_wp2_with fail
  go_loopw [3, 8] (fun v i wr => ∃ (k : Nat) (A2 : Option Addr) (c2 : Nat) (segs : List Sg), v = .slice A2 k c2 ∧ i = .int .i64 k ∧ k ≤ l.length ∧ Hid (segs.length = k) ∧ Hid (segs.map Sg.c = (l.take k).map Sg.c) ∧ Hid (SegsO wr w.heap.size (.slice A2 k c2) segs) ∧ Hid (Apart segs) ∧ Hid (Below w.heap.size w wr)) (fun _ i _ => l.length + 1 - (intOf i).toNat)
  case atStart => exact ⟨0, none, 0, [], rfl, rfl, by omega, rfl, rfl, SegsO.nil _ _, List.Pairwise.nil, Below.refl _ _⟩
  case round =>
    obtain ⟨k, A2, c2, segs, rfl, rfl, hk, HL, HC, HO, HAP, HB⟩ := hrel
    by_cases hlt : k < l.length
    · obtain ⟨s, hx⟩ : ∃ s, l[k]? = some s := ⟨l[k], List.getElem?_eq_getElem hlt⟩
      have hmem := List.mem_of_getElem? hx
      obtain ⟨b1, o1, rfl, hb1, q0, q1⟩ := sg_cells (HR.out.below HB.out (Nat.le_refl _)).rd hx
      have HTK := Lib.hid (take_snoc hx)
      have HSS := Lib.hid ((HR.out.segs s hmem).below HB.out (Nat.le_refl _))
      have HZS := Lib.hid (HSZ.out s hmem)
      have HKF := Lib.hid (HR.out.segs s hmem).kfit
      have HFT := Lib.hid (HR.out.segs s hmem).fits
      clear hx hmem
      go_upto_region 5 with fail
      refine rb_name fun V hV => ?_
      obtain ⟨q, hq⟩ : ∃ q, q = wr.heap.size := ⟨_, rfl⟩
      have HQ : Hid (CellsAt V q #[.int .i64 s.kind, .slice s.A s.as_.length s.cap] 67) := by rw [hV, hq]; exact CellsAt.new _ _ _
      have HBV : Hid (Below wr.heap.size wr V) := by rw [hV]; exact below1 _ _
      have HQS : Hid (q = wr.heap.size) := hq
      have HVS : Hid (V.heap.size = wr.heap.size + 1) := by show _ = _; rw [hV]; simp
      rw [← hq]
      clear hV hq q0 q1
      have HBD : Hid (Below w.heap.size w V.drew) := below_drewN (HB.out.trans (HBV.out.mono HB.out.size)) 1
      have HRS : Hid (w.heap.size ≤ wr.heap.size) := HB.out.size
      have HOV : Hid (SegsO V.drew w.heap.size (.slice A2 k c2) segs) := HO.out.keep (fun i h1 h2 => HBV.out.block i h2)
      have HLB : Hid (∀ t ∈ segs, ∀ j, (Value.slice t.A t.as_.length t.cap).ownBlock = some j → j < wr.heap.size) := fun t ht j hj => (OwnM.lt (HO.out.as_ t ht).1 j hj).2
      have HOB : Hid (∀ j, (Value.slice A2 k c2).ownBlock = some j → j < wr.heap.size) := fun j hj => (OwnM.lt HO.out.own j hj).2
      have HSV : Hid (SgOk V.drew s) := HSS.out.below (below_drewN HBV.out 1) (Nat.le_refl _)
      clear HO HSS
      refine wp_region_held_drew (S := fun w' => CellsAt w' q #[.int .i64 s.kind, .slice s.A s.as_.length s.cap] 67 ∧ Below w.heap.size w w') (by kernel_rfl) (⟨HQ.out.drew 1, HBD.out⟩) (fun hHeld => ?_)
      refine wpAnyH_take (i := 0) (oi := { dst := some 12, op := Op.move (Operand.tmp 3), type := 28, pos := "aspath.go:64", after := #[], guard := none }) (v := ?_) rfl (by kernel_rfl) (by kernel_rfl) (by kernel_rfl) (fun _ _ _ h => h) (Or.inl ⟨by rfl, ?_⟩) hHeld ?_
      rotate_left
      · intro w hSw
        clear hSw
        go_simp
        try with_reducible rfl
      try simp only [Act.put, List.setIfInBounds_toArray, List.set_cons_zero, List.set_cons_succ]
      refine wpAnyH_take (i := 1) (oi := { dst := some 13, op := Op.fieldAddr 67 (Operand.tmp 5) 0, type := 0, pos := "aspath.go:64", after := #[], guard := none }) (v := ?_) rfl (by kernel_rfl) (by kernel_rfl) (by kernel_rfl) (fun _ _ _ h => h) (Or.inl ⟨by rfl, ?_⟩) hHeld ?_
      rotate_left
      · intro w hSw
        clear hSw
        go_simp
        try with_reducible rfl
      try simp only [Act.put, List.setIfInBounds_toArray, List.set_cons_zero, List.set_cons_succ]
      refine wpAnyH_take (i := 2) (oi := { dst := some 14, op := Op.load 3 (Operand.tmp 13), type := 3, pos := "aspath.go:64", after := #[{ on := 1, ground := Ground.data }], guard := none }) (v := ?_) rfl (by kernel_rfl) (by kernel_rfl) (by kernel_rfl) (fun _ _ _ h => h) (Or.inl ⟨by rfl, ?_⟩) hHeld ?_
      rotate_left
      · intro w hSw
        obtain ⟨q0, q1⟩ := hSw.1.c2
        go_simp
        try with_reducible rfl
      try simp only [Act.put, List.setIfInBounds_toArray, List.set_cons_zero, List.set_cons_succ]
      refine wpAnyH_take (i := 3) (oi := { dst := some 15, op := Op.fieldAddr 67 (Operand.tmp 5) 1, type := 0, pos := "aspath.go:64", after := #[], guard := none }) (v := ?_) rfl (by kernel_rfl) (by kernel_rfl) (by kernel_rfl) (fun _ _ _ h => h) (Or.inl ⟨by rfl, ?_⟩) hHeld ?_
      rotate_left
      · intro w hSw
        clear hSw
        go_simp
        try with_reducible rfl
      try simp only [Act.put, List.setIfInBounds_toArray, List.set_cons_zero, List.set_cons_succ]
      refine wpAnyH_take (i := 4) (oi := { dst := some 16, op := Op.load 29 (Operand.tmp 15), type := 29, pos := "aspath.go:64", after := #[{ on := 3, ground := Ground.data }], guard := none }) (v := ?_) rfl (by kernel_rfl) (by kernel_rfl) (by kernel_rfl) (fun _ _ _ h => h) (Or.inl ⟨by rfl, ?_⟩) hHeld ?_
      rotate_left
      · intro w hSw
        obtain ⟨q0, q1⟩ := hSw.1.c2
        go_simp
        try with_reducible rfl
      try simp only [Act.put, List.setIfInBounds_toArray, List.set_cons_zero, List.set_cons_succ]
      refine wpAnyH_ready (rs := [5]) (by kernel_rfl) (by simp) ?_
      refine AllReadyH.cons (o := { dst := some 17, op := Op.call { callee := Callee.value (Operand.func 74), args := #[Operand.tmp 16], argTypes := #[29] }, type := 29, pos := "aspath.go:64", after := #[{ on := 4, ground := Ground.data }], guard := none }) rfl (fun K hK => ?_) AllReadyH.nil
      go_simp
      refine (HCM.out s.A s.cap s.as_ _ HSV.out.rd (Nat.le_trans HSV.out.len HSV.out.cap) (by have := HZS.out; omega)).mono ?_
      rintro e w2 ⟨⟨A3, c3, rfl, ho2⟩, hb2⟩
      have HA2 : Hid (OwnL w2 w.heap.size 22 1 u1 (.slice A3 s.as_.length c3) s.as_) := OwnM.lower ho2 (by have h1 := HVS.out; have h2 := HRS.out; show w.heap.size ≤ V.heap.size; omega)
      have HNB : Hid (∀ j, (Value.slice A3 s.as_.length c3).ownBlock = some j → wr.heap.size < j) := fun j hj => by
        have h1 := (OwnM.lt ho2 j hj).1
        have h2 := HVS.out
        have h3 : V.heap.size ≤ j := h1
        omega
      have HO2 : Hid (SegsO w2 w.heap.size (.slice A2 k c2) segs) := HOV.out.keep (fun i h1 h2 => hb2.block i h2)
      have HB2 : Hid (Below w.heap.size w w2) := HBD.out.trans (hb2.mono HBD.out.size)
      have HQ2 : Hid (CellsAt w2 q #[.int .i64 s.kind, .slice s.A s.as_.length s.cap] 67) := (HQ.out.drew 1).below hb2 HQ.out.lt
      have hs2 := HB2.out.size
      have HCB : Hid (CellsAt (w2.alloc (.cells #[.int .i64 s.kind, .slice A3 s.as_.length c3] 67)) w2.heap.size #[.int .i64 s.kind, .slice A3 s.as_.length c3] 67) := CellsAt.new _ _ _
      have HSR := Lib.hid (Src.block (P := Tryz.prog) (t2 := 28) (size := 2) (m := 1) (c := 1) Tryz.underlying28 HCB.out rfl (by simp [Value.oneCell']))
      have HOa : Hid (SegsO (w2.alloc (.cells #[.int .i64 s.kind, .slice A3 s.as_.length c3] 67)) w.heap.size (.slice A2 k c2) segs) := HO2.out.keep (fun i h1 h2 => Below.heap_alloc _ _ _ h2)
      have HAa := Lib.hid (HA2.out.alloc (.cells #[.int .i64 s.kind, .slice A3 s.as_.length c3] 67))
      have HBa : Hid (Below w.heap.size w (w2.alloc (.cells #[.int .i64 s.kind, .slice A3 s.as_.length c3] 67))) := HB2.out.alloc hs2 _
      have HQa : Hid (CellsAt (w2.alloc (.cells #[.int .i64 s.kind, .slice A3 s.as_.length c3] 67)) q #[.int .i64 s.kind, .slice s.A s.as_.length s.cap] 67) := HQ2.out.alloc _
      have HBS : Hid (w.heap.size ≤ (w2.alloc (.cells #[.int .i64 s.kind, .slice A3 s.as_.length c3] 67)).heap.size) := by show _ ≤ _; simp; omega
      have HM : Hid (k + 1 ≤ maxLen) := by show _ ≤ _; unfold maxLen; omega
      have HY : Hid ((k + 1) * 32 ≤ 140737488355328) := by show _ ≤ _; omega
      clear ho2 hb2 hs2 hHeld
      refine hK.out _ _ (⟨HQ2.out, HB2.out⟩) (fun hHeld => ?_)
      clear hK K
      try simp only [Act.put, List.setIfInBounds_toArray, List.set_cons_zero, List.set_cons_succ]
      refine wpAnyH_take (i := 6) (oi := { dst := some 18, op := Op.build 67 #[(0, Operand.tmp 14), (1, Operand.tmp 17)], type := 67, pos := "aspath.go:64", after := #[{ on := 2, ground := Ground.data }, { on := 5, ground := Ground.data }], guard := none }) (v := ?_) rfl (by kernel_rfl) (by kernel_rfl) (by kernel_rfl) (fun _ _ _ h => h) (Or.inl ⟨by rfl, ?_⟩) hHeld ?_
      rotate_left
      · intro w hSw
        clear hSw
        go_simp
        try with_reducible rfl
      try simp only [Act.put, List.setIfInBounds_toArray, List.set_cons_zero, List.set_cons_succ]
      refine wpAnyH_ready (rs := [7]) (by kernel_rfl) (by simp) ?_
      refine AllReadyH.cons (o := { dst := some 19, op := Op.buildSlice 28 1 #[(0, Operand.tmp 18)], type := 28, pos := "aspath.go:64", after := #[{ on := 6, ground := Ground.data }], guard := none }) rfl (fun K hK => ?_) AllReadyH.nil
      go_simp
      clear hHeld
      refine hK.out _ _ (⟨HQa.out, HBa.out⟩) (fun hHeld => ?_)
      clear hK K
      try simp only [Act.put, List.setIfInBounds_toArray, List.set_cons_zero, List.set_cons_succ]
      refine wpAnyH_ready (rs := [8]) (by kernel_rfl) (by simp) ?_
      refine AllReadyH.cons (o := { dst := some 20, op := Op.call { callee := Callee.builtin Builtin.append, args := #[Operand.tmp 12, Operand.tmp 19], argTypes := #[28, 28] }, type := 28, pos := "aspath.go:64", after := #[{ on := 0, ground := Ground.data }, { on := 7, ground := Ground.data }, { on := 5, ground := Ground.chain }], guard := none }) rfl (fun K hK => ?_) AllReadyH.nil
      refine step_append_m rfl (.tmp 12) (.tmp 19) 28 28 rfl w.heap.size 67 i1 _ 2 32 Tryz.underlying28 HI.out HZ0.out HZ1.out HZ2.out rfl (by decide) (.slice A2 k c2) k (segs.flatMap Sg.cs) rfl (by have h := HOa.out.own; unfold OwnL at h; rwa [HL.out] at h) _ 1 _ rfl HSR.out HM.out HY.out HBS.out ?_
      intro v' w5 hown hgr hat
      obtain ⟨A6, c6, rfl⟩ := hown.form
      have HN5 : Hid (SegsO w5 w.heap.size (.slice A6 (k + 1) c6) (segs ++ [(⟨s.kind, A3, s.as_, c3⟩ : Sg)])) := ⟨OwnL.snoc (by rw [HL.out]; exact hown), fun q hq => by
        rcases List.mem_append.1 hq with hq | hq
        · obtain ⟨q1, q2⟩ := HOa.out.as_ q hq
          exact ⟨OwnM.grown q1 hgr (own_ne q1 HOa.out.own (by decide)), q2⟩
        · obtain rfl := List.mem_singleton.1 hq
          exact ⟨OwnM.grown HAa.out hgr (own_ne HAa.out HOa.out.own (by decide)), HFT.out, HKF.out⟩⟩
      have HB5 : Hid (Below w.heap.size w w5) := OwnM.below_grown HOa.out.own hgr HBa.out (by have := HBa.out.size; exact this) (by omega)
      have HQ5 : Hid (CellsAt w5 q #[.int .i64 s.kind, .slice s.A s.as_.length s.cap] 67) := HQa.out.own hgr (fun e => by
        have h1 := HOB.out q e.symm
        have h2 := HQS.out
        omega)
      have HAP5 : Hid (Apart (segs ++ [(⟨s.kind, A3, s.as_, c3⟩ : Sg)])) := HAP.out.snoc (fun t ht j h1 h2 => by
        have h3 := HLB.out t ht j h1
        have h4 := HNB.out j h2
        omega)
      clear hown hgr hat hHeld
      refine hK.out _ _ (⟨HQ5.out, HB5.out⟩) (fun hHeld => ?_)
      clear hK K
      try simp only [Act.put, List.setIfInBounds_toArray, List.set_cons_zero, List.set_cons_succ]
      refine wpAnyH_take (i := 9) (oi := { dst := some 3, op := Op.assign (Operand.tmp 20), type := 28, pos := "aspath.go:64", after := #[{ on := 8, ground := Ground.data }, { on := 8, ground := Ground.chain }, { on := 0, ground := Ground.phase }, { on := 1, ground := Ground.phase }, { on := 2, ground := Ground.phase }, { on := 3, ground := Ground.phase }, { on := 4, ground := Ground.phase }, { on := 5, ground := Ground.phase }, { on := 6, ground := Ground.phase }, { on := 7, ground := Ground.phase }, { on := 8, ground := Ground.phase }], guard := none }) (v := ?_) rfl (by kernel_rfl) (by kernel_rfl) (by kernel_rfl) (fun _ _ _ h => h) (Or.inl ⟨by rfl, ?_⟩) hHeld ?_
      rotate_left
      · intro w hSw
        clear hSw
        go_simp
        try with_reducible rfl
      try simp only [Act.put, List.setIfInBounds_toArray, List.set_cons_zero, List.set_cons_succ]
      refine wpAnyH_done (by kernel_rfl) ?_ _
      clear hHeld
      go_wp2_with fail
      exact ⟨⟨k + 1, A6, c6, segs ++ [(⟨s.kind, A3, s.as_, c3⟩ : Sg)], rfl, by go_num, by omega, by show _ = _; rw [List.length_append, HL.out]; rfl, by show _ = _; rw [List.map_append, HC.out, HTK.out, List.map_append]; rfl, HN5.out, HAP5.out, HB5.out⟩, by simp [intOf]; omega⟩
    · obtain rfl : k = l.length := by omega
      go_wp2_with fail
      go_ret
      refine ⟨⟨A2, c2, segs, rfl, HL.out, ?_, HO.out, HAP.out⟩, HB.out⟩
      rw [HC.out, List.take_length]
end Go.Proofs.YtojiieghjhjoaaaGreat
