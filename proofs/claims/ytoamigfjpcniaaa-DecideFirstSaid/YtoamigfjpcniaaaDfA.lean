/-
  DecideFirst walked. Conditions: sizes.
-/
import Derived.Test.YtoamigfjpcniaaaDeV
import Derived.Test.YtoamigfjpcniaaaDeY
import Derived.Test.YtoamigfjpcniaaaDeZ
import Derived.BigRegion
set_option linter.unusedVariables false
set_option linter.unusedSimpArgs false
namespace Go.Proofs.Ytoamigfjpcniaaa
open Go.RowKit Go.MapKept Go.Shelf
open Go.Lib hiding intOf

def noHas (p : Pt) : Pt := { p with hasMed := false }
def nei0 (ps : List Pt) : Nat := match ps with
  | [] => 0
  | p :: _ => neiF p
def alK (ps : List Pt) (k : Nat) : Bool := (ps.take k).all fun p => neiF p == nei0 ps
theorem alK_succ {ps : List Pt} {k : Nat} {p : Pt} (h : ps[k]? = some p) : alK ps (k + 1) = (alK ps k && (neiF p == nei0 ps)) := by
  unfold alK
  rw [List.take_add_one, h, Option.toList_some, List.all_append, List.all_cons, List.all_nil, Bool.and_true]
theorem pzK_false (ps : List Pt) (k : Nat) : pzK false ps k = ps := by
  unfold pzK
  have e : (noMed false) = id := by funext p; rfl
  rw [e, List.map_id, List.take_append_drop]
theorem PsO.range {w : World} {base g n c i : Nat} {xs : List Pt} {p : Pt} (h : OwnM w base 38 29 (.slice (some ⟨g, 0, none⟩) n c) n (Psv xs)) (hn : xs.length = n) (hi : xs[i]? = some p) : w.rangeAt g (i * 29) p.cs.toList := fun j v hv => by
  have hil : i < n := by rw [← hn]; exact (List.getElem?_eq_some_iff.1 hi).1
  obtain ⟨g2, c2, hv2, _, _, _, _, hc, _⟩ := h.cells (by omega)
  simp only [Value.slice.injEq, Option.some.injEq, Addr.mk.injEq, and_true, true_and] at hv2
  obtain ⟨rfl, rfl⟩ := hv2
  exact hc _ _ (Psv_at xs i p hi j v hv)
set_option maxRecDepth 100000 in
set_option maxHeartbeats 4000000 in
theorem first_loop (A : Option Addr) (cap : Nat) (b : Bool) (xs : List Spt) (w : World) (h : SpAt w A cap xs) :
    Calls Try.prog 4 #[.slice A xs.length cap, .bool b] w fun e w' => e = .returned (.bool true) ∧ Below w.heap.size w w' := by
  have HLI := Lib.hid (list_any2 A cap xs w h)
  have HORD := Lib.hid Order_any
  have HTK := Lib.hid taken_any
  have HBT := Lib.hid Better_any
  have HWK := Lib.hid works_any
  have HNE := Lib.hid neighbour_any
  have HDE := Lib.hid degree_any
  have HLE := Lib.hid length_any
  clear h
  go_enter Try.func4, Try.ntmps4
  go_wp2_with fail
  refine HLI.out.mono ?_
  rintro e w1 ⟨v, ps, rfl, hown, hall, hok, hbl, hb⟩
  obtain ⟨A1, c1, rfl⟩ := OwnM.form hown
  have HO1 : Hid (OwnM w1 w.heap.size 38 29 (.slice A1 ps.length c1) ps.length (Psv (pzK b ps 0))) := hown
  have HIDS := Lib.hid hall.ids
  have HOK1 := Lib.hid hok
  have HBL := Lib.hid hbl
  have HB1 := Lib.hid hb
  have hn10 : ps.length ≤ 10 := by rw [hall.1]; omega
  clear hown hall hok hbl hb HLI
  go_wp2_with fail
  go_loopw [6, 7] (fun o i wr => ∃ k : Nat, k ≤ ps.length ∧ i = .int .i64 k ∧ o = .bool (alK ps k) ∧ Hid (OwnM wr w.heap.size 38 29 (.slice A1 ps.length c1) ps.length (Psv (pzK b ps k))) ∧ Hid (∀ p ∈ ps, PtOk wr p) ∧ Hid (Below w.heap.size w wr)) (fun _ i _ => ps.length + 1 - (intOf i).toNat)
  case atStart => exact ⟨0, by omega, rfl, rfl, HO1.out, HOK1.out, HB1.out⟩
  case round =>
    obtain ⟨k, hk, rfl, rfl, HO, HOK, HB⟩ := hrel
    clear HO1 HOK1 HB1
    have hsr := HB.out.size
    by_cases hlt : k < ps.length
    · obtain ⟨p, hp⟩ : ∃ p, ps[k]? = some p := ⟨ps[k], List.getElem?_eq_getElem hlt⟩
      obtain ⟨p0, hp0⟩ : ∃ p, ps[0]? = some p := ⟨ps[0], List.getElem?_eq_getElem (by omega)⟩
      obtain ⟨g, c2, hv, hg0, hg1, hgc, hgm, _, _⟩ := HO.out.cells (by omega)
      simp only [Value.slice.injEq, true_and] at hv
      obtain ⟨rfl, rfl⟩ := hv
      have hn0 : 0 < ps.length := by omega
      have HP := Lib.hid hp
      have HN0 : Hid (nei0 ps = neiF p0) := by
        show _ = _
        cases ps with
        | nil => cases hp0
        | cons q r => obtain rfl : q = p0 := Option.some.inj hp0; rfl
      have HAL := Lib.hid (alK_succ hp)
      have HPK : Hid ((pzK b ps k)[k]? = some p) := pzK_at hp
      have HLN : Hid ((pzK b ps k).length = ps.length) := pzK_len b ps k
      have hmp := List.mem_of_getElem? hp
      have hmp0 := List.mem_of_getElem? hp0
      have HM := Lib.hid (And.intro hmp hmp0)
      obtain ⟨q0, hq0, hqn, hqe⟩ := pzK_nei (b := b) (k := k + 1) hp0
      have HQ0 := Lib.hid hq0
      have HQN := Lib.hid hqn
      have HQE := Lib.hid hqe
      clear hp hp0 hmp hmp0 hq0 hqn hqe
      generalize hal : alK ps k = al at HAL
      have HZA := Lib.hid hal
      clear hal
      cases b with
      | false =>
        have HOV : Hid (OwnM wr w.heap.size 38 29 (.slice (some ⟨g, 0, none⟩) ps.length c1) ps.length (Psv (pzK false ps (k + 1)))) := by
          show OwnM _ _ _ _ _ _ _
          have h := HO.out
          rw [pzK_false] at h ⊢
          exact h
        have HKV : Hid ((pzK false ps (k + 1))[k]? = some (noMed false p)) := by
          show _ = _
          rw [pzK_false]
          exact HP.out
        have HOKV := HOK
        have HBV := HB
        have hsV : w.heap.size ≤ wr.heap.size := hsr
        have HRK := Lib.hid (PsO.range HOV.out (pzK_len _ _ _) HKV.out)
        have HR0 : Hid (wr.rangeAt g 0 q0.cs.toList) := by
          have h := PsO.range HOV.out (pzK_len _ _ _) HQ0.out
          rwa [Nat.zero_mul] at h
        have hgV : g < wr.heap.size := by
          obtain ⟨_, _, hv2, _, hg2, _⟩ := HOV.out.cells (by omega)
          simp only [Value.slice.injEq, Option.some.injEq, Addr.mk.injEq, and_true, true_and] at hv2
          rw [hv2.1]
          exact hg2
        have HOKQ : Hid (PtOk wr q0) := by
          rcases HQE.out with h | h
          · rw [h]; exact HOKV.out _ HM.out.2
          · rw [h]; exact noMed_ok _ (HOKV.out _ HM.out.2)
        cases al with
        | false =>
          go_wp2_with fail
          refine wp_region_held_drew (S := fun w' => Below wr.heap.size wr w') (by as_aux_lemma => kernel_rfl) (below_drewN (Below.refl _ _) 1) (fun hHeld => ?_)
          refine wpAnyH_take (i := 0) (oi := { dst := some 32, op := Op.move (Operand.tmp 6), type := 4, pos := "outright.go:121", after := #[], guard := none }) (v := ?_) rfl (by as_aux_lemma => kernel_rfl) (by as_aux_lemma => kernel_rfl) (by as_aux_lemma => kernel_rfl) (fun _ _ _ h => h) (Or.inl ⟨by rfl, ?_⟩) hHeld ?_
          rotate_left
          · intro w hSw
            clear hSw
            go_simp
            try with_reducible rfl
          try simp only [Act.put, List.setIfInBounds_toArray, List.set_cons_zero, List.set_cons_succ]
          refine wpAnyH_take (i := 1) (oi := { dst := some 33, op := Op.move (Operand.tmp 32), type := 4, pos := "outright.go:121", after := #[{ on := 0, ground := Ground.data }], guard := none }) (v := ?_) rfl (by as_aux_lemma => kernel_rfl) (by as_aux_lemma => kernel_rfl) (by as_aux_lemma => kernel_rfl) (fun _ _ _ h => h) (Or.inl ⟨by rfl, ?_⟩) hHeld ?_
          rotate_left
          · intro w hSw
            clear hSw
            go_simp
            try with_reducible rfl
          try simp only [Act.put, List.setIfInBounds_toArray, List.set_cons_zero, List.set_cons_succ]
          refine wpAnyH_take (i := 2) (oi := { dst := some 34, op := Op.move (Operand.tmp 5), type := 23, pos := "outright.go:121", after := #[{ on := 1, ground := Ground.guard }], guard := some (1, true) }) (v := undef) rfl (by as_aux_lemma => kernel_rfl) (by as_aux_lemma => kernel_rfl) (by as_aux_lemma => kernel_rfl) (fun _ _ _ h => h) (Or.inr ⟨by rfl, rfl⟩) hHeld ?_
          try simp only [Act.put, List.setIfInBounds_toArray, List.set_cons_zero, List.set_cons_succ]
          refine wpAnyH_take (i := 3) (oi := { dst := some 35, op := Op.move (Operand.tmp 7), type := 3, pos := "outright.go:121", after := #[{ on := 1, ground := Ground.guard }], guard := some (1, true) }) (v := undef) rfl (by as_aux_lemma => kernel_rfl) (by as_aux_lemma => kernel_rfl) (by as_aux_lemma => kernel_rfl) (fun _ _ _ h => h) (Or.inr ⟨by rfl, rfl⟩) hHeld ?_
          try simp only [Act.put, List.setIfInBounds_toArray, List.set_cons_zero, List.set_cons_succ]
          refine wpAnyH_take (i := 4) (oi := { dst := some 36, op := Op.indexAddr 23 (Operand.tmp 34) (Operand.tmp 35), type := 0, pos := "outright.go:121", after := #[{ on := 2, ground := Ground.data }, { on := 3, ground := Ground.data }, { on := 1, ground := Ground.guard }], guard := some (1, true) }) (v := undef) rfl (by as_aux_lemma => kernel_rfl) (by as_aux_lemma => kernel_rfl) (by as_aux_lemma => kernel_rfl) (fun _ _ _ h => h) (Or.inr ⟨by rfl, rfl⟩) hHeld ?_
          try simp only [Act.put, List.setIfInBounds_toArray, List.set_cons_zero, List.set_cons_succ]
          refine wpAnyH_take (i := 5) (oi := { dst := some 37, op := Op.load 38 (Operand.tmp 36), type := 38, pos := "outright.go:121", after := #[{ on := 4, ground := Ground.data }, { on := 1, ground := Ground.guard }], guard := some (1, true) }) (v := undef) rfl (by as_aux_lemma => kernel_rfl) (by as_aux_lemma => kernel_rfl) (by as_aux_lemma => kernel_rfl) (fun _ _ _ h => h) (Or.inr ⟨by rfl, rfl⟩) hHeld ?_
          try simp only [Act.put, List.setIfInBounds_toArray, List.set_cons_zero, List.set_cons_succ]
          refine wpAnyH_take (i := 6) (oi := { dst := some 38, op := Op.call { callee := Callee.value (Operand.func 14), args := #[Operand.tmp 37], argTypes := #[38] }, type := 28, pos := "outright.go:121", after := #[{ on := 5, ground := Ground.data }, { on := 1, ground := Ground.chain }, { on := 1, ground := Ground.guard }], guard := some (1, true) }) (v := undef) rfl (by as_aux_lemma => kernel_rfl) (by as_aux_lemma => kernel_rfl) (by as_aux_lemma => kernel_rfl) (fun _ _ _ h => h) (Or.inr ⟨by rfl, rfl⟩) hHeld ?_
          try simp only [Act.put, List.setIfInBounds_toArray, List.set_cons_zero, List.set_cons_succ]
          refine wpAnyH_take (i := 7) (oi := { dst := some 39, op := Op.move (Operand.tmp 5), type := 23, pos := "outright.go:121", after := #[{ on := 1, ground := Ground.guard }], guard := some (1, true) }) (v := undef) rfl (by as_aux_lemma => kernel_rfl) (by as_aux_lemma => kernel_rfl) (by as_aux_lemma => kernel_rfl) (fun _ _ _ h => h) (Or.inr ⟨by rfl, rfl⟩) hHeld ?_
          try simp only [Act.put, List.setIfInBounds_toArray, List.set_cons_zero, List.set_cons_succ]
          refine wpAnyH_take (i := 8) (oi := { dst := some 40, op := Op.indexAddr 23 (Operand.tmp 39) (Operand.const (Value.int IntKind.i64 0)), type := 0, pos := "outright.go:121", after := #[{ on := 7, ground := Ground.data }, { on := 1, ground := Ground.guard }], guard := some (1, true) }) (v := undef) rfl (by as_aux_lemma => kernel_rfl) (by as_aux_lemma => kernel_rfl) (by as_aux_lemma => kernel_rfl) (fun _ _ _ h => h) (Or.inr ⟨by rfl, rfl⟩) hHeld ?_
          try simp only [Act.put, List.setIfInBounds_toArray, List.set_cons_zero, List.set_cons_succ]
          refine wpAnyH_take (i := 9) (oi := { dst := some 41, op := Op.load 38 (Operand.tmp 40), type := 38, pos := "outright.go:121", after := #[{ on := 8, ground := Ground.data }, { on := 1, ground := Ground.guard }], guard := some (1, true) }) (v := undef) rfl (by as_aux_lemma => kernel_rfl) (by as_aux_lemma => kernel_rfl) (by as_aux_lemma => kernel_rfl) (fun _ _ _ h => h) (Or.inr ⟨by rfl, rfl⟩) hHeld ?_
          try simp only [Act.put, List.setIfInBounds_toArray, List.set_cons_zero, List.set_cons_succ]
          refine wpAnyH_take (i := 10) (oi := { dst := some 42, op := Op.call { callee := Callee.value (Operand.func 14), args := #[Operand.tmp 41], argTypes := #[38] }, type := 28, pos := "outright.go:121", after := #[{ on := 9, ground := Ground.data }, { on := 6, ground := Ground.chain }, { on := 1, ground := Ground.guard }], guard := some (1, true) }) (v := undef) rfl (by as_aux_lemma => kernel_rfl) (by as_aux_lemma => kernel_rfl) (by as_aux_lemma => kernel_rfl) (fun _ _ _ h => h) (Or.inr ⟨by rfl, rfl⟩) hHeld ?_
          try simp only [Act.put, List.setIfInBounds_toArray, List.set_cons_zero, List.set_cons_succ]
          refine wpAnyH_take (i := 11) (oi := { dst := some 43, op := Op.binOp BinOp.eql 28 (Operand.tmp 38) (Operand.tmp 42) 28, type := 4, pos := "outright.go:121", after := #[{ on := 6, ground := Ground.data }, { on := 10, ground := Ground.data }, { on := 1, ground := Ground.guard }], guard := some (1, true) }) (v := undef) rfl (by as_aux_lemma => kernel_rfl) (by as_aux_lemma => kernel_rfl) (by as_aux_lemma => kernel_rfl) (fun _ _ _ h => h) (Or.inr ⟨by rfl, rfl⟩) hHeld ?_
          try simp only [Act.put, List.setIfInBounds_toArray, List.set_cons_zero, List.set_cons_succ]
          refine wpAnyH_take (i := 12) (oi := { dst := some 44, op := Op.pick (Operand.tmp 33) (Operand.tmp 43) (Operand.const (Value.bool false)), type := 4, pos := "outright.go:121", after := #[{ on := 1, ground := Ground.data }, { on := 11, ground := Ground.data }], guard := none }) (v := ?_) rfl (by as_aux_lemma => kernel_rfl) (by as_aux_lemma => kernel_rfl) (by as_aux_lemma => kernel_rfl) (fun _ _ _ h => h) (Or.inl ⟨by rfl, ?_⟩) hHeld ?_
          rotate_left
          · intro w hSw
            clear hSw
            go_simp
            try with_reducible rfl
          try simp only [Act.put, List.setIfInBounds_toArray, List.set_cons_zero, List.set_cons_succ]
          refine wpAnyH_take (i := 13) (oi := { dst := some 6, op := Op.assign (Operand.tmp 44), type := 4, pos := "outright.go:121", after := #[{ on := 12, ground := Ground.data }, { on := 10, ground := Ground.chain }, { on := 0, ground := Ground.phase }, { on := 1, ground := Ground.phase }, { on := 2, ground := Ground.phase }, { on := 3, ground := Ground.phase }, { on := 4, ground := Ground.phase }, { on := 5, ground := Ground.phase }, { on := 6, ground := Ground.phase }, { on := 7, ground := Ground.phase }, { on := 8, ground := Ground.phase }, { on := 9, ground := Ground.phase }, { on := 10, ground := Ground.phase }, { on := 11, ground := Ground.phase }, { on := 12, ground := Ground.phase }], guard := none }) (v := ?_) rfl (by as_aux_lemma => kernel_rfl) (by as_aux_lemma => kernel_rfl) (by as_aux_lemma => kernel_rfl) (fun _ _ _ h => h) (Or.inl ⟨by rfl, ?_⟩) hHeld ?_
          rotate_left
          · intro w hSw
            clear hSw
            go_simp
            try with_reducible rfl
          try simp only [Act.put, List.setIfInBounds_toArray, List.set_cons_zero, List.set_cons_succ]
          refine wpAnyH_done (by as_aux_lemma => kernel_rfl) ?_ _
          have HBZ := Lib.hid hHeld
          clear hHeld
          go_wp2_with fail
          exact ⟨⟨k + 1, by omega, by go_num, by rw [HAL.out]; rfl, HOV.out.below HBZ.out (Nat.le_refl _), fun q hq => (HOKV.out q hq).below HBZ.out (Nat.le_refl _), HBV.out.trans (HBZ.out.mono hsV)⟩, by simp [intOf]; omega⟩
        | true =>
          by_cases he : neiF p = neiF p0
          · have HAZ : Hid (alK ps (k + 1) = true) := by
              show _ = _
              rw [HAL.out, HN0.out, he]
              simp
            go_wp2_with fail
            refine wp_region_held_drew (S := fun w' => Below wr.heap.size wr w') (by as_aux_lemma => kernel_rfl) (below_drewN (Below.refl _ _) 1) (fun hHeld => ?_)
            refine wpAnyH_take (i := 0) (oi := { dst := some 32, op := Op.move (Operand.tmp 6), type := 4, pos := "outright.go:121", after := #[], guard := none }) (v := ?_) rfl (by as_aux_lemma => kernel_rfl) (by as_aux_lemma => kernel_rfl) (by as_aux_lemma => kernel_rfl) (fun _ _ _ h => h) (Or.inl ⟨by rfl, ?_⟩) hHeld ?_
            rotate_left
            · intro w hSw
              clear hSw
              go_simp
              try with_reducible rfl
            try simp only [Act.put, List.setIfInBounds_toArray, List.set_cons_zero, List.set_cons_succ]
            refine wpAnyH_take (i := 1) (oi := { dst := some 33, op := Op.move (Operand.tmp 32), type := 4, pos := "outright.go:121", after := #[{ on := 0, ground := Ground.data }], guard := none }) (v := ?_) rfl (by as_aux_lemma => kernel_rfl) (by as_aux_lemma => kernel_rfl) (by as_aux_lemma => kernel_rfl) (fun _ _ _ h => h) (Or.inl ⟨by rfl, ?_⟩) hHeld ?_
            rotate_left
            · intro w hSw
              clear hSw
              go_simp
              try with_reducible rfl
            try simp only [Act.put, List.setIfInBounds_toArray, List.set_cons_zero, List.set_cons_succ]
            refine wpAnyH_take (i := 2) (oi := { dst := some 34, op := Op.move (Operand.tmp 5), type := 23, pos := "outright.go:121", after := #[{ on := 1, ground := Ground.guard }], guard := some (1, true) }) (v := ?_) rfl (by as_aux_lemma => kernel_rfl) (by as_aux_lemma => kernel_rfl) (by as_aux_lemma => kernel_rfl) (fun _ _ _ h => h) (Or.inl ⟨by rfl, ?_⟩) hHeld ?_
            rotate_left
            · intro w hSw
              clear hSw
              go_simp
              try with_reducible rfl
            try simp only [Act.put, List.setIfInBounds_toArray, List.set_cons_zero, List.set_cons_succ]
            refine wpAnyH_take (i := 3) (oi := { dst := some 35, op := Op.move (Operand.tmp 7), type := 3, pos := "outright.go:121", after := #[{ on := 1, ground := Ground.guard }], guard := some (1, true) }) (v := ?_) rfl (by as_aux_lemma => kernel_rfl) (by as_aux_lemma => kernel_rfl) (by as_aux_lemma => kernel_rfl) (fun _ _ _ h => h) (Or.inl ⟨by rfl, ?_⟩) hHeld ?_
            rotate_left
            · intro w hSw
              clear hSw
              go_simp
              try with_reducible rfl
            try simp only [Act.put, List.setIfInBounds_toArray, List.set_cons_zero, List.set_cons_succ]
            refine wpAnyH_take (i := 4) (oi := { dst := some 36, op := Op.indexAddr 23 (Operand.tmp 34) (Operand.tmp 35), type := 0, pos := "outright.go:121", after := #[{ on := 2, ground := Ground.data }, { on := 3, ground := Ground.data }, { on := 1, ground := Ground.guard }], guard := some (1, true) }) (v := ?_) rfl (by as_aux_lemma => kernel_rfl) (by as_aux_lemma => kernel_rfl) (by as_aux_lemma => kernel_rfl) (fun _ _ _ h => h) (Or.inl ⟨by rfl, ?_⟩) hHeld ?_
            rotate_left
            · intro w hSw
              clear hSw
              go_simp
              try with_reducible rfl
            try simp only [Act.put, List.setIfInBounds_toArray, List.set_cons_zero, List.set_cons_succ]
            refine wpAnyH_take (i := 5) (oi := { dst := some 37, op := Op.load 38 (Operand.tmp 36), type := 38, pos := "outright.go:121", after := #[{ on := 4, ground := Ground.data }, { on := 1, ground := Ground.guard }], guard := some (1, true) }) (v := (noMed false p).v) rfl (by as_aux_lemma => kernel_rfl) (by as_aux_lemma => kernel_rfl) (by as_aux_lemma => kernel_rfl) (fun _ _ _ h => h) (yields_prange (by rfl) _ rfl g (k * 29) (by rfl) (noMed false p) (fun w h => rangeAt_below HRK.out h hgV)) hHeld ?_
            try simp only [Act.put, List.setIfInBounds_toArray, List.set_cons_zero, List.set_cons_succ]
            refine wpAnyH_take (i := 7) (oi := { dst := some 39, op := Op.move (Operand.tmp 5), type := 23, pos := "outright.go:121", after := #[{ on := 1, ground := Ground.guard }], guard := some (1, true) }) (v := ?_) rfl (by as_aux_lemma => kernel_rfl) (by as_aux_lemma => kernel_rfl) (by as_aux_lemma => kernel_rfl) (fun _ _ _ h => h) (Or.inl ⟨by rfl, ?_⟩) hHeld ?_
            rotate_left
            · intro w hSw
              clear hSw
              go_simp
              try with_reducible rfl
            try simp only [Act.put, List.setIfInBounds_toArray, List.set_cons_zero, List.set_cons_succ]
            refine wpAnyH_take (i := 8) (oi := { dst := some 40, op := Op.indexAddr 23 (Operand.tmp 39) (Operand.const (Value.int IntKind.i64 0)), type := 0, pos := "outright.go:121", after := #[{ on := 7, ground := Ground.data }, { on := 1, ground := Ground.guard }], guard := some (1, true) }) (v := ?_) rfl (by as_aux_lemma => kernel_rfl) (by as_aux_lemma => kernel_rfl) (by as_aux_lemma => kernel_rfl) (fun _ _ _ h => h) (Or.inl ⟨by rfl, ?_⟩) hHeld ?_
            rotate_left
            · intro w hSw
              clear hSw
              go_simp
              try with_reducible rfl
            try simp only [Act.put, List.setIfInBounds_toArray, List.set_cons_zero, List.set_cons_succ]
            refine wpAnyH_take (i := 9) (oi := { dst := some 41, op := Op.load 38 (Operand.tmp 40), type := 38, pos := "outright.go:121", after := #[{ on := 8, ground := Ground.data }, { on := 1, ground := Ground.guard }], guard := some (1, true) }) (v := q0.v) rfl (by as_aux_lemma => kernel_rfl) (by as_aux_lemma => kernel_rfl) (by as_aux_lemma => kernel_rfl) (fun _ _ _ h => h) (yields_prange (by rfl) _ rfl g 0 (by rfl) q0 (fun w h => rangeAt_below HR0.out h hgV)) hHeld ?_
            try simp only [Act.put, List.setIfInBounds_toArray, List.set_cons_zero, List.set_cons_succ]
            refine wpAnyH_ready (rs := [6]) (by as_aux_lemma => kernel_rfl) (by simp) ?_
            refine AllReadyH.cons (o := { dst := some 38, op := Op.call { callee := Callee.value (Operand.func 14), args := #[Operand.tmp 37], argTypes := #[38] }, type := 28, pos := "outright.go:121", after := #[{ on := 5, ground := Ground.data }, { on := 1, ground := Ground.chain }, { on := 1, ground := Ground.guard }], guard := some (1, true) }) rfl (fun K hK => ?_) AllReadyH.nil
            go_simp
            refine (HNE.out (noMed false p) _ ((HOKV.out _ HM.out.1).below hHeld (Nat.le_refl _) |> noMed_ok _)).mono ?_
            rintro e w8 ⟨rfl, hb8⟩
            rw [noMed_nei, he]
            go_wp2_with fail
            refine hK.out _ _ (hHeld.trans (hb8.mono hHeld.size)) (fun hHeld => ?_)
            clear hK K
            try simp only [Act.put, List.setIfInBounds_toArray, List.set_cons_zero, List.set_cons_succ]
            refine wpAnyH_ready (rs := [10]) (by as_aux_lemma => kernel_rfl) (by simp) ?_
            refine AllReadyH.cons (o := { dst := some 42, op := Op.call { callee := Callee.value (Operand.func 14), args := #[Operand.tmp 41], argTypes := #[38] }, type := 28, pos := "outright.go:121", after := #[{ on := 9, ground := Ground.data }, { on := 6, ground := Ground.chain }, { on := 1, ground := Ground.guard }], guard := some (1, true) }) rfl (fun K hK => ?_) AllReadyH.nil
            go_simp
            refine (HNE.out q0 _ ((HOKQ.out).below hHeld (Nat.le_refl _))).mono ?_
            rintro e w9 ⟨rfl, hb9⟩
            rw [HQN.out]
            go_wp2_with fail
            refine hK.out _ _ (hHeld.trans (hb9.mono hHeld.size)) (fun hHeld => ?_)
            clear hK K
            try simp only [Act.put, List.setIfInBounds_toArray, List.set_cons_zero, List.set_cons_succ]
            refine wpAnyH_take (i := 11) (oi := { dst := some 43, op := Op.binOp BinOp.eql 28 (Operand.tmp 38) (Operand.tmp 42) 28, type := 4, pos := "outright.go:121", after := #[{ on := 6, ground := Ground.data }, { on := 10, ground := Ground.data }, { on := 1, ground := Ground.guard }], guard := some (1, true) }) (v := .bool true) rfl (by as_aux_lemma => kernel_rfl) (by as_aux_lemma => kernel_rfl) (by as_aux_lemma => kernel_rfl) (fun _ _ _ h => h) (Or.inl ⟨by rfl, ?_⟩) hHeld ?_
            · intro w hSw
              clear hSw
              go_simp
              all_goals first | rfl | simp
            try simp only [Act.put, List.setIfInBounds_toArray, List.set_cons_zero, List.set_cons_succ]
            refine wpAnyH_take (i := 12) (oi := { dst := some 44, op := Op.pick (Operand.tmp 33) (Operand.tmp 43) (Operand.const (Value.bool false)), type := 4, pos := "outright.go:121", after := #[{ on := 1, ground := Ground.data }, { on := 11, ground := Ground.data }], guard := none }) (v := ?_) rfl (by as_aux_lemma => kernel_rfl) (by as_aux_lemma => kernel_rfl) (by as_aux_lemma => kernel_rfl) (fun _ _ _ h => h) (Or.inl ⟨by rfl, ?_⟩) hHeld ?_
            rotate_left
            · intro w hSw
              clear hSw
              go_simp
              try with_reducible rfl
            try simp only [Act.put, List.setIfInBounds_toArray, List.set_cons_zero, List.set_cons_succ]
            refine wpAnyH_take (i := 13) (oi := { dst := some 6, op := Op.assign (Operand.tmp 44), type := 4, pos := "outright.go:121", after := #[{ on := 12, ground := Ground.data }, { on := 10, ground := Ground.chain }, { on := 0, ground := Ground.phase }, { on := 1, ground := Ground.phase }, { on := 2, ground := Ground.phase }, { on := 3, ground := Ground.phase }, { on := 4, ground := Ground.phase }, { on := 5, ground := Ground.phase }, { on := 6, ground := Ground.phase }, { on := 7, ground := Ground.phase }, { on := 8, ground := Ground.phase }, { on := 9, ground := Ground.phase }, { on := 10, ground := Ground.phase }, { on := 11, ground := Ground.phase }, { on := 12, ground := Ground.phase }], guard := none }) (v := ?_) rfl (by as_aux_lemma => kernel_rfl) (by as_aux_lemma => kernel_rfl) (by as_aux_lemma => kernel_rfl) (fun _ _ _ h => h) (Or.inl ⟨by rfl, ?_⟩) hHeld ?_
            rotate_left
            · intro w hSw
              clear hSw
              go_simp
              try with_reducible rfl
            try simp only [Act.put, List.setIfInBounds_toArray, List.set_cons_zero, List.set_cons_succ]
            refine wpAnyH_done (by as_aux_lemma => kernel_rfl) ?_ _
            have HBZ := Lib.hid hHeld
            clear hHeld
            go_wp2_with fail
            exact ⟨⟨k + 1, by omega, by go_num, by rw [HAZ.out], HOV.out.below HBZ.out (Nat.le_refl _), fun q hq => (HOKV.out q hq).below HBZ.out (Nat.le_refl _), HBV.out.trans (HBZ.out.mono hsV)⟩, by simp [intOf]; omega⟩
          · have HAZ : Hid (alK ps (k + 1) = false) := by
              show _ = _
              rw [HAL.out, HN0.out, beq_eq_false_iff_ne.2 he]
              rfl
            have hbe : (((neiF p : Nat) : Int) == ((neiF p0 : Nat) : Int)) = false := by rw [beq_eq_false_iff_ne]; omega
            go_wp2_with fail
            refine wp_region_held_drew (S := fun w' => Below wr.heap.size wr w') (by as_aux_lemma => kernel_rfl) (below_drewN (Below.refl _ _) 1) (fun hHeld => ?_)
            refine wpAnyH_take (i := 0) (oi := { dst := some 32, op := Op.move (Operand.tmp 6), type := 4, pos := "outright.go:121", after := #[], guard := none }) (v := ?_) rfl (by as_aux_lemma => kernel_rfl) (by as_aux_lemma => kernel_rfl) (by as_aux_lemma => kernel_rfl) (fun _ _ _ h => h) (Or.inl ⟨by rfl, ?_⟩) hHeld ?_
            rotate_left
            · intro w hSw
              clear hSw
              go_simp
              try with_reducible rfl
            try simp only [Act.put, List.setIfInBounds_toArray, List.set_cons_zero, List.set_cons_succ]
            refine wpAnyH_take (i := 1) (oi := { dst := some 33, op := Op.move (Operand.tmp 32), type := 4, pos := "outright.go:121", after := #[{ on := 0, ground := Ground.data }], guard := none }) (v := ?_) rfl (by as_aux_lemma => kernel_rfl) (by as_aux_lemma => kernel_rfl) (by as_aux_lemma => kernel_rfl) (fun _ _ _ h => h) (Or.inl ⟨by rfl, ?_⟩) hHeld ?_
            rotate_left
            · intro w hSw
              clear hSw
              go_simp
              try with_reducible rfl
            try simp only [Act.put, List.setIfInBounds_toArray, List.set_cons_zero, List.set_cons_succ]
            refine wpAnyH_take (i := 2) (oi := { dst := some 34, op := Op.move (Operand.tmp 5), type := 23, pos := "outright.go:121", after := #[{ on := 1, ground := Ground.guard }], guard := some (1, true) }) (v := ?_) rfl (by as_aux_lemma => kernel_rfl) (by as_aux_lemma => kernel_rfl) (by as_aux_lemma => kernel_rfl) (fun _ _ _ h => h) (Or.inl ⟨by rfl, ?_⟩) hHeld ?_
            rotate_left
            · intro w hSw
              clear hSw
              go_simp
              try with_reducible rfl
            try simp only [Act.put, List.setIfInBounds_toArray, List.set_cons_zero, List.set_cons_succ]
            refine wpAnyH_take (i := 3) (oi := { dst := some 35, op := Op.move (Operand.tmp 7), type := 3, pos := "outright.go:121", after := #[{ on := 1, ground := Ground.guard }], guard := some (1, true) }) (v := ?_) rfl (by as_aux_lemma => kernel_rfl) (by as_aux_lemma => kernel_rfl) (by as_aux_lemma => kernel_rfl) (fun _ _ _ h => h) (Or.inl ⟨by rfl, ?_⟩) hHeld ?_
            rotate_left
            · intro w hSw
              clear hSw
              go_simp
              try with_reducible rfl
            try simp only [Act.put, List.setIfInBounds_toArray, List.set_cons_zero, List.set_cons_succ]
            refine wpAnyH_take (i := 4) (oi := { dst := some 36, op := Op.indexAddr 23 (Operand.tmp 34) (Operand.tmp 35), type := 0, pos := "outright.go:121", after := #[{ on := 2, ground := Ground.data }, { on := 3, ground := Ground.data }, { on := 1, ground := Ground.guard }], guard := some (1, true) }) (v := ?_) rfl (by as_aux_lemma => kernel_rfl) (by as_aux_lemma => kernel_rfl) (by as_aux_lemma => kernel_rfl) (fun _ _ _ h => h) (Or.inl ⟨by rfl, ?_⟩) hHeld ?_
            rotate_left
            · intro w hSw
              clear hSw
              go_simp
              try with_reducible rfl
            try simp only [Act.put, List.setIfInBounds_toArray, List.set_cons_zero, List.set_cons_succ]
            refine wpAnyH_take (i := 5) (oi := { dst := some 37, op := Op.load 38 (Operand.tmp 36), type := 38, pos := "outright.go:121", after := #[{ on := 4, ground := Ground.data }, { on := 1, ground := Ground.guard }], guard := some (1, true) }) (v := (noMed false p).v) rfl (by as_aux_lemma => kernel_rfl) (by as_aux_lemma => kernel_rfl) (by as_aux_lemma => kernel_rfl) (fun _ _ _ h => h) (yields_prange (by rfl) _ rfl g (k * 29) (by rfl) (noMed false p) (fun w h => rangeAt_below HRK.out h hgV)) hHeld ?_
            try simp only [Act.put, List.setIfInBounds_toArray, List.set_cons_zero, List.set_cons_succ]
            refine wpAnyH_take (i := 7) (oi := { dst := some 39, op := Op.move (Operand.tmp 5), type := 23, pos := "outright.go:121", after := #[{ on := 1, ground := Ground.guard }], guard := some (1, true) }) (v := ?_) rfl (by as_aux_lemma => kernel_rfl) (by as_aux_lemma => kernel_rfl) (by as_aux_lemma => kernel_rfl) (fun _ _ _ h => h) (Or.inl ⟨by rfl, ?_⟩) hHeld ?_
            rotate_left
            · intro w hSw
              clear hSw
              go_simp
              try with_reducible rfl
            try simp only [Act.put, List.setIfInBounds_toArray, List.set_cons_zero, List.set_cons_succ]
            refine wpAnyH_take (i := 8) (oi := { dst := some 40, op := Op.indexAddr 23 (Operand.tmp 39) (Operand.const (Value.int IntKind.i64 0)), type := 0, pos := "outright.go:121", after := #[{ on := 7, ground := Ground.data }, { on := 1, ground := Ground.guard }], guard := some (1, true) }) (v := ?_) rfl (by as_aux_lemma => kernel_rfl) (by as_aux_lemma => kernel_rfl) (by as_aux_lemma => kernel_rfl) (fun _ _ _ h => h) (Or.inl ⟨by rfl, ?_⟩) hHeld ?_
            rotate_left
            · intro w hSw
              clear hSw
              go_simp
              try with_reducible rfl
            try simp only [Act.put, List.setIfInBounds_toArray, List.set_cons_zero, List.set_cons_succ]
            refine wpAnyH_take (i := 9) (oi := { dst := some 41, op := Op.load 38 (Operand.tmp 40), type := 38, pos := "outright.go:121", after := #[{ on := 8, ground := Ground.data }, { on := 1, ground := Ground.guard }], guard := some (1, true) }) (v := q0.v) rfl (by as_aux_lemma => kernel_rfl) (by as_aux_lemma => kernel_rfl) (by as_aux_lemma => kernel_rfl) (fun _ _ _ h => h) (yields_prange (by rfl) _ rfl g 0 (by rfl) q0 (fun w h => rangeAt_below HR0.out h hgV)) hHeld ?_
            try simp only [Act.put, List.setIfInBounds_toArray, List.set_cons_zero, List.set_cons_succ]
            refine wpAnyH_ready (rs := [6]) (by as_aux_lemma => kernel_rfl) (by simp) ?_
            refine AllReadyH.cons (o := { dst := some 38, op := Op.call { callee := Callee.value (Operand.func 14), args := #[Operand.tmp 37], argTypes := #[38] }, type := 28, pos := "outright.go:121", after := #[{ on := 5, ground := Ground.data }, { on := 1, ground := Ground.chain }, { on := 1, ground := Ground.guard }], guard := some (1, true) }) rfl (fun K hK => ?_) AllReadyH.nil
            go_simp
            refine (HNE.out (noMed false p) _ ((HOKV.out _ HM.out.1).below hHeld (Nat.le_refl _) |> noMed_ok _)).mono ?_
            rintro e w8 ⟨rfl, hb8⟩
            rw [noMed_nei]
            go_wp2_with fail
            refine hK.out _ _ (hHeld.trans (hb8.mono hHeld.size)) (fun hHeld => ?_)
            clear hK K
            try simp only [Act.put, List.setIfInBounds_toArray, List.set_cons_zero, List.set_cons_succ]
            refine wpAnyH_ready (rs := [10]) (by as_aux_lemma => kernel_rfl) (by simp) ?_
            refine AllReadyH.cons (o := { dst := some 42, op := Op.call { callee := Callee.value (Operand.func 14), args := #[Operand.tmp 41], argTypes := #[38] }, type := 28, pos := "outright.go:121", after := #[{ on := 9, ground := Ground.data }, { on := 6, ground := Ground.chain }, { on := 1, ground := Ground.guard }], guard := some (1, true) }) rfl (fun K hK => ?_) AllReadyH.nil
            go_simp
            refine (HNE.out q0 _ ((HOKQ.out).below hHeld (Nat.le_refl _))).mono ?_
            rintro e w9 ⟨rfl, hb9⟩
            rw [HQN.out]
            go_wp2_with fail
            refine hK.out _ _ (hHeld.trans (hb9.mono hHeld.size)) (fun hHeld => ?_)
            clear hK K
            try simp only [Act.put, List.setIfInBounds_toArray, List.set_cons_zero, List.set_cons_succ]
            refine wpAnyH_take (i := 11) (oi := { dst := some 43, op := Op.binOp BinOp.eql 28 (Operand.tmp 38) (Operand.tmp 42) 28, type := 4, pos := "outright.go:121", after := #[{ on := 6, ground := Ground.data }, { on := 10, ground := Ground.data }, { on := 1, ground := Ground.guard }], guard := some (1, true) }) (v := .bool false) rfl (by as_aux_lemma => kernel_rfl) (by as_aux_lemma => kernel_rfl) (by as_aux_lemma => kernel_rfl) (fun _ _ _ h => h) (Or.inl ⟨by rfl, ?_⟩) hHeld ?_
            · intro w hSw
              clear hSw
              go_simp
              all_goals first | rfl | simp
            try simp only [Act.put, List.setIfInBounds_toArray, List.set_cons_zero, List.set_cons_succ]
            refine wpAnyH_take (i := 12) (oi := { dst := some 44, op := Op.pick (Operand.tmp 33) (Operand.tmp 43) (Operand.const (Value.bool false)), type := 4, pos := "outright.go:121", after := #[{ on := 1, ground := Ground.data }, { on := 11, ground := Ground.data }], guard := none }) (v := ?_) rfl (by as_aux_lemma => kernel_rfl) (by as_aux_lemma => kernel_rfl) (by as_aux_lemma => kernel_rfl) (fun _ _ _ h => h) (Or.inl ⟨by rfl, ?_⟩) hHeld ?_
            rotate_left
            · intro w hSw
              clear hSw
              go_simp
              try with_reducible rfl
            try simp only [Act.put, List.setIfInBounds_toArray, List.set_cons_zero, List.set_cons_succ]
            refine wpAnyH_take (i := 13) (oi := { dst := some 6, op := Op.assign (Operand.tmp 44), type := 4, pos := "outright.go:121", after := #[{ on := 12, ground := Ground.data }, { on := 10, ground := Ground.chain }, { on := 0, ground := Ground.phase }, { on := 1, ground := Ground.phase }, { on := 2, ground := Ground.phase }, { on := 3, ground := Ground.phase }, { on := 4, ground := Ground.phase }, { on := 5, ground := Ground.phase }, { on := 6, ground := Ground.phase }, { on := 7, ground := Ground.phase }, { on := 8, ground := Ground.phase }, { on := 9, ground := Ground.phase }, { on := 10, ground := Ground.phase }, { on := 11, ground := Ground.phase }, { on := 12, ground := Ground.phase }], guard := none }) (v := ?_) rfl (by as_aux_lemma => kernel_rfl) (by as_aux_lemma => kernel_rfl) (by as_aux_lemma => kernel_rfl) (fun _ _ _ h => h) (Or.inl ⟨by rfl, ?_⟩) hHeld ?_
            rotate_left
            · intro w hSw
              clear hSw
              go_simp
              try with_reducible rfl
            try simp only [Act.put, List.setIfInBounds_toArray, List.set_cons_zero, List.set_cons_succ]
            refine wpAnyH_done (by as_aux_lemma => kernel_rfl) ?_ _
            have HBZ := Lib.hid hHeld
            clear hHeld
            go_wp2_with fail
            exact ⟨⟨k + 1, by omega, by go_num, by rw [HAZ.out], HOV.out.below HBZ.out (Nat.le_refl _), fun q hq => (HOKV.out q hq).below HBZ.out (Nat.le_refl _), HBV.out.trans (HBZ.out.mono hsV)⟩, by simp [intOf]; omega⟩
      | true =>
        have HE1 : Hid (p.cs.setIfInBounds 9 (.bool false) = (noHas p).cs) := by
          show _ = _
          kernel_rfl
        have HE2 : Hid ((noHas p).cs.setIfInBounds 10 (.int .u32 0) = (noMed true p).cs) := by
          show _ = _
          kernel_rfl
        go_wp2_with (with_reducible show wpList _ _ _ (_ :: _) _ _; refine wpList_row_set rfl 4 (.tmp 26) (.const (.bool false)) rfl w.heap.size g ps.length c1 k 9 (pzK true ps k) p (noHas p) (.bool false) (k * 29 + 9) rfl rfl (by kernel_rfl) HO HLN HPK (by omega) (Lib.hid rfl) HE1 rfl ?_)
        intro V1 H1 G1
        have HS1 : Hid (((pzK true ps k).set k (noHas p))[k]? = some (noHas p)) := by
          show _ = _
          rw [List.getElem?_set_self (by rw [pzK_len]; omega)]
        have HLN1 : Hid (((pzK true ps k).set k (noHas p)).length = ps.length) := by
          show _ = _
          rw [List.length_set]
          exact pzK_len true ps k
        go_wp2_with (with_reducible show wpList _ _ _ (_ :: _) _ _; refine wpList_row_set rfl 28 (.tmp 31) (.const (.int .u32 0)) rfl w.heap.size g ps.length c1 k 10 ((pzK true ps k).set k (noHas p)) (noHas p) (noMed true p) (.int .u32 0) (k * 29 + 10) rfl rfl (by kernel_rfl) H1 HLN1 HS1 (by omega) (Lib.hid rfl) HE2 rfl ?_)
        intro V2 H2 G2
        have HOV : Hid (OwnM V2 w.heap.size 38 29 (.slice (some ⟨g, 0, none⟩) ps.length c1) ps.length (Psv (pzK true ps (k + 1)))) := by
          show OwnM _ _ _ _ _ _ _
          have h := H2.out
          rw [pzK_succ HP.out]
          exact h
        have HKV : Hid ((pzK true ps (k + 1))[k]? = some (noMed true p)) := by
          show _ = _
          rw [pzK_succ HP.out, List.getElem?_set_self (by rw [pzK_len]; omega)]
        have HOKV : Hid (∀ q ∈ ps, PtOk V2 q) := fun q hq => ((HOK.out q hq).grown G1.out (fun g' hg' => (HBL.out q hq g' hg').2)).grown G2.out (fun g' hg' => (HBL.out q hq g' hg').2)
        have HBV : Hid (Below w.heap.size w V2) := (HB.out.grown G1.out hsr (fun k hk => by cases hk; exact hg0)).grown G2.out (Nat.le_trans hsr G1.out.size) (fun k hk => by cases hk; exact hg0)
        have hsV := HBV.out.size
        clear H1 H2 G1 G2 HS1 HLN1 HO HOK HB
        have HRK := Lib.hid (PsO.range HOV.out (pzK_len _ _ _) HKV.out)
        have HR0 : Hid (V2.rangeAt g 0 q0.cs.toList) := by
          have h := PsO.range HOV.out (pzK_len _ _ _) HQ0.out
          rwa [Nat.zero_mul] at h
        have hgV : g < V2.heap.size := by
          obtain ⟨_, _, hv2, _, hg2, _⟩ := HOV.out.cells (by omega)
          simp only [Value.slice.injEq, Option.some.injEq, Addr.mk.injEq, and_true, true_and] at hv2
          rw [hv2.1]
          exact hg2
        have HOKQ : Hid (PtOk V2 q0) := by
          rcases HQE.out with h | h
          · rw [h]; exact HOKV.out _ HM.out.2
          · rw [h]; exact noMed_ok _ (HOKV.out _ HM.out.2)
        cases al with
        | false =>
          go_wp2_with fail
          refine wp_region_held_drew (S := fun w' => Below V2.heap.size V2 w') (by as_aux_lemma => kernel_rfl) (below_drewN (Below.refl _ _) 1) (fun hHeld => ?_)
          refine wpAnyH_take (i := 0) (oi := { dst := some 32, op := Op.move (Operand.tmp 6), type := 4, pos := "outright.go:121", after := #[], guard := none }) (v := ?_) rfl (by as_aux_lemma => kernel_rfl) (by as_aux_lemma => kernel_rfl) (by as_aux_lemma => kernel_rfl) (fun _ _ _ h => h) (Or.inl ⟨by rfl, ?_⟩) hHeld ?_
          rotate_left
          · intro w hSw
            clear hSw
            go_simp
            try with_reducible rfl
          try simp only [Act.put, List.setIfInBounds_toArray, List.set_cons_zero, List.set_cons_succ]
          refine wpAnyH_take (i := 1) (oi := { dst := some 33, op := Op.move (Operand.tmp 32), type := 4, pos := "outright.go:121", after := #[{ on := 0, ground := Ground.data }], guard := none }) (v := ?_) rfl (by as_aux_lemma => kernel_rfl) (by as_aux_lemma => kernel_rfl) (by as_aux_lemma => kernel_rfl) (fun _ _ _ h => h) (Or.inl ⟨by rfl, ?_⟩) hHeld ?_
          rotate_left
          · intro w hSw
            clear hSw
            go_simp
            try with_reducible rfl
          try simp only [Act.put, List.setIfInBounds_toArray, List.set_cons_zero, List.set_cons_succ]
          refine wpAnyH_take (i := 2) (oi := { dst := some 34, op := Op.move (Operand.tmp 5), type := 23, pos := "outright.go:121", after := #[{ on := 1, ground := Ground.guard }], guard := some (1, true) }) (v := undef) rfl (by as_aux_lemma => kernel_rfl) (by as_aux_lemma => kernel_rfl) (by as_aux_lemma => kernel_rfl) (fun _ _ _ h => h) (Or.inr ⟨by rfl, rfl⟩) hHeld ?_
          try simp only [Act.put, List.setIfInBounds_toArray, List.set_cons_zero, List.set_cons_succ]
          refine wpAnyH_take (i := 3) (oi := { dst := some 35, op := Op.move (Operand.tmp 7), type := 3, pos := "outright.go:121", after := #[{ on := 1, ground := Ground.guard }], guard := some (1, true) }) (v := undef) rfl (by as_aux_lemma => kernel_rfl) (by as_aux_lemma => kernel_rfl) (by as_aux_lemma => kernel_rfl) (fun _ _ _ h => h) (Or.inr ⟨by rfl, rfl⟩) hHeld ?_
          try simp only [Act.put, List.setIfInBounds_toArray, List.set_cons_zero, List.set_cons_succ]
          refine wpAnyH_take (i := 4) (oi := { dst := some 36, op := Op.indexAddr 23 (Operand.tmp 34) (Operand.tmp 35), type := 0, pos := "outright.go:121", after := #[{ on := 2, ground := Ground.data }, { on := 3, ground := Ground.data }, { on := 1, ground := Ground.guard }], guard := some (1, true) }) (v := undef) rfl (by as_aux_lemma => kernel_rfl) (by as_aux_lemma => kernel_rfl) (by as_aux_lemma => kernel_rfl) (fun _ _ _ h => h) (Or.inr ⟨by rfl, rfl⟩) hHeld ?_
          try simp only [Act.put, List.setIfInBounds_toArray, List.set_cons_zero, List.set_cons_succ]
          refine wpAnyH_take (i := 5) (oi := { dst := some 37, op := Op.load 38 (Operand.tmp 36), type := 38, pos := "outright.go:121", after := #[{ on := 4, ground := Ground.data }, { on := 1, ground := Ground.guard }], guard := some (1, true) }) (v := undef) rfl (by as_aux_lemma => kernel_rfl) (by as_aux_lemma => kernel_rfl) (by as_aux_lemma => kernel_rfl) (fun _ _ _ h => h) (Or.inr ⟨by rfl, rfl⟩) hHeld ?_
          try simp only [Act.put, List.setIfInBounds_toArray, List.set_cons_zero, List.set_cons_succ]
          refine wpAnyH_take (i := 6) (oi := { dst := some 38, op := Op.call { callee := Callee.value (Operand.func 14), args := #[Operand.tmp 37], argTypes := #[38] }, type := 28, pos := "outright.go:121", after := #[{ on := 5, ground := Ground.data }, { on := 1, ground := Ground.chain }, { on := 1, ground := Ground.guard }], guard := some (1, true) }) (v := undef) rfl (by as_aux_lemma => kernel_rfl) (by as_aux_lemma => kernel_rfl) (by as_aux_lemma => kernel_rfl) (fun _ _ _ h => h) (Or.inr ⟨by rfl, rfl⟩) hHeld ?_
          try simp only [Act.put, List.setIfInBounds_toArray, List.set_cons_zero, List.set_cons_succ]
          refine wpAnyH_take (i := 7) (oi := { dst := some 39, op := Op.move (Operand.tmp 5), type := 23, pos := "outright.go:121", after := #[{ on := 1, ground := Ground.guard }], guard := some (1, true) }) (v := undef) rfl (by as_aux_lemma => kernel_rfl) (by as_aux_lemma => kernel_rfl) (by as_aux_lemma => kernel_rfl) (fun _ _ _ h => h) (Or.inr ⟨by rfl, rfl⟩) hHeld ?_
          try simp only [Act.put, List.setIfInBounds_toArray, List.set_cons_zero, List.set_cons_succ]
          refine wpAnyH_take (i := 8) (oi := { dst := some 40, op := Op.indexAddr 23 (Operand.tmp 39) (Operand.const (Value.int IntKind.i64 0)), type := 0, pos := "outright.go:121", after := #[{ on := 7, ground := Ground.data }, { on := 1, ground := Ground.guard }], guard := some (1, true) }) (v := undef) rfl (by as_aux_lemma => kernel_rfl) (by as_aux_lemma => kernel_rfl) (by as_aux_lemma => kernel_rfl) (fun _ _ _ h => h) (Or.inr ⟨by rfl, rfl⟩) hHeld ?_
          try simp only [Act.put, List.setIfInBounds_toArray, List.set_cons_zero, List.set_cons_succ]
          refine wpAnyH_take (i := 9) (oi := { dst := some 41, op := Op.load 38 (Operand.tmp 40), type := 38, pos := "outright.go:121", after := #[{ on := 8, ground := Ground.data }, { on := 1, ground := Ground.guard }], guard := some (1, true) }) (v := undef) rfl (by as_aux_lemma => kernel_rfl) (by as_aux_lemma => kernel_rfl) (by as_aux_lemma => kernel_rfl) (fun _ _ _ h => h) (Or.inr ⟨by rfl, rfl⟩) hHeld ?_
          try simp only [Act.put, List.setIfInBounds_toArray, List.set_cons_zero, List.set_cons_succ]
          refine wpAnyH_take (i := 10) (oi := { dst := some 42, op := Op.call { callee := Callee.value (Operand.func 14), args := #[Operand.tmp 41], argTypes := #[38] }, type := 28, pos := "outright.go:121", after := #[{ on := 9, ground := Ground.data }, { on := 6, ground := Ground.chain }, { on := 1, ground := Ground.guard }], guard := some (1, true) }) (v := undef) rfl (by as_aux_lemma => kernel_rfl) (by as_aux_lemma => kernel_rfl) (by as_aux_lemma => kernel_rfl) (fun _ _ _ h => h) (Or.inr ⟨by rfl, rfl⟩) hHeld ?_
          try simp only [Act.put, List.setIfInBounds_toArray, List.set_cons_zero, List.set_cons_succ]
          refine wpAnyH_take (i := 11) (oi := { dst := some 43, op := Op.binOp BinOp.eql 28 (Operand.tmp 38) (Operand.tmp 42) 28, type := 4, pos := "outright.go:121", after := #[{ on := 6, ground := Ground.data }, { on := 10, ground := Ground.data }, { on := 1, ground := Ground.guard }], guard := some (1, true) }) (v := undef) rfl (by as_aux_lemma => kernel_rfl) (by as_aux_lemma => kernel_rfl) (by as_aux_lemma => kernel_rfl) (fun _ _ _ h => h) (Or.inr ⟨by rfl, rfl⟩) hHeld ?_
          try simp only [Act.put, List.setIfInBounds_toArray, List.set_cons_zero, List.set_cons_succ]
          refine wpAnyH_take (i := 12) (oi := { dst := some 44, op := Op.pick (Operand.tmp 33) (Operand.tmp 43) (Operand.const (Value.bool false)), type := 4, pos := "outright.go:121", after := #[{ on := 1, ground := Ground.data }, { on := 11, ground := Ground.data }], guard := none }) (v := ?_) rfl (by as_aux_lemma => kernel_rfl) (by as_aux_lemma => kernel_rfl) (by as_aux_lemma => kernel_rfl) (fun _ _ _ h => h) (Or.inl ⟨by rfl, ?_⟩) hHeld ?_
          rotate_left
          · intro w hSw
            clear hSw
            go_simp
            try with_reducible rfl
          try simp only [Act.put, List.setIfInBounds_toArray, List.set_cons_zero, List.set_cons_succ]
          refine wpAnyH_take (i := 13) (oi := { dst := some 6, op := Op.assign (Operand.tmp 44), type := 4, pos := "outright.go:121", after := #[{ on := 12, ground := Ground.data }, { on := 10, ground := Ground.chain }, { on := 0, ground := Ground.phase }, { on := 1, ground := Ground.phase }, { on := 2, ground := Ground.phase }, { on := 3, ground := Ground.phase }, { on := 4, ground := Ground.phase }, { on := 5, ground := Ground.phase }, { on := 6, ground := Ground.phase }, { on := 7, ground := Ground.phase }, { on := 8, ground := Ground.phase }, { on := 9, ground := Ground.phase }, { on := 10, ground := Ground.phase }, { on := 11, ground := Ground.phase }, { on := 12, ground := Ground.phase }], guard := none }) (v := ?_) rfl (by as_aux_lemma => kernel_rfl) (by as_aux_lemma => kernel_rfl) (by as_aux_lemma => kernel_rfl) (fun _ _ _ h => h) (Or.inl ⟨by rfl, ?_⟩) hHeld ?_
          rotate_left
          · intro w hSw
            clear hSw
            go_simp
            try with_reducible rfl
          try simp only [Act.put, List.setIfInBounds_toArray, List.set_cons_zero, List.set_cons_succ]
          refine wpAnyH_done (by as_aux_lemma => kernel_rfl) ?_ _
          have HBZ := Lib.hid hHeld
          clear hHeld
          go_wp2_with fail
          exact ⟨⟨k + 1, by omega, by go_num, by rw [HAL.out]; rfl, HOV.out.below HBZ.out (Nat.le_refl _), fun q hq => (HOKV.out q hq).below HBZ.out (Nat.le_refl _), HBV.out.trans (HBZ.out.mono hsV)⟩, by simp [intOf]; omega⟩
        | true =>
          by_cases he : neiF p = neiF p0
          · have HAZ : Hid (alK ps (k + 1) = true) := by
              show _ = _
              rw [HAL.out, HN0.out, he]
              simp
            go_wp2_with fail
            refine wp_region_held_drew (S := fun w' => Below V2.heap.size V2 w') (by as_aux_lemma => kernel_rfl) (below_drewN (Below.refl _ _) 1) (fun hHeld => ?_)
            refine wpAnyH_take (i := 0) (oi := { dst := some 32, op := Op.move (Operand.tmp 6), type := 4, pos := "outright.go:121", after := #[], guard := none }) (v := ?_) rfl (by as_aux_lemma => kernel_rfl) (by as_aux_lemma => kernel_rfl) (by as_aux_lemma => kernel_rfl) (fun _ _ _ h => h) (Or.inl ⟨by rfl, ?_⟩) hHeld ?_
            rotate_left
            · intro w hSw
              clear hSw
              go_simp
              try with_reducible rfl
            try simp only [Act.put, List.setIfInBounds_toArray, List.set_cons_zero, List.set_cons_succ]
            refine wpAnyH_take (i := 1) (oi := { dst := some 33, op := Op.move (Operand.tmp 32), type := 4, pos := "outright.go:121", after := #[{ on := 0, ground := Ground.data }], guard := none }) (v := ?_) rfl (by as_aux_lemma => kernel_rfl) (by as_aux_lemma => kernel_rfl) (by as_aux_lemma => kernel_rfl) (fun _ _ _ h => h) (Or.inl ⟨by rfl, ?_⟩) hHeld ?_
            rotate_left
            · intro w hSw
              clear hSw
              go_simp
              try with_reducible rfl
            try simp only [Act.put, List.setIfInBounds_toArray, List.set_cons_zero, List.set_cons_succ]
            refine wpAnyH_take (i := 2) (oi := { dst := some 34, op := Op.move (Operand.tmp 5), type := 23, pos := "outright.go:121", after := #[{ on := 1, ground := Ground.guard }], guard := some (1, true) }) (v := ?_) rfl (by as_aux_lemma => kernel_rfl) (by as_aux_lemma => kernel_rfl) (by as_aux_lemma => kernel_rfl) (fun _ _ _ h => h) (Or.inl ⟨by rfl, ?_⟩) hHeld ?_
            rotate_left
            · intro w hSw
              clear hSw
              go_simp
              try with_reducible rfl
            try simp only [Act.put, List.setIfInBounds_toArray, List.set_cons_zero, List.set_cons_succ]
            refine wpAnyH_take (i := 3) (oi := { dst := some 35, op := Op.move (Operand.tmp 7), type := 3, pos := "outright.go:121", after := #[{ on := 1, ground := Ground.guard }], guard := some (1, true) }) (v := ?_) rfl (by as_aux_lemma => kernel_rfl) (by as_aux_lemma => kernel_rfl) (by as_aux_lemma => kernel_rfl) (fun _ _ _ h => h) (Or.inl ⟨by rfl, ?_⟩) hHeld ?_
            rotate_left
            · intro w hSw
              clear hSw
              go_simp
              try with_reducible rfl
            try simp only [Act.put, List.setIfInBounds_toArray, List.set_cons_zero, List.set_cons_succ]
            refine wpAnyH_take (i := 4) (oi := { dst := some 36, op := Op.indexAddr 23 (Operand.tmp 34) (Operand.tmp 35), type := 0, pos := "outright.go:121", after := #[{ on := 2, ground := Ground.data }, { on := 3, ground := Ground.data }, { on := 1, ground := Ground.guard }], guard := some (1, true) }) (v := ?_) rfl (by as_aux_lemma => kernel_rfl) (by as_aux_lemma => kernel_rfl) (by as_aux_lemma => kernel_rfl) (fun _ _ _ h => h) (Or.inl ⟨by rfl, ?_⟩) hHeld ?_
            rotate_left
            · intro w hSw
              clear hSw
              go_simp
              try with_reducible rfl
            try simp only [Act.put, List.setIfInBounds_toArray, List.set_cons_zero, List.set_cons_succ]
            refine wpAnyH_take (i := 5) (oi := { dst := some 37, op := Op.load 38 (Operand.tmp 36), type := 38, pos := "outright.go:121", after := #[{ on := 4, ground := Ground.data }, { on := 1, ground := Ground.guard }], guard := some (1, true) }) (v := (noMed true p).v) rfl (by as_aux_lemma => kernel_rfl) (by as_aux_lemma => kernel_rfl) (by as_aux_lemma => kernel_rfl) (fun _ _ _ h => h) (yields_prange (by rfl) _ rfl g (k * 29) (by rfl) (noMed true p) (fun w h => rangeAt_below HRK.out h hgV)) hHeld ?_
            try simp only [Act.put, List.setIfInBounds_toArray, List.set_cons_zero, List.set_cons_succ]
            refine wpAnyH_take (i := 7) (oi := { dst := some 39, op := Op.move (Operand.tmp 5), type := 23, pos := "outright.go:121", after := #[{ on := 1, ground := Ground.guard }], guard := some (1, true) }) (v := ?_) rfl (by as_aux_lemma => kernel_rfl) (by as_aux_lemma => kernel_rfl) (by as_aux_lemma => kernel_rfl) (fun _ _ _ h => h) (Or.inl ⟨by rfl, ?_⟩) hHeld ?_
            rotate_left
            · intro w hSw
              clear hSw
              go_simp
              try with_reducible rfl
            try simp only [Act.put, List.setIfInBounds_toArray, List.set_cons_zero, List.set_cons_succ]
            refine wpAnyH_take (i := 8) (oi := { dst := some 40, op := Op.indexAddr 23 (Operand.tmp 39) (Operand.const (Value.int IntKind.i64 0)), type := 0, pos := "outright.go:121", after := #[{ on := 7, ground := Ground.data }, { on := 1, ground := Ground.guard }], guard := some (1, true) }) (v := ?_) rfl (by as_aux_lemma => kernel_rfl) (by as_aux_lemma => kernel_rfl) (by as_aux_lemma => kernel_rfl) (fun _ _ _ h => h) (Or.inl ⟨by rfl, ?_⟩) hHeld ?_
            rotate_left
            · intro w hSw
              clear hSw
              go_simp
              try with_reducible rfl
            try simp only [Act.put, List.setIfInBounds_toArray, List.set_cons_zero, List.set_cons_succ]
            refine wpAnyH_take (i := 9) (oi := { dst := some 41, op := Op.load 38 (Operand.tmp 40), type := 38, pos := "outright.go:121", after := #[{ on := 8, ground := Ground.data }, { on := 1, ground := Ground.guard }], guard := some (1, true) }) (v := q0.v) rfl (by as_aux_lemma => kernel_rfl) (by as_aux_lemma => kernel_rfl) (by as_aux_lemma => kernel_rfl) (fun _ _ _ h => h) (yields_prange (by rfl) _ rfl g 0 (by rfl) q0 (fun w h => rangeAt_below HR0.out h hgV)) hHeld ?_
            try simp only [Act.put, List.setIfInBounds_toArray, List.set_cons_zero, List.set_cons_succ]
            refine wpAnyH_ready (rs := [6]) (by as_aux_lemma => kernel_rfl) (by simp) ?_
            refine AllReadyH.cons (o := { dst := some 38, op := Op.call { callee := Callee.value (Operand.func 14), args := #[Operand.tmp 37], argTypes := #[38] }, type := 28, pos := "outright.go:121", after := #[{ on := 5, ground := Ground.data }, { on := 1, ground := Ground.chain }, { on := 1, ground := Ground.guard }], guard := some (1, true) }) rfl (fun K hK => ?_) AllReadyH.nil
            go_simp
            refine (HNE.out (noMed true p) _ ((HOKV.out _ HM.out.1).below hHeld (Nat.le_refl _) |> noMed_ok _)).mono ?_
            rintro e w8 ⟨rfl, hb8⟩
            rw [noMed_nei, he]
            go_wp2_with fail
            refine hK.out _ _ (hHeld.trans (hb8.mono hHeld.size)) (fun hHeld => ?_)
            clear hK K
            try simp only [Act.put, List.setIfInBounds_toArray, List.set_cons_zero, List.set_cons_succ]
            refine wpAnyH_ready (rs := [10]) (by as_aux_lemma => kernel_rfl) (by simp) ?_
            refine AllReadyH.cons (o := { dst := some 42, op := Op.call { callee := Callee.value (Operand.func 14), args := #[Operand.tmp 41], argTypes := #[38] }, type := 28, pos := "outright.go:121", after := #[{ on := 9, ground := Ground.data }, { on := 6, ground := Ground.chain }, { on := 1, ground := Ground.guard }], guard := some (1, true) }) rfl (fun K hK => ?_) AllReadyH.nil
            go_simp
            refine (HNE.out q0 _ ((HOKQ.out).below hHeld (Nat.le_refl _))).mono ?_
            rintro e w9 ⟨rfl, hb9⟩
            rw [HQN.out]
            go_wp2_with fail
            refine hK.out _ _ (hHeld.trans (hb9.mono hHeld.size)) (fun hHeld => ?_)
            clear hK K
            try simp only [Act.put, List.setIfInBounds_toArray, List.set_cons_zero, List.set_cons_succ]
            refine wpAnyH_take (i := 11) (oi := { dst := some 43, op := Op.binOp BinOp.eql 28 (Operand.tmp 38) (Operand.tmp 42) 28, type := 4, pos := "outright.go:121", after := #[{ on := 6, ground := Ground.data }, { on := 10, ground := Ground.data }, { on := 1, ground := Ground.guard }], guard := some (1, true) }) (v := .bool true) rfl (by as_aux_lemma => kernel_rfl) (by as_aux_lemma => kernel_rfl) (by as_aux_lemma => kernel_rfl) (fun _ _ _ h => h) (Or.inl ⟨by rfl, ?_⟩) hHeld ?_
            · intro w hSw
              clear hSw
              go_simp
              all_goals first | rfl | simp
            try simp only [Act.put, List.setIfInBounds_toArray, List.set_cons_zero, List.set_cons_succ]
            refine wpAnyH_take (i := 12) (oi := { dst := some 44, op := Op.pick (Operand.tmp 33) (Operand.tmp 43) (Operand.const (Value.bool false)), type := 4, pos := "outright.go:121", after := #[{ on := 1, ground := Ground.data }, { on := 11, ground := Ground.data }], guard := none }) (v := ?_) rfl (by as_aux_lemma => kernel_rfl) (by as_aux_lemma => kernel_rfl) (by as_aux_lemma => kernel_rfl) (fun _ _ _ h => h) (Or.inl ⟨by rfl, ?_⟩) hHeld ?_
            rotate_left
            · intro w hSw
              clear hSw
              go_simp
              try with_reducible rfl
            try simp only [Act.put, List.setIfInBounds_toArray, List.set_cons_zero, List.set_cons_succ]
            refine wpAnyH_take (i := 13) (oi := { dst := some 6, op := Op.assign (Operand.tmp 44), type := 4, pos := "outright.go:121", after := #[{ on := 12, ground := Ground.data }, { on := 10, ground := Ground.chain }, { on := 0, ground := Ground.phase }, { on := 1, ground := Ground.phase }, { on := 2, ground := Ground.phase }, { on := 3, ground := Ground.phase }, { on := 4, ground := Ground.phase }, { on := 5, ground := Ground.phase }, { on := 6, ground := Ground.phase }, { on := 7, ground := Ground.phase }, { on := 8, ground := Ground.phase }, { on := 9, ground := Ground.phase }, { on := 10, ground := Ground.phase }, { on := 11, ground := Ground.phase }, { on := 12, ground := Ground.phase }], guard := none }) (v := ?_) rfl (by as_aux_lemma => kernel_rfl) (by as_aux_lemma => kernel_rfl) (by as_aux_lemma => kernel_rfl) (fun _ _ _ h => h) (Or.inl ⟨by rfl, ?_⟩) hHeld ?_
            rotate_left
            · intro w hSw
              clear hSw
              go_simp
              try with_reducible rfl
            try simp only [Act.put, List.setIfInBounds_toArray, List.set_cons_zero, List.set_cons_succ]
            refine wpAnyH_done (by as_aux_lemma => kernel_rfl) ?_ _
            have HBZ := Lib.hid hHeld
            clear hHeld
            go_wp2_with fail
            exact ⟨⟨k + 1, by omega, by go_num, by rw [HAZ.out], HOV.out.below HBZ.out (Nat.le_refl _), fun q hq => (HOKV.out q hq).below HBZ.out (Nat.le_refl _), HBV.out.trans (HBZ.out.mono hsV)⟩, by simp [intOf]; omega⟩
          · have HAZ : Hid (alK ps (k + 1) = false) := by
              show _ = _
              rw [HAL.out, HN0.out, beq_eq_false_iff_ne.2 he]
              rfl
            have hbe : (((neiF p : Nat) : Int) == ((neiF p0 : Nat) : Int)) = false := by rw [beq_eq_false_iff_ne]; omega
            go_wp2_with fail
            refine wp_region_held_drew (S := fun w' => Below V2.heap.size V2 w') (by as_aux_lemma => kernel_rfl) (below_drewN (Below.refl _ _) 1) (fun hHeld => ?_)
            refine wpAnyH_take (i := 0) (oi := { dst := some 32, op := Op.move (Operand.tmp 6), type := 4, pos := "outright.go:121", after := #[], guard := none }) (v := ?_) rfl (by as_aux_lemma => kernel_rfl) (by as_aux_lemma => kernel_rfl) (by as_aux_lemma => kernel_rfl) (fun _ _ _ h => h) (Or.inl ⟨by rfl, ?_⟩) hHeld ?_
            rotate_left
            · intro w hSw
              clear hSw
              go_simp
              try with_reducible rfl
            try simp only [Act.put, List.setIfInBounds_toArray, List.set_cons_zero, List.set_cons_succ]
            refine wpAnyH_take (i := 1) (oi := { dst := some 33, op := Op.move (Operand.tmp 32), type := 4, pos := "outright.go:121", after := #[{ on := 0, ground := Ground.data }], guard := none }) (v := ?_) rfl (by as_aux_lemma => kernel_rfl) (by as_aux_lemma => kernel_rfl) (by as_aux_lemma => kernel_rfl) (fun _ _ _ h => h) (Or.inl ⟨by rfl, ?_⟩) hHeld ?_
            rotate_left
            · intro w hSw
              clear hSw
              go_simp
              try with_reducible rfl
            try simp only [Act.put, List.setIfInBounds_toArray, List.set_cons_zero, List.set_cons_succ]
            refine wpAnyH_take (i := 2) (oi := { dst := some 34, op := Op.move (Operand.tmp 5), type := 23, pos := "outright.go:121", after := #[{ on := 1, ground := Ground.guard }], guard := some (1, true) }) (v := ?_) rfl (by as_aux_lemma => kernel_rfl) (by as_aux_lemma => kernel_rfl) (by as_aux_lemma => kernel_rfl) (fun _ _ _ h => h) (Or.inl ⟨by rfl, ?_⟩) hHeld ?_
            rotate_left
            · intro w hSw
              clear hSw
              go_simp
              try with_reducible rfl
            try simp only [Act.put, List.setIfInBounds_toArray, List.set_cons_zero, List.set_cons_succ]
            refine wpAnyH_take (i := 3) (oi := { dst := some 35, op := Op.move (Operand.tmp 7), type := 3, pos := "outright.go:121", after := #[{ on := 1, ground := Ground.guard }], guard := some (1, true) }) (v := ?_) rfl (by as_aux_lemma => kernel_rfl) (by as_aux_lemma => kernel_rfl) (by as_aux_lemma => kernel_rfl) (fun _ _ _ h => h) (Or.inl ⟨by rfl, ?_⟩) hHeld ?_
            rotate_left
            · intro w hSw
              clear hSw
              go_simp
              try with_reducible rfl
            try simp only [Act.put, List.setIfInBounds_toArray, List.set_cons_zero, List.set_cons_succ]
            refine wpAnyH_take (i := 4) (oi := { dst := some 36, op := Op.indexAddr 23 (Operand.tmp 34) (Operand.tmp 35), type := 0, pos := "outright.go:121", after := #[{ on := 2, ground := Ground.data }, { on := 3, ground := Ground.data }, { on := 1, ground := Ground.guard }], guard := some (1, true) }) (v := ?_) rfl (by as_aux_lemma => kernel_rfl) (by as_aux_lemma => kernel_rfl) (by as_aux_lemma => kernel_rfl) (fun _ _ _ h => h) (Or.inl ⟨by rfl, ?_⟩) hHeld ?_
            rotate_left
            · intro w hSw
              clear hSw
              go_simp
              try with_reducible rfl
            try simp only [Act.put, List.setIfInBounds_toArray, List.set_cons_zero, List.set_cons_succ]
            refine wpAnyH_take (i := 5) (oi := { dst := some 37, op := Op.load 38 (Operand.tmp 36), type := 38, pos := "outright.go:121", after := #[{ on := 4, ground := Ground.data }, { on := 1, ground := Ground.guard }], guard := some (1, true) }) (v := (noMed true p).v) rfl (by as_aux_lemma => kernel_rfl) (by as_aux_lemma => kernel_rfl) (by as_aux_lemma => kernel_rfl) (fun _ _ _ h => h) (yields_prange (by rfl) _ rfl g (k * 29) (by rfl) (noMed true p) (fun w h => rangeAt_below HRK.out h hgV)) hHeld ?_
            try simp only [Act.put, List.setIfInBounds_toArray, List.set_cons_zero, List.set_cons_succ]
            refine wpAnyH_take (i := 7) (oi := { dst := some 39, op := Op.move (Operand.tmp 5), type := 23, pos := "outright.go:121", after := #[{ on := 1, ground := Ground.guard }], guard := some (1, true) }) (v := ?_) rfl (by as_aux_lemma => kernel_rfl) (by as_aux_lemma => kernel_rfl) (by as_aux_lemma => kernel_rfl) (fun _ _ _ h => h) (Or.inl ⟨by rfl, ?_⟩) hHeld ?_
            rotate_left
            · intro w hSw
              clear hSw
              go_simp
              try with_reducible rfl
            try simp only [Act.put, List.setIfInBounds_toArray, List.set_cons_zero, List.set_cons_succ]
            refine wpAnyH_take (i := 8) (oi := { dst := some 40, op := Op.indexAddr 23 (Operand.tmp 39) (Operand.const (Value.int IntKind.i64 0)), type := 0, pos := "outright.go:121", after := #[{ on := 7, ground := Ground.data }, { on := 1, ground := Ground.guard }], guard := some (1, true) }) (v := ?_) rfl (by as_aux_lemma => kernel_rfl) (by as_aux_lemma => kernel_rfl) (by as_aux_lemma => kernel_rfl) (fun _ _ _ h => h) (Or.inl ⟨by rfl, ?_⟩) hHeld ?_
            rotate_left
            · intro w hSw
              clear hSw
              go_simp
              try with_reducible rfl
            try simp only [Act.put, List.setIfInBounds_toArray, List.set_cons_zero, List.set_cons_succ]
            refine wpAnyH_take (i := 9) (oi := { dst := some 41, op := Op.load 38 (Operand.tmp 40), type := 38, pos := "outright.go:121", after := #[{ on := 8, ground := Ground.data }, { on := 1, ground := Ground.guard }], guard := some (1, true) }) (v := q0.v) rfl (by as_aux_lemma => kernel_rfl) (by as_aux_lemma => kernel_rfl) (by as_aux_lemma => kernel_rfl) (fun _ _ _ h => h) (yields_prange (by rfl) _ rfl g 0 (by rfl) q0 (fun w h => rangeAt_below HR0.out h hgV)) hHeld ?_
            try simp only [Act.put, List.setIfInBounds_toArray, List.set_cons_zero, List.set_cons_succ]
            refine wpAnyH_ready (rs := [6]) (by as_aux_lemma => kernel_rfl) (by simp) ?_
            refine AllReadyH.cons (o := { dst := some 38, op := Op.call { callee := Callee.value (Operand.func 14), args := #[Operand.tmp 37], argTypes := #[38] }, type := 28, pos := "outright.go:121", after := #[{ on := 5, ground := Ground.data }, { on := 1, ground := Ground.chain }, { on := 1, ground := Ground.guard }], guard := some (1, true) }) rfl (fun K hK => ?_) AllReadyH.nil
            go_simp
            refine (HNE.out (noMed true p) _ ((HOKV.out _ HM.out.1).below hHeld (Nat.le_refl _) |> noMed_ok _)).mono ?_
            rintro e w8 ⟨rfl, hb8⟩
            rw [noMed_nei]
            go_wp2_with fail
            refine hK.out _ _ (hHeld.trans (hb8.mono hHeld.size)) (fun hHeld => ?_)
            clear hK K
            try simp only [Act.put, List.setIfInBounds_toArray, List.set_cons_zero, List.set_cons_succ]
            refine wpAnyH_ready (rs := [10]) (by as_aux_lemma => kernel_rfl) (by simp) ?_
            refine AllReadyH.cons (o := { dst := some 42, op := Op.call { callee := Callee.value (Operand.func 14), args := #[Operand.tmp 41], argTypes := #[38] }, type := 28, pos := "outright.go:121", after := #[{ on := 9, ground := Ground.data }, { on := 6, ground := Ground.chain }, { on := 1, ground := Ground.guard }], guard := some (1, true) }) rfl (fun K hK => ?_) AllReadyH.nil
            go_simp
            refine (HNE.out q0 _ ((HOKQ.out).below hHeld (Nat.le_refl _))).mono ?_
            rintro e w9 ⟨rfl, hb9⟩
            rw [HQN.out]
            go_wp2_with fail
            refine hK.out _ _ (hHeld.trans (hb9.mono hHeld.size)) (fun hHeld => ?_)
            clear hK K
            try simp only [Act.put, List.setIfInBounds_toArray, List.set_cons_zero, List.set_cons_succ]
            refine wpAnyH_take (i := 11) (oi := { dst := some 43, op := Op.binOp BinOp.eql 28 (Operand.tmp 38) (Operand.tmp 42) 28, type := 4, pos := "outright.go:121", after := #[{ on := 6, ground := Ground.data }, { on := 10, ground := Ground.data }, { on := 1, ground := Ground.guard }], guard := some (1, true) }) (v := .bool false) rfl (by as_aux_lemma => kernel_rfl) (by as_aux_lemma => kernel_rfl) (by as_aux_lemma => kernel_rfl) (fun _ _ _ h => h) (Or.inl ⟨by rfl, ?_⟩) hHeld ?_
            · intro w hSw
              clear hSw
              go_simp
              all_goals first | rfl | simp
            try simp only [Act.put, List.setIfInBounds_toArray, List.set_cons_zero, List.set_cons_succ]
            refine wpAnyH_take (i := 12) (oi := { dst := some 44, op := Op.pick (Operand.tmp 33) (Operand.tmp 43) (Operand.const (Value.bool false)), type := 4, pos := "outright.go:121", after := #[{ on := 1, ground := Ground.data }, { on := 11, ground := Ground.data }], guard := none }) (v := ?_) rfl (by as_aux_lemma => kernel_rfl) (by as_aux_lemma => kernel_rfl) (by as_aux_lemma => kernel_rfl) (fun _ _ _ h => h) (Or.inl ⟨by rfl, ?_⟩) hHeld ?_
            rotate_left
            · intro w hSw
              clear hSw
              go_simp
              try with_reducible rfl
            try simp only [Act.put, List.setIfInBounds_toArray, List.set_cons_zero, List.set_cons_succ]
            refine wpAnyH_take (i := 13) (oi := { dst := some 6, op := Op.assign (Operand.tmp 44), type := 4, pos := "outright.go:121", after := #[{ on := 12, ground := Ground.data }, { on := 10, ground := Ground.chain }, { on := 0, ground := Ground.phase }, { on := 1, ground := Ground.phase }, { on := 2, ground := Ground.phase }, { on := 3, ground := Ground.phase }, { on := 4, ground := Ground.phase }, { on := 5, ground := Ground.phase }, { on := 6, ground := Ground.phase }, { on := 7, ground := Ground.phase }, { on := 8, ground := Ground.phase }, { on := 9, ground := Ground.phase }, { on := 10, ground := Ground.phase }, { on := 11, ground := Ground.phase }, { on := 12, ground := Ground.phase }], guard := none }) (v := ?_) rfl (by as_aux_lemma => kernel_rfl) (by as_aux_lemma => kernel_rfl) (by as_aux_lemma => kernel_rfl) (fun _ _ _ h => h) (Or.inl ⟨by rfl, ?_⟩) hHeld ?_
            rotate_left
            · intro w hSw
              clear hSw
              go_simp
              try with_reducible rfl
            try simp only [Act.put, List.setIfInBounds_toArray, List.set_cons_zero, List.set_cons_succ]
            refine wpAnyH_done (by as_aux_lemma => kernel_rfl) ?_ _
            have HBZ := Lib.hid hHeld
            clear hHeld
            go_wp2_with fail
            exact ⟨⟨k + 1, by omega, by go_num, by rw [HAZ.out], HOV.out.below HBZ.out (Nat.le_refl _), fun q hq => (HOKV.out q hq).below HBZ.out (Nat.le_refl _), HBV.out.trans (HBZ.out.mono hsV)⟩, by simp [intOf]; omega⟩
    · obtain rfl : k = ps.length := by omega
      rw [pzK_all] at HO
      have hlz : (ps.map (noMed b)).length = ps.length := List.length_map _
      have HIDZ : Hid (Ids (ps.map (noMed b))) := fun i q hq => by
        rw [List.getElem?_map] at hq
        cases hp : ps[i]? with
        | none => rw [hp] at hq; cases hq
        | some p =>
          rw [hp] at hq
          obtain rfl : noMed b p = q := Option.some.inj hq
          have h1 := HIDS.out i p hp
          cases b <;> exact h1
      have HOKZ : Hid (∀ q ∈ ps.map (noMed b), PtOk wr q) := fun q hq => by
        obtain ⟨p, hp, rfl⟩ := List.mem_map.1 hq
        exact noMed_ok b (HOK.out p hp)
      have HPL : Hid (alK ps ps.length = true ∨ b = true → Plain (ps.map (noMed b))) := fun hh => by
        rcases hh with h | h
        · refine .inl fun q hq r hr => ?_
          unfold alK at h
          rw [List.take_length] at h
          obtain ⟨p, hp, rfl⟩ := List.mem_map.1 hq
          obtain ⟨p2, hp2, rfl⟩ := List.mem_map.1 hr
          have e1 := of_decide_eq_true (p := neiF p = nei0 ps) (by simpa using List.all_eq_true.1 h p hp)
          have e2 := of_decide_eq_true (p := neiF p2 = nei0 ps) (by simpa using List.all_eq_true.1 h p2 hp2)
          rw [noMed_nei, noMed_nei, e1, e2]
        · refine .inr fun q hq => ?_
          obtain ⟨p, hp, rfl⟩ := List.mem_map.1 hq
          rw [h]
          rfl
      have HOZ : Hid (PsOwn wr w.heap.size (.slice A1 ps.length c1) (ps.map (noMed b))) := by
        show OwnM _ _ _ _ _ _ _
        rw [hlz]
        exact HO.out
      generalize alK ps ps.length = al at HPL ⊢
      generalize ps.map (noMed b) = pz at *
      rw [← hlz] at hn10 HOZ ⊢
      clear HIDS HBL HOK HO hlz
      obtain ⟨A3, c3, hv3, hpz⟩ := HOZ.out.at_ HOKZ.out
      simp only [Value.slice.injEq, true_and] at hv3
      obtain ⟨rfl, rfl⟩ := hv3
      have HPZ := Lib.hid hpz
      have HBZ : Hid (Below w.heap.size w wr) := HB
      clear hpz HOZ HOKZ HB
      have hszw := HBZ.out.size
      go_wp2_with fail
      refine (HORD.out A1 c1 pz (.func (.func 10) #[] #[]) (costP priceF) wr HPZ.out (fits_cost (price_cost wr)) (by omega)).mono ?_
      rintro e w2 ⟨va, rfl, ha, hb2⟩
      obtain ⟨Aa, ca, rfl⟩ := OwnM.form ha
      have HA2 := Lib.hid ha
      have HP2 : Hid (PsAt w2 A1 c1 pz) := HPZ.out.below hb2 (Nat.le_refl _)
      have HB2 : Hid (Below w.heap.size w w2) := HBZ.out.trans (hb2.mono hszw)
      have HSF := Lib.hid (same_facts (f := costP priceF) 0 HIDZ.out)
      have HBF := Lib.hid (best_first (openL (costP priceF) 0 pz))
      have HFF : Hid (∀ (b : En) (i : Nat) (p : Pt), bestF (openL (costP priceF) 0 pz) = some b → pz[i]? = some p → (costP priceF p).isSome = true → degF p ≤ degF b.p ∧ (degF b.p ≤ degF p → (p.kind = 1 → b.p.kind = 1) ∧ (p.kind = b.p.kind → lenF b.p.segs ≤ lenF p.segs))) := fun b i p h1 h2 h3 => first_facts h1 h2 h3
      have HBP : Hid (∀ b, bestF (openL (costP priceF) 0 pz) = some b → pz[b.at_]? = some b.p) := fun b h => (openL_mem0 (bestF_mem h)).1
      have HBB : Hid (al = true ∨ b = true → ∀ (i k x y : Nat) (p q : Pt), i < k → (orderF (openL (costP priceF) 0 pz))[i]? = some x → (orderF (openL (costP priceF) 0 pz))[k]? = some y → pz[x]? = some p → pz[y]? = some q → betterF (costP priceF) p q = true) := fun hh i k x y p q h1 h2 h3 h4 h5 => better_true HIDZ.out (HPL.out hh) h1 h2 h3 h4 h5
      have hll : (orderF (openL (costP priceF) 0 pz)).length ≤ 10 := Nat.le_trans (orderN_len _ _) (Nat.le_trans (openL_len _ _ _) hn10)
      have HS2 := Lib.hid (And.intro HSF.out.2.1 HSF.out.2.2.2)
      clear ha hb2 HPZ HBZ HIDZ HPL hszw HSF
      generalize orderF (openL (costP priceF) 0 pz) = la at HA2 HS2 HBF HBB hll
      generalize bestF (openL (costP priceF) 0 pz) = ob at HBF HFF HBP
      have hs2 := HB2.out.size
      go_wp2_with fail
      go_loopw [9] (fun i wr => ∃ k : Nat, k ≤ pz.length ∧ i = .int .i64 k ∧ Hid (Below w2.heap.size w2 wr)) (fun i _ => pz.length + 1 - (intOf i).toNat)
      case atStart => exact ⟨0, by omega, rfl, Below.refl _ _⟩
      case round =>
        obtain ⟨k, hk, rfl, HB⟩ := hrel
        have hsr := HB.out.size
        by_cases hlt : k < pz.length
        · obtain ⟨p, hp⟩ : ∃ p, pz[k]? = some p := ⟨pz[k], List.getElem?_eq_getElem hlt⟩
          have HPr : Hid (PsAt wr A1 c1 pz) := HP2.out.below HB.out (Nat.le_refl _)
          obtain ⟨b1, off1, rfl, hbl1, hr1⟩ := PsAt.at_ HPr.out hp
          have HR1 := Lib.hid hr1
          have hpc := HPr.out.len
          have HPP := Lib.hid hp
          have HOKP := Lib.hid (HPr.out.ok p (List.mem_of_getElem? hp))
          clear hr1 hp
          go_wp2_with (with_reducible show wpList _ _ _ (_ :: _) _ _; refine wpList_load_path' rfl (.tmp 55) rfl b1 (off1 + k * 29) rfl p HR1.out ?_)
          refine (HTK.out p _).mono ?_
          rintro e w3 ⟨rfl, hb3⟩
          have HR3 : Hid (w3.rangeAt b1 (off1 + k * 29) p.cs.toList) := rangeAt_below HR1.out hb3 hbl1
          have hbl3 : b1 < w3.heap.size := Nat.lt_of_lt_of_le hbl1 hb3.size
          have HB3 : Hid (Below w2.heap.size w2 w3) := HB.out.trans (hb3.mono hsr)
          have hs3 := HB3.out.size
          have HOK3 : Hid (PtOk w3 p) := HOKP.out.below hb3 (Nat.le_refl _)
          clear hb3 HR1 hbl1 HB HPr HOKP hsr
          cases htk : takenF p with
          | false =>
            have HBS : Hid (betterF (costP priceF) p p = false) := by
              show _ = _
              rw [better_self]
              exact htk
            clear htk
            go_wp2_with fail
            refine wp_region_held_drew (S := fun w' => Below w3.heap.size w3 w') (by as_aux_lemma => kernel_rfl) (below_drewN (Below.refl _ _) 1) (fun hHeld => ?_)
            refine wpAnyH_take (i := 0) (oi := { dst := some 59, op := Op.move (Operand.tmp 5), type := 23, pos := "outright.go:126", after := #[], guard := none }) (v := ?_) rfl (by as_aux_lemma => kernel_rfl) (by as_aux_lemma => kernel_rfl) (by as_aux_lemma => kernel_rfl) (fun _ _ _ h => h) (Or.inl ⟨by rfl, ?_⟩) hHeld ?_
            rotate_left
            · intro w hSw
              clear hSw
              go_simp
              try with_reducible rfl
            try simp only [Act.put, List.setIfInBounds_toArray, List.set_cons_zero, List.set_cons_succ]
            refine wpAnyH_take (i := 1) (oi := { dst := some 60, op := Op.move (Operand.tmp 9), type := 3, pos := "outright.go:126", after := #[], guard := none }) (v := ?_) rfl (by as_aux_lemma => kernel_rfl) (by as_aux_lemma => kernel_rfl) (by as_aux_lemma => kernel_rfl) (fun _ _ _ h => h) (Or.inl ⟨by rfl, ?_⟩) hHeld ?_
            rotate_left
            · intro w hSw
              clear hSw
              go_simp
              try with_reducible rfl
            try simp only [Act.put, List.setIfInBounds_toArray, List.set_cons_zero, List.set_cons_succ]
            refine wpAnyH_take (i := 2) (oi := { dst := some 61, op := Op.indexAddr 23 (Operand.tmp 59) (Operand.tmp 60), type := 0, pos := "outright.go:126", after := #[{ on := 0, ground := Ground.data }, { on := 1, ground := Ground.data }], guard := none }) (v := ?_) rfl (by as_aux_lemma => kernel_rfl) (by as_aux_lemma => kernel_rfl) (by as_aux_lemma => kernel_rfl) (fun _ _ _ h => h) (Or.inl ⟨by rfl, ?_⟩) hHeld ?_
            rotate_left
            · intro w hSw
              clear hSw
              go_simp
              try with_reducible rfl
            try simp only [Act.put, List.setIfInBounds_toArray, List.set_cons_zero, List.set_cons_succ]
            refine wpAnyH_take (i := 3) (oi := { dst := some 62, op := Op.load 38 (Operand.tmp 61), type := 38, pos := "outright.go:126", after := #[{ on := 2, ground := Ground.data }], guard := none }) (v := p.v) rfl (by as_aux_lemma => kernel_rfl) (by as_aux_lemma => kernel_rfl) (by as_aux_lemma => kernel_rfl) (fun _ _ _ h => h) (yields_prange (by rfl) _ rfl b1 (off1 + k * 29) (by rfl) p (fun w h => rangeAt_below HR3.out h hbl3)) hHeld ?_
            try simp only [Act.put, List.setIfInBounds_toArray, List.set_cons_zero, List.set_cons_succ]
            refine wpAnyH_take (i := 4) (oi := { dst := some 63, op := Op.move (Operand.tmp 5), type := 23, pos := "outright.go:126", after := #[], guard := none }) (v := ?_) rfl (by as_aux_lemma => kernel_rfl) (by as_aux_lemma => kernel_rfl) (by as_aux_lemma => kernel_rfl) (fun _ _ _ h => h) (Or.inl ⟨by rfl, ?_⟩) hHeld ?_
            rotate_left
            · intro w hSw
              clear hSw
              go_simp
              try with_reducible rfl
            try simp only [Act.put, List.setIfInBounds_toArray, List.set_cons_zero, List.set_cons_succ]
            refine wpAnyH_take (i := 5) (oi := { dst := some 64, op := Op.move (Operand.tmp 9), type := 3, pos := "outright.go:126", after := #[], guard := none }) (v := ?_) rfl (by as_aux_lemma => kernel_rfl) (by as_aux_lemma => kernel_rfl) (by as_aux_lemma => kernel_rfl) (fun _ _ _ h => h) (Or.inl ⟨by rfl, ?_⟩) hHeld ?_
            rotate_left
            · intro w hSw
              clear hSw
              go_simp
              try with_reducible rfl
            try simp only [Act.put, List.setIfInBounds_toArray, List.set_cons_zero, List.set_cons_succ]
            refine wpAnyH_take (i := 6) (oi := { dst := some 65, op := Op.indexAddr 23 (Operand.tmp 63) (Operand.tmp 64), type := 0, pos := "outright.go:126", after := #[{ on := 4, ground := Ground.data }, { on := 5, ground := Ground.data }], guard := none }) (v := ?_) rfl (by as_aux_lemma => kernel_rfl) (by as_aux_lemma => kernel_rfl) (by as_aux_lemma => kernel_rfl) (fun _ _ _ h => h) (Or.inl ⟨by rfl, ?_⟩) hHeld ?_
            rotate_left
            · intro w hSw
              clear hSw
              go_simp
              try with_reducible rfl
            try simp only [Act.put, List.setIfInBounds_toArray, List.set_cons_zero, List.set_cons_succ]
            refine wpAnyH_take (i := 7) (oi := { dst := some 66, op := Op.load 38 (Operand.tmp 65), type := 38, pos := "outright.go:126", after := #[{ on := 6, ground := Ground.data }], guard := none }) (v := p.v) rfl (by as_aux_lemma => kernel_rfl) (by as_aux_lemma => kernel_rfl) (by as_aux_lemma => kernel_rfl) (fun _ _ _ h => h) (yields_prange (by rfl) _ rfl b1 (off1 + k * 29) (by rfl) p (fun w h => rangeAt_below HR3.out h hbl3)) hHeld ?_
            try simp only [Act.put, List.setIfInBounds_toArray, List.set_cons_zero, List.set_cons_succ]
            refine wpAnyH_ready (rs := [8]) (by as_aux_lemma => kernel_rfl) (by simp) ?_
            refine AllReadyH.cons (o := { dst := some 67, op := Op.call { callee := Callee.value (Operand.func 15), args := #[Operand.tmp 62, Operand.tmp 66, Operand.func 10], argTypes := #[38, 38, 41] }, type := 4, pos := "outright.go:126", after := #[{ on := 3, ground := Ground.data }, { on := 7, ground := Ground.data }], guard := none }) rfl (fun K hK => ?_) AllReadyH.nil
            go_simp
            refine (HBT.out p p (.func (.func 10) #[] #[]) (costP priceF) _ (HOK3.out.below hHeld (Nat.le_refl _)) (HOK3.out.below hHeld (Nat.le_refl _)) (fits_cost (price_cost _))).mono ?_
            rintro e w9 ⟨rfl, hb9⟩
            rw [HBS.out]
            go_wp2_with fail
            refine hK.out _ _ (hHeld.trans (hb9.mono hHeld.size)) (fun hHeld => ?_)
            clear hK K
            try simp only [Act.put, List.setIfInBounds_toArray, List.set_cons_zero, List.set_cons_succ]
            refine wpAnyH_done (by as_aux_lemma => kernel_rfl) ?_ _
            have HB9 := Lib.hid hHeld
            clear hHeld
            go_wp2_with fail
            exact ⟨⟨k + 1, by omega, by go_num, HB3.out.trans (HB9.out.mono hs3)⟩, by simp [intOf]; omega⟩
          | true =>
            have hin : k ∈ la := (HS2.out.2 k p HPP.out).2 htk
            have hl0 : 0 < la.length := List.length_pos_of_mem hin
            have HIS : Hid ((costP priceF p).isSome = true) := htk
            have HBS : Hid (betterF (costP priceF) p p = true) := by
              show _ = _
              rw [better_self]
              exact htk
            obtain ⟨x0, hx0⟩ : ∃ x, la[0]? = some x := ⟨la[0], List.getElem?_eq_getElem hl0⟩
            obtain ⟨hxn, _, _⟩ := HS2.out.1 0 x0 hx0
            have HOB : Hid (∃ bst, ob = some bst ∧ bst.at_ = x0) := by
              have h1 : ob.map (·.at_) = la[0]? := HBF.out
              rw [hx0] at h1
              cases ob with
              | none => cases h1
              | some bst => exact ⟨bst, rfl, Option.some.inj h1⟩
            obtain ⟨bst, hob, hbat⟩ := HOB.out
            have HBX : Hid (pz[x0]? = some bst.p) := by
              show _ = _
              rw [← hbat]
              exact HBP.out bst hob
            have HF := Lib.hid (HFF.out bst k p hob HPP.out HIS.out)
            obtain ⟨ga, ca2, hva, hga0, hga, hgc, hgm, hac⟩ := NumOwn.c HA2.out hl0
            simp only [Value.slice.injEq, true_and] at hva
            obtain ⟨rfl, rfl⟩ := hva
            have la1 := (HB3.out.cell (p := ⟨ga, 0, none⟩) hga).trans (hac 0 x0 hx0)
            have hga3 : ga < w3.heap.size := Nat.lt_of_lt_of_le hga hs3
            have hq0 : ¬ ((x0 : Int) < 0) := by omega
            have hq1 : ¬ ((pz.length : Int) ≤ (x0 : Int)) := by omega
            have hq2 : (((la.length : Nat) : Int) == 0) = false := by rw [beq_eq_false_iff_ne]; omega
            have HP3 : Hid (PsAt w3 (some ⟨b1, off1, none⟩) c1 pz) := HP2.out.below HB3.out (Nat.le_refl _)
            obtain ⟨b1', off1', hA', _, hrb⟩ := PsAt.at_ HP3.out HBX.out
            simp only [Option.some.injEq, Addr.mk.injEq, and_true] at hA'
            obtain ⟨rfl, rfl⟩ := hA'
            have HRB := Lib.hid hrb
            have HOKB : Hid (PtOk w3 bst.p) := HP3.out.ok _ (List.mem_of_getElem? HBX.out)
            clear htk hx0 hob hbat hac hrb hin HP3
            generalize bst.p = bp at HBX HF HRB HOKB
            go_wp2_with fail
            refine wp_region_held_drew (S := fun w' => Below w3.heap.size w3 w') (by as_aux_lemma => kernel_rfl) (below_drewN (Below.refl _ _) 1) (fun hHeld => ?_)
            refine wpAnyH_take (i := 0) (oi := { dst := some 68, op := Op.move (Operand.tmp 8), type := 39, pos := "outright.go:131", after := #[], guard := none }) (v := ?_) rfl (by as_aux_lemma => kernel_rfl) (by as_aux_lemma => kernel_rfl) (by as_aux_lemma => kernel_rfl) (fun _ _ _ h => h) (Or.inl ⟨by rfl, ?_⟩) hHeld ?_
            rotate_left
            · intro w hSw
              clear hSw
              go_simp
              try with_reducible rfl
            try simp only [Act.put, List.setIfInBounds_toArray, List.set_cons_zero, List.set_cons_succ]
            refine wpAnyH_take (i := 1) (oi := { dst := some 69, op := Op.call { callee := Callee.builtin Builtin.len, args := #[Operand.tmp 68], argTypes := #[39] }, type := 3, pos := "outright.go:131", after := #[{ on := 0, ground := Ground.data }], guard := none }) (v := ?_) rfl (by as_aux_lemma => kernel_rfl) (by as_aux_lemma => kernel_rfl) (by as_aux_lemma => kernel_rfl) (fun _ _ _ h => h) (Or.inl ⟨by rfl, ?_⟩) hHeld ?_
            rotate_left
            · intro w hSw
              clear hSw
              go_simp
              try with_reducible rfl
            try simp only [Act.put, List.setIfInBounds_toArray, List.set_cons_zero, List.set_cons_succ]
            refine wpAnyH_take (i := 2) (oi := { dst := some 70, op := Op.binOp BinOp.eql 3 (Operand.tmp 69) (Operand.const (Value.int IntKind.i64 0)) 3, type := 4, pos := "outright.go:131", after := #[{ on := 1, ground := Ground.data }], guard := none }) (v := .bool false) rfl (by as_aux_lemma => kernel_rfl) (by as_aux_lemma => kernel_rfl) (by as_aux_lemma => kernel_rfl) (fun _ _ _ h => h) (Or.inl ⟨by rfl, ?_⟩) hHeld ?_
            · intro w hSw
              clear hSw
              go_simp
              all_goals first | rfl | simp | omega
            try simp only [Act.put, List.setIfInBounds_toArray, List.set_cons_zero, List.set_cons_succ]
            refine wpAnyH_take (i := 3) (oi := { dst := some 71, op := Op.move (Operand.tmp 70), type := 4, pos := "outright.go:131", after := #[{ on := 2, ground := Ground.data }], guard := none }) (v := ?_) rfl (by as_aux_lemma => kernel_rfl) (by as_aux_lemma => kernel_rfl) (by as_aux_lemma => kernel_rfl) (fun _ _ _ h => h) (Or.inl ⟨by rfl, ?_⟩) hHeld ?_
            rotate_left
            · intro w hSw
              clear hSw
              go_simp
              try with_reducible rfl
            try simp only [Act.put, List.setIfInBounds_toArray, List.set_cons_zero, List.set_cons_succ]
            refine wpAnyH_take (i := 4) (oi := { dst := some 72, op := Op.move (Operand.tmp 8), type := 39, pos := "outright.go:131", after := #[{ on := 3, ground := Ground.guard }], guard := some (3, false) }) (v := ?_) rfl (by as_aux_lemma => kernel_rfl) (by as_aux_lemma => kernel_rfl) (by as_aux_lemma => kernel_rfl) (fun _ _ _ h => h) (Or.inl ⟨by rfl, ?_⟩) hHeld ?_
            rotate_left
            · intro w hSw
              clear hSw
              go_simp
              try with_reducible rfl
            try simp only [Act.put, List.setIfInBounds_toArray, List.set_cons_zero, List.set_cons_succ]
            refine wpAnyH_take (i := 5) (oi := { dst := some 73, op := Op.indexAddr 39 (Operand.tmp 72) (Operand.const (Value.int IntKind.i64 0)), type := 0, pos := "outright.go:131", after := #[{ on := 4, ground := Ground.data }, { on := 3, ground := Ground.guard }], guard := some (3, false) }) (v := ?_) rfl (by as_aux_lemma => kernel_rfl) (by as_aux_lemma => kernel_rfl) (by as_aux_lemma => kernel_rfl) (fun _ _ _ h => h) (Or.inl ⟨by rfl, ?_⟩) hHeld ?_
            rotate_left
            · intro w hSw
              clear hSw
              go_simp
              try with_reducible rfl
            try simp only [Act.put, List.setIfInBounds_toArray, List.set_cons_zero, List.set_cons_succ]
            refine wpAnyH_take (i := 6) (oi := { dst := some 74, op := Op.load 3 (Operand.tmp 73), type := 3, pos := "outright.go:131", after := #[{ on := 5, ground := Ground.data }, { on := 3, ground := Ground.guard }], guard := some (3, false) }) (v := ?_) rfl (by as_aux_lemma => kernel_rfl) (by as_aux_lemma => kernel_rfl) (by as_aux_lemma => kernel_rfl) (fun _ _ _ h => h) (Or.inl ⟨by rfl, ?_⟩) hHeld ?_
            rotate_left
            · intro w hSw
              have e1 := (hSw.cell (p := ⟨ga, 0, none⟩) hga3).trans la1
              clear hSw
              go_simp
              try with_reducible rfl
            try simp only [Act.put, List.setIfInBounds_toArray, List.set_cons_zero, List.set_cons_succ]
            refine wpAnyH_take (i := 7) (oi := { dst := some 75, op := Op.binOp BinOp.lss 3 (Operand.tmp 74) (Operand.const (Value.int IntKind.i64 0)) 3, type := 4, pos := "outright.go:131", after := #[{ on := 6, ground := Ground.data }, { on := 3, ground := Ground.guard }], guard := some (3, false) }) (v := .bool false) rfl (by as_aux_lemma => kernel_rfl) (by as_aux_lemma => kernel_rfl) (by as_aux_lemma => kernel_rfl) (fun _ _ _ h => h) (Or.inl ⟨by rfl, ?_⟩) hHeld ?_
            · intro w hSw
              clear hSw
              go_simp
              all_goals first | rfl | simp | omega
            try simp only [Act.put, List.setIfInBounds_toArray, List.set_cons_zero, List.set_cons_succ]
            refine wpAnyH_take (i := 8) (oi := { dst := some 76, op := Op.pick (Operand.tmp 71) (Operand.const (Value.bool true)) (Operand.tmp 75), type := 4, pos := "outright.go:131", after := #[{ on := 3, ground := Ground.data }, { on := 7, ground := Ground.data }], guard := none }) (v := ?_) rfl (by as_aux_lemma => kernel_rfl) (by as_aux_lemma => kernel_rfl) (by as_aux_lemma => kernel_rfl) (fun _ _ _ h => h) (Or.inl ⟨by rfl, ?_⟩) hHeld ?_
            rotate_left
            · intro w hSw
              clear hSw
              go_simp
              try with_reducible rfl
            try simp only [Act.put, List.setIfInBounds_toArray, List.set_cons_zero, List.set_cons_succ]
            refine wpAnyH_take (i := 9) (oi := { dst := some 77, op := Op.move (Operand.tmp 76), type := 4, pos := "outright.go:131", after := #[{ on := 8, ground := Ground.data }, { on := 3, ground := Ground.chain }], guard := none }) (v := ?_) rfl (by as_aux_lemma => kernel_rfl) (by as_aux_lemma => kernel_rfl) (by as_aux_lemma => kernel_rfl) (fun _ _ _ h => h) (Or.inl ⟨by rfl, ?_⟩) hHeld ?_
            rotate_left
            · intro w hSw
              clear hSw
              go_simp
              try with_reducible rfl
            try simp only [Act.put, List.setIfInBounds_toArray, List.set_cons_zero, List.set_cons_succ]
            refine wpAnyH_take (i := 10) (oi := { dst := some 78, op := Op.move (Operand.tmp 8), type := 39, pos := "outright.go:131", after := #[{ on := 9, ground := Ground.guard }], guard := some (9, false) }) (v := ?_) rfl (by as_aux_lemma => kernel_rfl) (by as_aux_lemma => kernel_rfl) (by as_aux_lemma => kernel_rfl) (fun _ _ _ h => h) (Or.inl ⟨by rfl, ?_⟩) hHeld ?_
            rotate_left
            · intro w hSw
              clear hSw
              go_simp
              try with_reducible rfl
            try simp only [Act.put, List.setIfInBounds_toArray, List.set_cons_zero, List.set_cons_succ]
            refine wpAnyH_take (i := 11) (oi := { dst := some 79, op := Op.indexAddr 39 (Operand.tmp 78) (Operand.const (Value.int IntKind.i64 0)), type := 0, pos := "outright.go:131", after := #[{ on := 10, ground := Ground.data }, { on := 9, ground := Ground.guard }], guard := some (9, false) }) (v := ?_) rfl (by as_aux_lemma => kernel_rfl) (by as_aux_lemma => kernel_rfl) (by as_aux_lemma => kernel_rfl) (fun _ _ _ h => h) (Or.inl ⟨by rfl, ?_⟩) hHeld ?_
            rotate_left
            · intro w hSw
              clear hSw
              go_simp
              try with_reducible rfl
            try simp only [Act.put, List.setIfInBounds_toArray, List.set_cons_zero, List.set_cons_succ]
            refine wpAnyH_take (i := 12) (oi := { dst := some 80, op := Op.load 3 (Operand.tmp 79), type := 3, pos := "outright.go:131", after := #[{ on := 11, ground := Ground.data }, { on := 9, ground := Ground.guard }], guard := some (9, false) }) (v := ?_) rfl (by as_aux_lemma => kernel_rfl) (by as_aux_lemma => kernel_rfl) (by as_aux_lemma => kernel_rfl) (fun _ _ _ h => h) (Or.inl ⟨by rfl, ?_⟩) hHeld ?_
            rotate_left
            · intro w hSw
              have e1 := (hSw.cell (p := ⟨ga, 0, none⟩) hga3).trans la1
              clear hSw
              go_simp
              try with_reducible rfl
            try simp only [Act.put, List.setIfInBounds_toArray, List.set_cons_zero, List.set_cons_succ]
            refine wpAnyH_take (i := 13) (oi := { dst := some 81, op := Op.move (Operand.tmp 5), type := 23, pos := "outright.go:131", after := #[{ on := 9, ground := Ground.guard }], guard := some (9, false) }) (v := ?_) rfl (by as_aux_lemma => kernel_rfl) (by as_aux_lemma => kernel_rfl) (by as_aux_lemma => kernel_rfl) (fun _ _ _ h => h) (Or.inl ⟨by rfl, ?_⟩) hHeld ?_
            rotate_left
            · intro w hSw
              clear hSw
              go_simp
              try with_reducible rfl
            try simp only [Act.put, List.setIfInBounds_toArray, List.set_cons_zero, List.set_cons_succ]
            refine wpAnyH_take (i := 14) (oi := { dst := some 82, op := Op.call { callee := Callee.builtin Builtin.len, args := #[Operand.tmp 81], argTypes := #[23] }, type := 3, pos := "outright.go:131", after := #[{ on := 13, ground := Ground.data }, { on := 9, ground := Ground.guard }], guard := some (9, false) }) (v := ?_) rfl (by as_aux_lemma => kernel_rfl) (by as_aux_lemma => kernel_rfl) (by as_aux_lemma => kernel_rfl) (fun _ _ _ h => h) (Or.inl ⟨by rfl, ?_⟩) hHeld ?_
            rotate_left
            · intro w hSw
              clear hSw
              go_simp
              try with_reducible rfl
            try simp only [Act.put, List.setIfInBounds_toArray, List.set_cons_zero, List.set_cons_succ]
            refine wpAnyH_take (i := 15) (oi := { dst := some 83, op := Op.binOp BinOp.geq 3 (Operand.tmp 80) (Operand.tmp 82) 3, type := 4, pos := "outright.go:131", after := #[{ on := 12, ground := Ground.data }, { on := 14, ground := Ground.data }, { on := 9, ground := Ground.guard }], guard := some (9, false) }) (v := .bool false) rfl (by as_aux_lemma => kernel_rfl) (by as_aux_lemma => kernel_rfl) (by as_aux_lemma => kernel_rfl) (fun _ _ _ h => h) (Or.inl ⟨by rfl, ?_⟩) hHeld ?_
            · intro w hSw
              clear hSw
              go_simp
              all_goals first | rfl | simp | omega
            try simp only [Act.put, List.setIfInBounds_toArray, List.set_cons_zero, List.set_cons_succ]
            refine wpAnyH_take (i := 16) (oi := { dst := some 84, op := Op.pick (Operand.tmp 77) (Operand.const (Value.bool true)) (Operand.tmp 83), type := 4, pos := "outright.go:131", after := #[{ on := 9, ground := Ground.data }, { on := 15, ground := Ground.data }], guard := none }) (v := ?_) rfl (by as_aux_lemma => kernel_rfl) (by as_aux_lemma => kernel_rfl) (by as_aux_lemma => kernel_rfl) (fun _ _ _ h => h) (Or.inl ⟨by rfl, ?_⟩) hHeld ?_
            rotate_left
            · intro w hSw
              clear hSw
              go_simp
              try with_reducible rfl
            try simp only [Act.put, List.setIfInBounds_toArray, List.set_cons_zero, List.set_cons_succ]
            refine wpAnyH_take (i := 17) (oi := { dst := some 85, op := Op.move (Operand.tmp 84), type := 4, pos := "outright.go:131", after := #[{ on := 16, ground := Ground.data }, { on := 9, ground := Ground.chain }], guard := none }) (v := ?_) rfl (by as_aux_lemma => kernel_rfl) (by as_aux_lemma => kernel_rfl) (by as_aux_lemma => kernel_rfl) (fun _ _ _ h => h) (Or.inl ⟨by rfl, ?_⟩) hHeld ?_
            rotate_left
            · intro w hSw
              clear hSw
              go_simp
              try with_reducible rfl
            try simp only [Act.put, List.setIfInBounds_toArray, List.set_cons_zero, List.set_cons_succ]
            refine wpAnyH_take (i := 18) (oi := { dst := some 86, op := Op.move (Operand.tmp 5), type := 23, pos := "outright.go:131", after := #[{ on := 17, ground := Ground.guard }], guard := some (17, false) }) (v := ?_) rfl (by as_aux_lemma => kernel_rfl) (by as_aux_lemma => kernel_rfl) (by as_aux_lemma => kernel_rfl) (fun _ _ _ h => h) (Or.inl ⟨by rfl, ?_⟩) hHeld ?_
            rotate_left
            · intro w hSw
              clear hSw
              go_simp
              try with_reducible rfl
            try simp only [Act.put, List.setIfInBounds_toArray, List.set_cons_zero, List.set_cons_succ]
            refine wpAnyH_take (i := 19) (oi := { dst := some 87, op := Op.move (Operand.tmp 9), type := 3, pos := "outright.go:131", after := #[{ on := 17, ground := Ground.guard }], guard := some (17, false) }) (v := ?_) rfl (by as_aux_lemma => kernel_rfl) (by as_aux_lemma => kernel_rfl) (by as_aux_lemma => kernel_rfl) (fun _ _ _ h => h) (Or.inl ⟨by rfl, ?_⟩) hHeld ?_
            rotate_left
            · intro w hSw
              clear hSw
              go_simp
              try with_reducible rfl
            try simp only [Act.put, List.setIfInBounds_toArray, List.set_cons_zero, List.set_cons_succ]
            refine wpAnyH_take (i := 20) (oi := { dst := some 88, op := Op.indexAddr 23 (Operand.tmp 86) (Operand.tmp 87), type := 0, pos := "outright.go:131", after := #[{ on := 18, ground := Ground.data }, { on := 19, ground := Ground.data }, { on := 17, ground := Ground.guard }], guard := some (17, false) }) (v := ?_) rfl (by as_aux_lemma => kernel_rfl) (by as_aux_lemma => kernel_rfl) (by as_aux_lemma => kernel_rfl) (fun _ _ _ h => h) (Or.inl ⟨by rfl, ?_⟩) hHeld ?_
            rotate_left
            · intro w hSw
              clear hSw
              go_simp
              try with_reducible rfl
            try simp only [Act.put, List.setIfInBounds_toArray, List.set_cons_zero, List.set_cons_succ]
            refine wpAnyH_take (i := 21) (oi := { dst := some 89, op := Op.load 38 (Operand.tmp 88), type := 38, pos := "outright.go:131", after := #[{ on := 20, ground := Ground.data }, { on := 17, ground := Ground.guard }], guard := some (17, false) }) (v := p.v) rfl (by as_aux_lemma => kernel_rfl) (by as_aux_lemma => kernel_rfl) (by as_aux_lemma => kernel_rfl) (fun _ _ _ h => h) (yields_prange (by rfl) _ rfl b1 (off1 + k * 29) (by rfl) p (fun w h => rangeAt_below HR3.out h hbl3)) hHeld ?_
            try simp only [Act.put, List.setIfInBounds_toArray, List.set_cons_zero, List.set_cons_succ]
            refine wpAnyH_take (i := 22) (oi := { dst := some 90, op := Op.move (Operand.tmp 5), type := 23, pos := "outright.go:131", after := #[{ on := 17, ground := Ground.guard }], guard := some (17, false) }) (v := ?_) rfl (by as_aux_lemma => kernel_rfl) (by as_aux_lemma => kernel_rfl) (by as_aux_lemma => kernel_rfl) (fun _ _ _ h => h) (Or.inl ⟨by rfl, ?_⟩) hHeld ?_
            rotate_left
            · intro w hSw
              clear hSw
              go_simp
              try with_reducible rfl
            try simp only [Act.put, List.setIfInBounds_toArray, List.set_cons_zero, List.set_cons_succ]
            refine wpAnyH_take (i := 23) (oi := { dst := some 91, op := Op.move (Operand.tmp 9), type := 3, pos := "outright.go:131", after := #[{ on := 17, ground := Ground.guard }], guard := some (17, false) }) (v := ?_) rfl (by as_aux_lemma => kernel_rfl) (by as_aux_lemma => kernel_rfl) (by as_aux_lemma => kernel_rfl) (fun _ _ _ h => h) (Or.inl ⟨by rfl, ?_⟩) hHeld ?_
            rotate_left
            · intro w hSw
              clear hSw
              go_simp
              try with_reducible rfl
            try simp only [Act.put, List.setIfInBounds_toArray, List.set_cons_zero, List.set_cons_succ]
            refine wpAnyH_take (i := 24) (oi := { dst := some 92, op := Op.indexAddr 23 (Operand.tmp 90) (Operand.tmp 91), type := 0, pos := "outright.go:131", after := #[{ on := 22, ground := Ground.data }, { on := 23, ground := Ground.data }, { on := 17, ground := Ground.guard }], guard := some (17, false) }) (v := ?_) rfl (by as_aux_lemma => kernel_rfl) (by as_aux_lemma => kernel_rfl) (by as_aux_lemma => kernel_rfl) (fun _ _ _ h => h) (Or.inl ⟨by rfl, ?_⟩) hHeld ?_
            rotate_left
            · intro w hSw
              clear hSw
              go_simp
              try with_reducible rfl
            try simp only [Act.put, List.setIfInBounds_toArray, List.set_cons_zero, List.set_cons_succ]
            refine wpAnyH_take (i := 25) (oi := { dst := some 93, op := Op.load 38 (Operand.tmp 92), type := 38, pos := "outright.go:131", after := #[{ on := 24, ground := Ground.data }, { on := 17, ground := Ground.guard }], guard := some (17, false) }) (v := p.v) rfl (by as_aux_lemma => kernel_rfl) (by as_aux_lemma => kernel_rfl) (by as_aux_lemma => kernel_rfl) (fun _ _ _ h => h) (yields_prange (by rfl) _ rfl b1 (off1 + k * 29) (by rfl) p (fun w h => rangeAt_below HR3.out h hbl3)) hHeld ?_
            try simp only [Act.put, List.setIfInBounds_toArray, List.set_cons_zero, List.set_cons_succ]
            refine wpAnyH_ready (rs := [26]) (by as_aux_lemma => kernel_rfl) (by simp) ?_
            refine AllReadyH.cons (o := { dst := some 94, op := Op.call { callee := Callee.value (Operand.func 15), args := #[Operand.tmp 89, Operand.tmp 93, Operand.func 10], argTypes := #[38, 38, 41] }, type := 4, pos := "outright.go:131", after := #[{ on := 21, ground := Ground.data }, { on := 25, ground := Ground.data }, { on := 17, ground := Ground.chain }, { on := 17, ground := Ground.guard }], guard := some (17, false) }) rfl (fun K hK => ?_) AllReadyH.nil
            go_simp
            refine (HBT.out p p (.func (.func 10) #[] #[]) (costP priceF) _ (HOK3.out.below hHeld (Nat.le_refl _)) (HOK3.out.below hHeld (Nat.le_refl _)) (fits_cost (price_cost _))).mono ?_
            rintro e w4 ⟨rfl, hb9⟩
            rw [HBS.out]
            go_wp2_with fail
            refine hK.out _ _ (hHeld.trans (hb9.mono hHeld.size)) (fun hHeld => ?_)
            clear hK K
            try simp only [Act.put, List.setIfInBounds_toArray, List.set_cons_zero, List.set_cons_succ]
            refine wpAnyH_take (i := 27) (oi := { dst := some 95, op := Op.unOp UnOp.not 4 (Operand.tmp 94), type := 4, pos := "outright.go:131", after := #[{ on := 26, ground := Ground.data }, { on := 17, ground := Ground.guard }], guard := some (17, false) }) (v := ?_) rfl (by as_aux_lemma => kernel_rfl) (by as_aux_lemma => kernel_rfl) (by as_aux_lemma => kernel_rfl) (fun _ _ _ h => h) (Or.inl ⟨by rfl, ?_⟩) hHeld ?_
            rotate_left
            · intro w hSw
              clear hSw
              go_simp
              try with_reducible rfl
            try simp only [Act.put, List.setIfInBounds_toArray, List.set_cons_zero, List.set_cons_succ]
            refine wpAnyH_take (i := 28) (oi := { dst := some 96, op := Op.pick (Operand.tmp 85) (Operand.const (Value.bool true)) (Operand.tmp 95), type := 4, pos := "outright.go:131", after := #[{ on := 17, ground := Ground.data }, { on := 27, ground := Ground.data }], guard := none }) (v := ?_) rfl (by as_aux_lemma => kernel_rfl) (by as_aux_lemma => kernel_rfl) (by as_aux_lemma => kernel_rfl) (fun _ _ _ h => h) (Or.inl ⟨by rfl, ?_⟩) hHeld ?_
            rotate_left
            · intro w hSw
              clear hSw
              go_simp
              try with_reducible rfl
            try simp only [Act.put, List.setIfInBounds_toArray, List.set_cons_zero, List.set_cons_succ]
            refine wpAnyH_done (by as_aux_lemma => kernel_rfl) ?_ _
            have HB4 := Lib.hid hHeld
            have la4 := (hHeld.cell (p := ⟨ga, 0, none⟩) hga3).trans la1
            have HRB4 : Hid (w4.rangeAt b1 (off1 + x0 * 29) bp.cs.toList) := rangeAt_below HRB.out hHeld hbl3
            have HR4 : Hid ((w4.alloc (.cells bp.cs 38)).rangeAt b1 (off1 + k * 29) p.cs.toList) := Go.World.rangeAt_alloc (rangeAt_below HR3.out hHeld hbl3) _
            have hbl4 : b1 < (w4.alloc (.cells bp.cs 38)).heap.size := by have := hHeld.size; simp; omega
            have HC4 : Hid (CellsAt (w4.alloc (.cells bp.cs 38)) w4.heap.size bp.cs 38) := CellsAt.new _ _ _
            have HB5 : Hid (Below w3.heap.size w3 (w4.alloc (.cells bp.cs 38))) := hHeld.alloc hHeld.size _
            have HONB := Lib.hid (PtOk.pones HOKB.out)
            have HOKB5 : Hid (PtOk (w4.alloc (.cells bp.cs 38)) bp) := HOKB.out.below HB5.out (Nat.le_refl _)
            have HOK5 : Hid (PtOk (w4.alloc (.cells bp.cs 38)) p) := HOK3.out.below HB5.out (Nat.le_refl _)
            clear hHeld la1 HRB HR3 hbl3 HB4
            go_wp2_with (with_reducible show wpList _ _ _ (_ :: _) _ _; first | refine wpList_load_path' rfl (.tmp 101) rfl b1 (off1 + x0 * 29) rfl bp HRB4.out ?_ | refine wpList_store_path rfl (.tmp 10) (.tmp 102) rfl rfl bp rfl rfl HONB.out ?_)
            have hc10 : w4.heap.size < (w4.alloc (.cells bp.cs 38)).heap.size := by simp
            generalize hw5 : w4.alloc (.cells bp.cs 38) = w5 at *
            clear hw5 la4 HRB4
            generalize w4.heap.size = gb at *
            have HRX : Hid (w5.rangeAt gb 0 bp.cs.toList) := HC4.out.range
            have hd1 : ¬ (degF bp < degF p) := by have := HF.out.1; omega
            have hs5 := HB5.out.size
            clear HONB hga3
            go_wp2_with fail
            refine wp_region_held_drew (S := fun w' => Below w5.heap.size w5 w') (by as_aux_lemma => kernel_rfl) (below_drewN (Below.refl _ _) 1) (fun hHeld => ?_)
            refine wpAnyH_take (i := 0) (oi := { dst := some 103, op := Op.move (Operand.tmp 5), type := 23, pos := "outright.go:135", after := #[], guard := none }) (v := ?_) rfl (by as_aux_lemma => kernel_rfl) (by as_aux_lemma => kernel_rfl) (by as_aux_lemma => kernel_rfl) (fun _ _ _ h => h) (Or.inl ⟨by rfl, ?_⟩) hHeld ?_
            rotate_left
            · intro w hSw
              clear hSw
              go_simp
              try with_reducible rfl
            try simp only [Act.put, List.setIfInBounds_toArray, List.set_cons_zero, List.set_cons_succ]
            refine wpAnyH_take (i := 1) (oi := { dst := some 104, op := Op.move (Operand.tmp 9), type := 3, pos := "outright.go:135", after := #[], guard := none }) (v := ?_) rfl (by as_aux_lemma => kernel_rfl) (by as_aux_lemma => kernel_rfl) (by as_aux_lemma => kernel_rfl) (fun _ _ _ h => h) (Or.inl ⟨by rfl, ?_⟩) hHeld ?_
            rotate_left
            · intro w hSw
              clear hSw
              go_simp
              try with_reducible rfl
            try simp only [Act.put, List.setIfInBounds_toArray, List.set_cons_zero, List.set_cons_succ]
            refine wpAnyH_take (i := 2) (oi := { dst := some 105, op := Op.indexAddr 23 (Operand.tmp 103) (Operand.tmp 104), type := 0, pos := "outright.go:135", after := #[{ on := 0, ground := Ground.data }, { on := 1, ground := Ground.data }], guard := none }) (v := ?_) rfl (by as_aux_lemma => kernel_rfl) (by as_aux_lemma => kernel_rfl) (by as_aux_lemma => kernel_rfl) (fun _ _ _ h => h) (Or.inl ⟨by rfl, ?_⟩) hHeld ?_
            rotate_left
            · intro w hSw
              clear hSw
              go_simp
              try with_reducible rfl
            try simp only [Act.put, List.setIfInBounds_toArray, List.set_cons_zero, List.set_cons_succ]
            refine wpAnyH_take (i := 3) (oi := { dst := some 106, op := Op.load 38 (Operand.tmp 105), type := 38, pos := "outright.go:135", after := #[{ on := 2, ground := Ground.data }], guard := none }) (v := p.v) rfl (by as_aux_lemma => kernel_rfl) (by as_aux_lemma => kernel_rfl) (by as_aux_lemma => kernel_rfl) (fun _ _ _ h => h) (yields_prange (by rfl) _ rfl b1 (off1 + k * 29) (by rfl) p (fun w h => rangeAt_below HR4.out h hbl4)) hHeld ?_
            try simp only [Act.put, List.setIfInBounds_toArray, List.set_cons_zero, List.set_cons_succ]
            refine wpAnyH_take (i := 5) (oi := { dst := some 108, op := Op.load 38 (Operand.tmp 10), type := 38, pos := "outright.go:135", after := #[], guard := none }) (v := bp.v) rfl (by as_aux_lemma => kernel_rfl) (by as_aux_lemma => kernel_rfl) (by as_aux_lemma => kernel_rfl) (fun _ _ _ h => h) (yields_prange (by rfl) _ rfl gb (0) (by rfl) bp (fun w h => rangeAt_below HRX.out h hc10)) hHeld ?_
            try simp only [Act.put, List.setIfInBounds_toArray, List.set_cons_zero, List.set_cons_succ]
            refine wpAnyH_ready (rs := [4]) (by as_aux_lemma => kernel_rfl) (by simp) ?_
            refine AllReadyH.cons (o := { dst := some 107, op := Op.call { callee := Callee.value (Operand.func 16), args := #[Operand.tmp 106], argTypes := #[38] }, type := 28, pos := "outright.go:135", after := #[{ on := 3, ground := Ground.data }], guard := none }) rfl (fun K hK => ?_) AllReadyH.nil
            go_simp
            refine (HDE.out p _).mono ?_
            rintro e w6a ⟨rfl, hb9⟩
            go_wp2_with fail
            refine hK.out _ _ (hHeld.trans (hb9.mono hHeld.size)) (fun hHeld => ?_)
            clear hK K
            try simp only [Act.put, List.setIfInBounds_toArray, List.set_cons_zero, List.set_cons_succ]
            refine wpAnyH_ready (rs := [6]) (by as_aux_lemma => kernel_rfl) (by simp) ?_
            refine AllReadyH.cons (o := { dst := some 109, op := Op.call { callee := Callee.value (Operand.func 16), args := #[Operand.tmp 108], argTypes := #[38] }, type := 28, pos := "outright.go:135", after := #[{ on := 5, ground := Ground.data }, { on := 4, ground := Ground.chain }], guard := none }) rfl (fun K hK => ?_) AllReadyH.nil
            go_simp
            refine (HDE.out bp _).mono ?_
            rintro e w6 ⟨rfl, hb9⟩
            go_wp2_with fail
            refine hK.out _ _ (hHeld.trans (hb9.mono hHeld.size)) (fun hHeld => ?_)
            clear hK K
            try simp only [Act.put, List.setIfInBounds_toArray, List.set_cons_zero, List.set_cons_succ]
            refine wpAnyH_take (i := 7) (oi := { dst := some 110, op := Op.binOp BinOp.gtr 28 (Operand.tmp 107) (Operand.tmp 109) 28, type := 4, pos := "outright.go:135", after := #[{ on := 4, ground := Ground.data }, { on := 6, ground := Ground.data }], guard := none }) (v := .bool false) rfl (by as_aux_lemma => kernel_rfl) (by as_aux_lemma => kernel_rfl) (by as_aux_lemma => kernel_rfl) (fun _ _ _ h => h) (Or.inl ⟨by rfl, ?_⟩) hHeld ?_
            · intro w hSw
              clear hSw
              go_simp
              all_goals first | rfl | simp | omega
            try simp only [Act.put, List.setIfInBounds_toArray, List.set_cons_zero, List.set_cons_succ]
            refine wpAnyH_done (by as_aux_lemma => kernel_rfl) ?_ _
            have HB6 := Lib.hid hHeld
            have HR6 : Hid (w6.rangeAt b1 (off1 + k * 29) p.cs.toList) := rangeAt_below HR4.out hHeld hbl4
            have HRX6 : Hid (w6.rangeAt gb 0 bp.cs.toList) := rangeAt_below HRX.out hHeld hc10
            have hbl6 : b1 < w6.heap.size := Nat.lt_of_lt_of_le hbl4 hHeld.size
            have hc6 : gb < w6.heap.size := Nat.lt_of_lt_of_le hc10 hHeld.size
            have hs6 := hHeld.size
            have HOKB6 : Hid (PtOk w6 bp) := HOKB5.out.below hHeld (Nat.le_refl _)
            have HOK6 : Hid (PtOk w6 p) := HOK5.out.below hHeld (Nat.le_refl _)
            clear hHeld HR4 HRX hbl4 hc10 hd1 HC4
            by_cases hdd : degF p < degF bp
            · go_wp2_with fail
              refine wp_region_held_drew (S := fun w' => Below w6.heap.size w6 w') (by as_aux_lemma => kernel_rfl) (below_drewN (Below.refl _ _) 1) (fun hHeld => ?_)
              refine wpAnyH_take (i := 0) (oi := { dst := some 111, op := Op.move (Operand.tmp 5), type := 23, pos := "outright.go:138", after := #[], guard := none }) (v := ?_) rfl (by as_aux_lemma => kernel_rfl) (by as_aux_lemma => kernel_rfl) (by as_aux_lemma => kernel_rfl) (fun _ _ _ h => h) (Or.inl ⟨by rfl, ?_⟩) hHeld ?_
              rotate_left
              · intro w hSw
                clear hSw
                go_simp
                try with_reducible rfl
              try simp only [Act.put, List.setIfInBounds_toArray, List.set_cons_zero, List.set_cons_succ]
              refine wpAnyH_take (i := 1) (oi := { dst := some 112, op := Op.move (Operand.tmp 9), type := 3, pos := "outright.go:138", after := #[], guard := none }) (v := ?_) rfl (by as_aux_lemma => kernel_rfl) (by as_aux_lemma => kernel_rfl) (by as_aux_lemma => kernel_rfl) (fun _ _ _ h => h) (Or.inl ⟨by rfl, ?_⟩) hHeld ?_
              rotate_left
              · intro w hSw
                clear hSw
                go_simp
                try with_reducible rfl
              try simp only [Act.put, List.setIfInBounds_toArray, List.set_cons_zero, List.set_cons_succ]
              refine wpAnyH_take (i := 2) (oi := { dst := some 113, op := Op.indexAddr 23 (Operand.tmp 111) (Operand.tmp 112), type := 0, pos := "outright.go:138", after := #[{ on := 0, ground := Ground.data }, { on := 1, ground := Ground.data }], guard := none }) (v := ?_) rfl (by as_aux_lemma => kernel_rfl) (by as_aux_lemma => kernel_rfl) (by as_aux_lemma => kernel_rfl) (fun _ _ _ h => h) (Or.inl ⟨by rfl, ?_⟩) hHeld ?_
              rotate_left
              · intro w hSw
                clear hSw
                go_simp
                try with_reducible rfl
              try simp only [Act.put, List.setIfInBounds_toArray, List.set_cons_zero, List.set_cons_succ]
              refine wpAnyH_take (i := 3) (oi := { dst := some 114, op := Op.load 38 (Operand.tmp 113), type := 38, pos := "outright.go:138", after := #[{ on := 2, ground := Ground.data }], guard := none }) (v := p.v) rfl (by as_aux_lemma => kernel_rfl) (by as_aux_lemma => kernel_rfl) (by as_aux_lemma => kernel_rfl) (fun _ _ _ h => h) (yields_prange (by rfl) _ rfl b1 (off1 + k * 29) (by rfl) p (fun w h => rangeAt_below HR6.out h hbl6)) hHeld ?_
              try simp only [Act.put, List.setIfInBounds_toArray, List.set_cons_zero, List.set_cons_succ]
              refine wpAnyH_take (i := 5) (oi := { dst := some 116, op := Op.load 38 (Operand.tmp 10), type := 38, pos := "outright.go:138", after := #[], guard := none }) (v := bp.v) rfl (by as_aux_lemma => kernel_rfl) (by as_aux_lemma => kernel_rfl) (by as_aux_lemma => kernel_rfl) (fun _ _ _ h => h) (yields_prange (by rfl) _ rfl gb (0) (by rfl) bp (fun w h => rangeAt_below HRX6.out h hc6)) hHeld ?_
              try simp only [Act.put, List.setIfInBounds_toArray, List.set_cons_zero, List.set_cons_succ]
              refine wpAnyH_ready (rs := [4]) (by as_aux_lemma => kernel_rfl) (by simp) ?_
              refine AllReadyH.cons (o := { dst := some 115, op := Op.call { callee := Callee.value (Operand.func 16), args := #[Operand.tmp 114], argTypes := #[38] }, type := 28, pos := "outright.go:138", after := #[{ on := 3, ground := Ground.data }], guard := none }) rfl (fun K hK => ?_) AllReadyH.nil
              go_simp
              refine (HDE.out p _).mono ?_
              rintro e w7a ⟨rfl, hb9⟩
              go_wp2_with fail
              refine hK.out _ _ (hHeld.trans (hb9.mono hHeld.size)) (fun hHeld => ?_)
              clear hK K
              try simp only [Act.put, List.setIfInBounds_toArray, List.set_cons_zero, List.set_cons_succ]
              refine wpAnyH_ready (rs := [6]) (by as_aux_lemma => kernel_rfl) (by simp) ?_
              refine AllReadyH.cons (o := { dst := some 117, op := Op.call { callee := Callee.value (Operand.func 16), args := #[Operand.tmp 116], argTypes := #[38] }, type := 28, pos := "outright.go:138", after := #[{ on := 5, ground := Ground.data }, { on := 4, ground := Ground.chain }], guard := none }) rfl (fun K hK => ?_) AllReadyH.nil
              go_simp
              refine (HDE.out bp _).mono ?_
              rintro e w7 ⟨rfl, hb9⟩
              go_wp2_with fail
              refine hK.out _ _ (hHeld.trans (hb9.mono hHeld.size)) (fun hHeld => ?_)
              clear hK K
              try simp only [Act.put, List.setIfInBounds_toArray, List.set_cons_zero, List.set_cons_succ]
              refine wpAnyH_take (i := 7) (oi := { dst := some 118, op := Op.binOp BinOp.lss 28 (Operand.tmp 115) (Operand.tmp 117) 28, type := 4, pos := "outright.go:138", after := #[{ on := 4, ground := Ground.data }, { on := 6, ground := Ground.data }], guard := none }) (v := .bool true) rfl (by as_aux_lemma => kernel_rfl) (by as_aux_lemma => kernel_rfl) (by as_aux_lemma => kernel_rfl) (fun _ _ _ h => h) (Or.inl ⟨by rfl, ?_⟩) hHeld ?_
              · intro w hSw
                clear hSw
                go_simp
                all_goals first | rfl | simp | omega
              try simp only [Act.put, List.setIfInBounds_toArray, List.set_cons_zero, List.set_cons_succ]
              refine wpAnyH_done (by as_aux_lemma => kernel_rfl) ?_ _
              have HBE := Lib.hid hHeld
              clear hHeld
              go_wp2_with fail
              exact ⟨⟨k + 1, by omega, by go_num, HB3.out.trans ((HB5.out.trans (HB6.out.mono hs5)).mono hs3 |>.trans (HBE.out.mono (by omega)))⟩, by simp [intOf]; omega⟩
            · go_wp2_with fail
              refine wp_region_held_drew (S := fun w' => Below w6.heap.size w6 w') (by as_aux_lemma => kernel_rfl) (below_drewN (Below.refl _ _) 1) (fun hHeld => ?_)
              refine wpAnyH_take (i := 0) (oi := { dst := some 111, op := Op.move (Operand.tmp 5), type := 23, pos := "outright.go:138", after := #[], guard := none }) (v := ?_) rfl (by as_aux_lemma => kernel_rfl) (by as_aux_lemma => kernel_rfl) (by as_aux_lemma => kernel_rfl) (fun _ _ _ h => h) (Or.inl ⟨by rfl, ?_⟩) hHeld ?_
              rotate_left
              · intro w hSw
                clear hSw
                go_simp
                try with_reducible rfl
              try simp only [Act.put, List.setIfInBounds_toArray, List.set_cons_zero, List.set_cons_succ]
              refine wpAnyH_take (i := 1) (oi := { dst := some 112, op := Op.move (Operand.tmp 9), type := 3, pos := "outright.go:138", after := #[], guard := none }) (v := ?_) rfl (by as_aux_lemma => kernel_rfl) (by as_aux_lemma => kernel_rfl) (by as_aux_lemma => kernel_rfl) (fun _ _ _ h => h) (Or.inl ⟨by rfl, ?_⟩) hHeld ?_
              rotate_left
              · intro w hSw
                clear hSw
                go_simp
                try with_reducible rfl
              try simp only [Act.put, List.setIfInBounds_toArray, List.set_cons_zero, List.set_cons_succ]
              refine wpAnyH_take (i := 2) (oi := { dst := some 113, op := Op.indexAddr 23 (Operand.tmp 111) (Operand.tmp 112), type := 0, pos := "outright.go:138", after := #[{ on := 0, ground := Ground.data }, { on := 1, ground := Ground.data }], guard := none }) (v := ?_) rfl (by as_aux_lemma => kernel_rfl) (by as_aux_lemma => kernel_rfl) (by as_aux_lemma => kernel_rfl) (fun _ _ _ h => h) (Or.inl ⟨by rfl, ?_⟩) hHeld ?_
              rotate_left
              · intro w hSw
                clear hSw
                go_simp
                try with_reducible rfl
              try simp only [Act.put, List.setIfInBounds_toArray, List.set_cons_zero, List.set_cons_succ]
              refine wpAnyH_take (i := 3) (oi := { dst := some 114, op := Op.load 38 (Operand.tmp 113), type := 38, pos := "outright.go:138", after := #[{ on := 2, ground := Ground.data }], guard := none }) (v := p.v) rfl (by as_aux_lemma => kernel_rfl) (by as_aux_lemma => kernel_rfl) (by as_aux_lemma => kernel_rfl) (fun _ _ _ h => h) (yields_prange (by rfl) _ rfl b1 (off1 + k * 29) (by rfl) p (fun w h => rangeAt_below HR6.out h hbl6)) hHeld ?_
              try simp only [Act.put, List.setIfInBounds_toArray, List.set_cons_zero, List.set_cons_succ]
              refine wpAnyH_take (i := 5) (oi := { dst := some 116, op := Op.load 38 (Operand.tmp 10), type := 38, pos := "outright.go:138", after := #[], guard := none }) (v := bp.v) rfl (by as_aux_lemma => kernel_rfl) (by as_aux_lemma => kernel_rfl) (by as_aux_lemma => kernel_rfl) (fun _ _ _ h => h) (yields_prange (by rfl) _ rfl gb (0) (by rfl) bp (fun w h => rangeAt_below HRX6.out h hc6)) hHeld ?_
              try simp only [Act.put, List.setIfInBounds_toArray, List.set_cons_zero, List.set_cons_succ]
              refine wpAnyH_ready (rs := [4]) (by as_aux_lemma => kernel_rfl) (by simp) ?_
              refine AllReadyH.cons (o := { dst := some 115, op := Op.call { callee := Callee.value (Operand.func 16), args := #[Operand.tmp 114], argTypes := #[38] }, type := 28, pos := "outright.go:138", after := #[{ on := 3, ground := Ground.data }], guard := none }) rfl (fun K hK => ?_) AllReadyH.nil
              go_simp
              refine (HDE.out p _).mono ?_
              rintro e w7a ⟨rfl, hb9⟩
              go_wp2_with fail
              refine hK.out _ _ (hHeld.trans (hb9.mono hHeld.size)) (fun hHeld => ?_)
              clear hK K
              try simp only [Act.put, List.setIfInBounds_toArray, List.set_cons_zero, List.set_cons_succ]
              refine wpAnyH_ready (rs := [6]) (by as_aux_lemma => kernel_rfl) (by simp) ?_
              refine AllReadyH.cons (o := { dst := some 117, op := Op.call { callee := Callee.value (Operand.func 16), args := #[Operand.tmp 116], argTypes := #[38] }, type := 28, pos := "outright.go:138", after := #[{ on := 5, ground := Ground.data }, { on := 4, ground := Ground.chain }], guard := none }) rfl (fun K hK => ?_) AllReadyH.nil
              go_simp
              refine (HDE.out bp _).mono ?_
              rintro e w7 ⟨rfl, hb9⟩
              go_wp2_with fail
              refine hK.out _ _ (hHeld.trans (hb9.mono hHeld.size)) (fun hHeld => ?_)
              clear hK K
              try simp only [Act.put, List.setIfInBounds_toArray, List.set_cons_zero, List.set_cons_succ]
              refine wpAnyH_take (i := 7) (oi := { dst := some 118, op := Op.binOp BinOp.lss 28 (Operand.tmp 115) (Operand.tmp 117) 28, type := 4, pos := "outright.go:138", after := #[{ on := 4, ground := Ground.data }, { on := 6, ground := Ground.data }], guard := none }) (v := .bool false) rfl (by as_aux_lemma => kernel_rfl) (by as_aux_lemma => kernel_rfl) (by as_aux_lemma => kernel_rfl) (fun _ _ _ h => h) (Or.inl ⟨by rfl, ?_⟩) hHeld ?_
              · intro w hSw
                clear hSw
                go_simp
                all_goals first | rfl | simp | omega
              try simp only [Act.put, List.setIfInBounds_toArray, List.set_cons_zero, List.set_cons_succ]
              refine wpAnyH_done (by as_aux_lemma => kernel_rfl) ?_ _
              have HB7 := Lib.hid hHeld
              have HR7 : Hid (w7.rangeAt b1 (off1 + k * 29) p.cs.toList) := rangeAt_below HR6.out hHeld hbl6
              have HRX7 : Hid (w7.rangeAt gb 0 bp.cs.toList) := rangeAt_below HRX6.out hHeld hc6
              have hbl7 : b1 < w7.heap.size := Nat.lt_of_lt_of_le hbl6 hHeld.size
              have hc7 : gb < w7.heap.size := Nat.lt_of_lt_of_le hc6 hHeld.size
              have hs7 := hHeld.size
              have HOKB7 : Hid (PtOk w7 bp) := HOKB6.out.below hHeld (Nat.le_refl _)
              have HOK7 : Hid (PtOk w7 p) := HOK6.out.below hHeld (Nat.le_refl _)
              have HF2 := Lib.hid (HF.out.2 (by omega))
              have k1 := range_at (j := 22) HR7.out (show p.cs[22]? = some (.int .i64 p.kind) from by kernel_rfl)
              have k2 := range_at (j := 22) HRX7.out (show bp.cs[22]? = some (.int .i64 bp.kind) from by kernel_rfl)
              have k3 := range_at (j := 7) HR7.out (show p.cs[7]? = some (.slice p.pA p.segs.length p.pC) from by kernel_rfl)
              have k4 := range_at (j := 7) HRX7.out (show bp.cs[7]? = some (.slice bp.pA bp.segs.length bp.pC) from by kernel_rfl)
              simp only [Nat.zero_add] at k2 k4
              have HLP := Lib.hid (fun V (h : PtOk V p) => length_any p.pA p.segs p.pC V h.rd h.len h.cap)
              have HLB := Lib.hid (fun V (h : PtOk V bp) => length_any bp.pA bp.segs bp.pC V h.rd h.len h.cap)
              clear hHeld HR6 HRX6 hbl6 hc6 HOKB6 HOK6 HF
              have q1 : Hid ((p.kind == 1) = false ∨ (p.kind == 1) = true ∧ (bp.kind != 1) = false) := by
                by_cases hk1 : p.kind = 1
                · refine .inr ⟨by rw [hk1]; rfl, ?_⟩
                  rw [HF2.out.1 hk1]
                  rfl
                · exact .inl (beq_eq_false_iff_ne.2 hk1)
              rcases q1.out with q2 | ⟨q2, q3⟩
              · go_wp2_with fail
                by_cases hkk : p.kind = bp.kind
                · have hll2 : ¬ (lenF p.segs < lenF bp.segs) := by have := HF2.out.2 hkk; omega
                  have q4 : (p.kind == bp.kind) = true := by rw [hkk]; simp
                  clear hkk
                  go_wp2_with fail
                  refine wp_region_held_drew (S := fun w' => Below w7.heap.size w7 w') (by as_aux_lemma => kernel_rfl) (below_drewN (Below.refl _ _) 1) (fun hHeld => ?_)
                  refine wpAnyH_take (i := 0) (oi := { dst := some 132, op := Op.move (Operand.tmp 5), type := 23, pos := "outright.go:144", after := #[], guard := none }) (v := ?_) rfl (by as_aux_lemma => kernel_rfl) (by as_aux_lemma => kernel_rfl) (by as_aux_lemma => kernel_rfl) (fun _ _ _ h => h) (Or.inl ⟨by rfl, ?_⟩) hHeld ?_
                  rotate_left
                  · intro w hSw
                    clear hSw
                    go_simp
                    try with_reducible rfl
                  try simp only [Act.put, List.setIfInBounds_toArray, List.set_cons_zero, List.set_cons_succ]
                  refine wpAnyH_take (i := 1) (oi := { dst := some 133, op := Op.move (Operand.tmp 9), type := 3, pos := "outright.go:144", after := #[], guard := none }) (v := ?_) rfl (by as_aux_lemma => kernel_rfl) (by as_aux_lemma => kernel_rfl) (by as_aux_lemma => kernel_rfl) (fun _ _ _ h => h) (Or.inl ⟨by rfl, ?_⟩) hHeld ?_
                  rotate_left
                  · intro w hSw
                    clear hSw
                    go_simp
                    try with_reducible rfl
                  try simp only [Act.put, List.setIfInBounds_toArray, List.set_cons_zero, List.set_cons_succ]
                  refine wpAnyH_take (i := 2) (oi := { dst := some 134, op := Op.indexAddr 23 (Operand.tmp 132) (Operand.tmp 133), type := 0, pos := "outright.go:144", after := #[{ on := 0, ground := Ground.data }, { on := 1, ground := Ground.data }], guard := none }) (v := ?_) rfl (by as_aux_lemma => kernel_rfl) (by as_aux_lemma => kernel_rfl) (by as_aux_lemma => kernel_rfl) (fun _ _ _ h => h) (Or.inl ⟨by rfl, ?_⟩) hHeld ?_
                  rotate_left
                  · intro w hSw
                    clear hSw
                    go_simp
                    try with_reducible rfl
                  try simp only [Act.put, List.setIfInBounds_toArray, List.set_cons_zero, List.set_cons_succ]
                  refine wpAnyH_take (i := 3) (oi := { dst := some 135, op := Op.fieldAddr 38 (Operand.tmp 134) 4, type := 0, pos := "outright.go:144", after := #[{ on := 2, ground := Ground.data }], guard := none }) (v := ?_) rfl (by as_aux_lemma => kernel_rfl) (by as_aux_lemma => kernel_rfl) (by as_aux_lemma => kernel_rfl) (fun _ _ _ h => h) (Or.inl ⟨by rfl, ?_⟩) hHeld ?_
                  rotate_left
                  · intro w hSw
                    clear hSw
                    go_simp
                    try with_reducible rfl
                  try simp only [Act.put, List.setIfInBounds_toArray, List.set_cons_zero, List.set_cons_succ]
                  refine wpAnyH_take (i := 4) (oi := { dst := some 136, op := Op.fieldAddr 36 (Operand.tmp 135) 0, type := 0, pos := "outright.go:144", after := #[{ on := 3, ground := Ground.data }], guard := none }) (v := ?_) rfl (by as_aux_lemma => kernel_rfl) (by as_aux_lemma => kernel_rfl) (by as_aux_lemma => kernel_rfl) (fun _ _ _ h => h) (Or.inl ⟨by rfl, ?_⟩) hHeld ?_
                  rotate_left
                  · intro w hSw
                    clear hSw
                    go_simp
                    try with_reducible rfl
                  try simp only [Act.put, List.setIfInBounds_toArray, List.set_cons_zero, List.set_cons_succ]
                  refine wpAnyH_take (i := 5) (oi := { dst := some 137, op := Op.load 3 (Operand.tmp 136), type := 3, pos := "outright.go:144", after := #[{ on := 4, ground := Ground.data }], guard := none }) (v := ?_) rfl (by as_aux_lemma => kernel_rfl) (by as_aux_lemma => kernel_rfl) (by as_aux_lemma => kernel_rfl) (fun _ _ _ h => h) (Or.inl ⟨by rfl, ?_⟩) hHeld ?_
                  rotate_left
                  · intro w hSw
                    have e1 := (hSw.cell (p := ⟨b1, off1 + k * 29 + 22, none⟩) hbl7).trans k1
                    have e2 := (hSw.cell (p := ⟨gb, 22, none⟩) hc7).trans k2
                    have e3 := (hSw.cell (p := ⟨b1, off1 + k * 29 + 7, none⟩) hbl7).trans k3
                    have e4 := (hSw.cell (p := ⟨gb, 7, none⟩) hc7).trans k4
                    clear hSw
                    go_simp
                    try with_reducible rfl
                  try simp only [Act.put, List.setIfInBounds_toArray, List.set_cons_zero, List.set_cons_succ]
                  refine wpAnyH_take (i := 6) (oi := { dst := some 138, op := Op.fieldAddr 38 (Operand.tmp 10) 4, type := 0, pos := "outright.go:144", after := #[], guard := none }) (v := ?_) rfl (by as_aux_lemma => kernel_rfl) (by as_aux_lemma => kernel_rfl) (by as_aux_lemma => kernel_rfl) (fun _ _ _ h => h) (Or.inl ⟨by rfl, ?_⟩) hHeld ?_
                  rotate_left
                  · intro w hSw
                    clear hSw
                    go_simp
                    try with_reducible rfl
                  try simp only [Act.put, List.setIfInBounds_toArray, List.set_cons_zero, List.set_cons_succ]
                  refine wpAnyH_take (i := 7) (oi := { dst := some 139, op := Op.fieldAddr 36 (Operand.tmp 138) 0, type := 0, pos := "outright.go:144", after := #[{ on := 6, ground := Ground.data }], guard := none }) (v := ?_) rfl (by as_aux_lemma => kernel_rfl) (by as_aux_lemma => kernel_rfl) (by as_aux_lemma => kernel_rfl) (fun _ _ _ h => h) (Or.inl ⟨by rfl, ?_⟩) hHeld ?_
                  rotate_left
                  · intro w hSw
                    clear hSw
                    go_simp
                    try with_reducible rfl
                  try simp only [Act.put, List.setIfInBounds_toArray, List.set_cons_zero, List.set_cons_succ]
                  refine wpAnyH_take (i := 8) (oi := { dst := some 140, op := Op.load 3 (Operand.tmp 139), type := 3, pos := "outright.go:144", after := #[{ on := 7, ground := Ground.data }], guard := none }) (v := ?_) rfl (by as_aux_lemma => kernel_rfl) (by as_aux_lemma => kernel_rfl) (by as_aux_lemma => kernel_rfl) (fun _ _ _ h => h) (Or.inl ⟨by rfl, ?_⟩) hHeld ?_
                  rotate_left
                  · intro w hSw
                    have e1 := (hSw.cell (p := ⟨b1, off1 + k * 29 + 22, none⟩) hbl7).trans k1
                    have e2 := (hSw.cell (p := ⟨gb, 22, none⟩) hc7).trans k2
                    have e3 := (hSw.cell (p := ⟨b1, off1 + k * 29 + 7, none⟩) hbl7).trans k3
                    have e4 := (hSw.cell (p := ⟨gb, 7, none⟩) hc7).trans k4
                    clear hSw
                    go_simp
                    try with_reducible rfl
                  try simp only [Act.put, List.setIfInBounds_toArray, List.set_cons_zero, List.set_cons_succ]
                  refine wpAnyH_take (i := 9) (oi := { dst := some 141, op := Op.binOp BinOp.eql 3 (Operand.tmp 137) (Operand.tmp 140) 3, type := 4, pos := "outright.go:144", after := #[{ on := 5, ground := Ground.data }, { on := 8, ground := Ground.data }], guard := none }) (v := .bool true) rfl (by as_aux_lemma => kernel_rfl) (by as_aux_lemma => kernel_rfl) (by as_aux_lemma => kernel_rfl) (fun _ _ _ h => h) (Or.inl ⟨by rfl, ?_⟩) hHeld ?_
                  · intro w hSw
                    clear hSw
                    go_simp
                    all_goals first | rfl | simp | omega
                  try simp only [Act.put, List.setIfInBounds_toArray, List.set_cons_zero, List.set_cons_succ]
                  refine wpAnyH_take (i := 10) (oi := { dst := some 142, op := Op.move (Operand.tmp 141), type := 4, pos := "outright.go:144", after := #[{ on := 9, ground := Ground.data }], guard := none }) (v := ?_) rfl (by as_aux_lemma => kernel_rfl) (by as_aux_lemma => kernel_rfl) (by as_aux_lemma => kernel_rfl) (fun _ _ _ h => h) (Or.inl ⟨by rfl, ?_⟩) hHeld ?_
                  rotate_left
                  · intro w hSw
                    clear hSw
                    go_simp
                    try with_reducible rfl
                  try simp only [Act.put, List.setIfInBounds_toArray, List.set_cons_zero, List.set_cons_succ]
                  refine wpAnyH_take (i := 11) (oi := { dst := some 143, op := Op.move (Operand.tmp 5), type := 23, pos := "outright.go:144", after := #[{ on := 10, ground := Ground.guard }], guard := some (10, true) }) (v := ?_) rfl (by as_aux_lemma => kernel_rfl) (by as_aux_lemma => kernel_rfl) (by as_aux_lemma => kernel_rfl) (fun _ _ _ h => h) (Or.inl ⟨by rfl, ?_⟩) hHeld ?_
                  rotate_left
                  · intro w hSw
                    clear hSw
                    go_simp
                    try with_reducible rfl
                  try simp only [Act.put, List.setIfInBounds_toArray, List.set_cons_zero, List.set_cons_succ]
                  refine wpAnyH_take (i := 12) (oi := { dst := some 144, op := Op.move (Operand.tmp 9), type := 3, pos := "outright.go:144", after := #[{ on := 10, ground := Ground.guard }], guard := some (10, true) }) (v := ?_) rfl (by as_aux_lemma => kernel_rfl) (by as_aux_lemma => kernel_rfl) (by as_aux_lemma => kernel_rfl) (fun _ _ _ h => h) (Or.inl ⟨by rfl, ?_⟩) hHeld ?_
                  rotate_left
                  · intro w hSw
                    clear hSw
                    go_simp
                    try with_reducible rfl
                  try simp only [Act.put, List.setIfInBounds_toArray, List.set_cons_zero, List.set_cons_succ]
                  refine wpAnyH_take (i := 13) (oi := { dst := some 145, op := Op.indexAddr 23 (Operand.tmp 143) (Operand.tmp 144), type := 0, pos := "outright.go:144", after := #[{ on := 11, ground := Ground.data }, { on := 12, ground := Ground.data }, { on := 10, ground := Ground.guard }], guard := some (10, true) }) (v := ?_) rfl (by as_aux_lemma => kernel_rfl) (by as_aux_lemma => kernel_rfl) (by as_aux_lemma => kernel_rfl) (fun _ _ _ h => h) (Or.inl ⟨by rfl, ?_⟩) hHeld ?_
                  rotate_left
                  · intro w hSw
                    clear hSw
                    go_simp
                    try with_reducible rfl
                  try simp only [Act.put, List.setIfInBounds_toArray, List.set_cons_zero, List.set_cons_succ]
                  refine wpAnyH_take (i := 14) (oi := { dst := some 146, op := Op.fieldAddr 38 (Operand.tmp 145) 3, type := 0, pos := "outright.go:144", after := #[{ on := 13, ground := Ground.data }, { on := 10, ground := Ground.guard }], guard := some (10, true) }) (v := ?_) rfl (by as_aux_lemma => kernel_rfl) (by as_aux_lemma => kernel_rfl) (by as_aux_lemma => kernel_rfl) (fun _ _ _ h => h) (Or.inl ⟨by rfl, ?_⟩) hHeld ?_
                  rotate_left
                  · intro w hSw
                    clear hSw
                    go_simp
                    try with_reducible rfl
                  try simp only [Act.put, List.setIfInBounds_toArray, List.set_cons_zero, List.set_cons_succ]
                  refine wpAnyH_take (i := 15) (oi := { dst := some 147, op := Op.fieldAddr 34 (Operand.tmp 146) 1, type := 0, pos := "outright.go:144", after := #[{ on := 14, ground := Ground.data }, { on := 10, ground := Ground.guard }], guard := some (10, true) }) (v := ?_) rfl (by as_aux_lemma => kernel_rfl) (by as_aux_lemma => kernel_rfl) (by as_aux_lemma => kernel_rfl) (fun _ _ _ h => h) (Or.inl ⟨by rfl, ?_⟩) hHeld ?_
                  rotate_left
                  · intro w hSw
                    clear hSw
                    go_simp
                    try with_reducible rfl
                  try simp only [Act.put, List.setIfInBounds_toArray, List.set_cons_zero, List.set_cons_succ]
                  refine wpAnyH_take (i := 16) (oi := { dst := some 148, op := Op.load 29 (Operand.tmp 147), type := 29, pos := "outright.go:144", after := #[{ on := 15, ground := Ground.data }, { on := 10, ground := Ground.guard }], guard := some (10, true) }) (v := ?_) rfl (by as_aux_lemma => kernel_rfl) (by as_aux_lemma => kernel_rfl) (by as_aux_lemma => kernel_rfl) (fun _ _ _ h => h) (Or.inl ⟨by rfl, ?_⟩) hHeld ?_
                  rotate_left
                  · intro w hSw
                    have e1 := (hSw.cell (p := ⟨b1, off1 + k * 29 + 22, none⟩) hbl7).trans k1
                    have e2 := (hSw.cell (p := ⟨gb, 22, none⟩) hc7).trans k2
                    have e3 := (hSw.cell (p := ⟨b1, off1 + k * 29 + 7, none⟩) hbl7).trans k3
                    have e4 := (hSw.cell (p := ⟨gb, 7, none⟩) hc7).trans k4
                    clear hSw
                    go_simp
                    try with_reducible rfl
                  try simp only [Act.put, List.setIfInBounds_toArray, List.set_cons_zero, List.set_cons_succ]
                  refine wpAnyH_take (i := 18) (oi := { dst := some 150, op := Op.fieldAddr 38 (Operand.tmp 10) 3, type := 0, pos := "outright.go:144", after := #[{ on := 10, ground := Ground.guard }], guard := some (10, true) }) (v := ?_) rfl (by as_aux_lemma => kernel_rfl) (by as_aux_lemma => kernel_rfl) (by as_aux_lemma => kernel_rfl) (fun _ _ _ h => h) (Or.inl ⟨by rfl, ?_⟩) hHeld ?_
                  rotate_left
                  · intro w hSw
                    clear hSw
                    go_simp
                    try with_reducible rfl
                  try simp only [Act.put, List.setIfInBounds_toArray, List.set_cons_zero, List.set_cons_succ]
                  refine wpAnyH_take (i := 19) (oi := { dst := some 151, op := Op.fieldAddr 34 (Operand.tmp 150) 1, type := 0, pos := "outright.go:144", after := #[{ on := 18, ground := Ground.data }, { on := 10, ground := Ground.guard }], guard := some (10, true) }) (v := ?_) rfl (by as_aux_lemma => kernel_rfl) (by as_aux_lemma => kernel_rfl) (by as_aux_lemma => kernel_rfl) (fun _ _ _ h => h) (Or.inl ⟨by rfl, ?_⟩) hHeld ?_
                  rotate_left
                  · intro w hSw
                    clear hSw
                    go_simp
                    try with_reducible rfl
                  try simp only [Act.put, List.setIfInBounds_toArray, List.set_cons_zero, List.set_cons_succ]
                  refine wpAnyH_take (i := 20) (oi := { dst := some 152, op := Op.load 29 (Operand.tmp 151), type := 29, pos := "outright.go:144", after := #[{ on := 19, ground := Ground.data }, { on := 10, ground := Ground.guard }], guard := some (10, true) }) (v := ?_) rfl (by as_aux_lemma => kernel_rfl) (by as_aux_lemma => kernel_rfl) (by as_aux_lemma => kernel_rfl) (fun _ _ _ h => h) (Or.inl ⟨by rfl, ?_⟩) hHeld ?_
                  rotate_left
                  · intro w hSw
                    have e1 := (hSw.cell (p := ⟨b1, off1 + k * 29 + 22, none⟩) hbl7).trans k1
                    have e2 := (hSw.cell (p := ⟨gb, 22, none⟩) hc7).trans k2
                    have e3 := (hSw.cell (p := ⟨b1, off1 + k * 29 + 7, none⟩) hbl7).trans k3
                    have e4 := (hSw.cell (p := ⟨gb, 7, none⟩) hc7).trans k4
                    clear hSw
                    go_simp
                    try with_reducible rfl
                  try simp only [Act.put, List.setIfInBounds_toArray, List.set_cons_zero, List.set_cons_succ]
                  refine wpAnyH_ready (rs := [17]) (by as_aux_lemma => kernel_rfl) (by simp) ?_
                  refine AllReadyH.cons (o := { dst := some 149, op := Op.call { callee := Callee.value (Operand.func 17), args := #[Operand.tmp 148], argTypes := #[29] }, type := 3, pos := "outright.go:144", after := #[{ on := 16, ground := Ground.data }, { on := 10, ground := Ground.chain }, { on := 10, ground := Ground.guard }], guard := some (10, true) }) rfl (fun K hK => ?_) AllReadyH.nil
                  go_simp
                  refine (HLP.out _ (HOK7.out.below hHeld (Nat.le_refl _))).mono ?_
                  rintro e w8a ⟨rfl, hb9⟩
                  go_wp2_with fail
                  refine hK.out _ _ (hHeld.trans (hb9.mono hHeld.size)) (fun hHeld => ?_)
                  clear hK K
                  try simp only [Act.put, List.setIfInBounds_toArray, List.set_cons_zero, List.set_cons_succ]
                  refine wpAnyH_ready (rs := [21]) (by as_aux_lemma => kernel_rfl) (by simp) ?_
                  refine AllReadyH.cons (o := { dst := some 153, op := Op.call { callee := Callee.value (Operand.func 17), args := #[Operand.tmp 152], argTypes := #[29] }, type := 3, pos := "outright.go:144", after := #[{ on := 20, ground := Ground.data }, { on := 17, ground := Ground.chain }, { on := 10, ground := Ground.guard }], guard := some (10, true) }) rfl (fun K hK => ?_) AllReadyH.nil
                  go_simp
                  refine (HLB.out _ (HOKB7.out.below hHeld (Nat.le_refl _))).mono ?_
                  rintro e w8 ⟨rfl, hb9⟩
                  go_wp2_with fail
                  refine hK.out _ _ (hHeld.trans (hb9.mono hHeld.size)) (fun hHeld => ?_)
                  clear hK K
                  try simp only [Act.put, List.setIfInBounds_toArray, List.set_cons_zero, List.set_cons_succ]
                  refine wpAnyH_take (i := 22) (oi := { dst := some 154, op := Op.binOp BinOp.lss 3 (Operand.tmp 149) (Operand.tmp 153) 3, type := 4, pos := "outright.go:144", after := #[{ on := 17, ground := Ground.data }, { on := 21, ground := Ground.data }, { on := 10, ground := Ground.guard }], guard := some (10, true) }) (v := .bool false) rfl (by as_aux_lemma => kernel_rfl) (by as_aux_lemma => kernel_rfl) (by as_aux_lemma => kernel_rfl) (fun _ _ _ h => h) (Or.inl ⟨by rfl, ?_⟩) hHeld ?_
                  · intro w hSw
                    clear hSw
                    go_simp
                    all_goals first | rfl | simp | omega
                  try simp only [Act.put, List.setIfInBounds_toArray, List.set_cons_zero, List.set_cons_succ]
                  refine wpAnyH_take (i := 23) (oi := { dst := some 155, op := Op.pick (Operand.tmp 142) (Operand.tmp 154) (Operand.const (Value.bool false)), type := 4, pos := "outright.go:144", after := #[{ on := 10, ground := Ground.data }, { on := 22, ground := Ground.data }], guard := none }) (v := ?_) rfl (by as_aux_lemma => kernel_rfl) (by as_aux_lemma => kernel_rfl) (by as_aux_lemma => kernel_rfl) (fun _ _ _ h => h) (Or.inl ⟨by rfl, ?_⟩) hHeld ?_
                  rotate_left
                  · intro w hSw
                    clear hSw
                    go_simp
                    try with_reducible rfl
                  try simp only [Act.put, List.setIfInBounds_toArray, List.set_cons_zero, List.set_cons_succ]
                  refine wpAnyH_done (by as_aux_lemma => kernel_rfl) ?_ _
                  have HBE := Lib.hid hHeld
                  clear hHeld
                  go_wp2_with fail
                  exact ⟨⟨k + 1, by omega, by go_num, HB3.out.trans ((HB5.out.trans (HB6.out.mono hs5)).mono hs3 |>.trans ((HB7.out.trans (HBE.out.mono hs7)).mono (by omega)))⟩, by simp [intOf]; omega⟩
                · have q4 : (p.kind == bp.kind) = false := beq_eq_false_iff_ne.2 hkk
                  clear hkk
                  go_wp2_with fail
                  refine wp_region_held_drew (S := fun w' => Below w7.heap.size w7 w') (by as_aux_lemma => kernel_rfl) (below_drewN (Below.refl _ _) 1) (fun hHeld => ?_)
                  refine wpAnyH_take (i := 0) (oi := { dst := some 132, op := Op.move (Operand.tmp 5), type := 23, pos := "outright.go:144", after := #[], guard := none }) (v := ?_) rfl (by as_aux_lemma => kernel_rfl) (by as_aux_lemma => kernel_rfl) (by as_aux_lemma => kernel_rfl) (fun _ _ _ h => h) (Or.inl ⟨by rfl, ?_⟩) hHeld ?_
                  rotate_left
                  · intro w hSw
                    clear hSw
                    go_simp
                    try with_reducible rfl
                  try simp only [Act.put, List.setIfInBounds_toArray, List.set_cons_zero, List.set_cons_succ]
                  refine wpAnyH_take (i := 1) (oi := { dst := some 133, op := Op.move (Operand.tmp 9), type := 3, pos := "outright.go:144", after := #[], guard := none }) (v := ?_) rfl (by as_aux_lemma => kernel_rfl) (by as_aux_lemma => kernel_rfl) (by as_aux_lemma => kernel_rfl) (fun _ _ _ h => h) (Or.inl ⟨by rfl, ?_⟩) hHeld ?_
                  rotate_left
                  · intro w hSw
                    clear hSw
                    go_simp
                    try with_reducible rfl
                  try simp only [Act.put, List.setIfInBounds_toArray, List.set_cons_zero, List.set_cons_succ]
                  refine wpAnyH_take (i := 2) (oi := { dst := some 134, op := Op.indexAddr 23 (Operand.tmp 132) (Operand.tmp 133), type := 0, pos := "outright.go:144", after := #[{ on := 0, ground := Ground.data }, { on := 1, ground := Ground.data }], guard := none }) (v := ?_) rfl (by as_aux_lemma => kernel_rfl) (by as_aux_lemma => kernel_rfl) (by as_aux_lemma => kernel_rfl) (fun _ _ _ h => h) (Or.inl ⟨by rfl, ?_⟩) hHeld ?_
                  rotate_left
                  · intro w hSw
                    clear hSw
                    go_simp
                    try with_reducible rfl
                  try simp only [Act.put, List.setIfInBounds_toArray, List.set_cons_zero, List.set_cons_succ]
                  refine wpAnyH_take (i := 3) (oi := { dst := some 135, op := Op.fieldAddr 38 (Operand.tmp 134) 4, type := 0, pos := "outright.go:144", after := #[{ on := 2, ground := Ground.data }], guard := none }) (v := ?_) rfl (by as_aux_lemma => kernel_rfl) (by as_aux_lemma => kernel_rfl) (by as_aux_lemma => kernel_rfl) (fun _ _ _ h => h) (Or.inl ⟨by rfl, ?_⟩) hHeld ?_
                  rotate_left
                  · intro w hSw
                    clear hSw
                    go_simp
                    try with_reducible rfl
                  try simp only [Act.put, List.setIfInBounds_toArray, List.set_cons_zero, List.set_cons_succ]
                  refine wpAnyH_take (i := 4) (oi := { dst := some 136, op := Op.fieldAddr 36 (Operand.tmp 135) 0, type := 0, pos := "outright.go:144", after := #[{ on := 3, ground := Ground.data }], guard := none }) (v := ?_) rfl (by as_aux_lemma => kernel_rfl) (by as_aux_lemma => kernel_rfl) (by as_aux_lemma => kernel_rfl) (fun _ _ _ h => h) (Or.inl ⟨by rfl, ?_⟩) hHeld ?_
                  rotate_left
                  · intro w hSw
                    clear hSw
                    go_simp
                    try with_reducible rfl
                  try simp only [Act.put, List.setIfInBounds_toArray, List.set_cons_zero, List.set_cons_succ]
                  refine wpAnyH_take (i := 5) (oi := { dst := some 137, op := Op.load 3 (Operand.tmp 136), type := 3, pos := "outright.go:144", after := #[{ on := 4, ground := Ground.data }], guard := none }) (v := ?_) rfl (by as_aux_lemma => kernel_rfl) (by as_aux_lemma => kernel_rfl) (by as_aux_lemma => kernel_rfl) (fun _ _ _ h => h) (Or.inl ⟨by rfl, ?_⟩) hHeld ?_
                  rotate_left
                  · intro w hSw
                    have e1 := (hSw.cell (p := ⟨b1, off1 + k * 29 + 22, none⟩) hbl7).trans k1
                    have e2 := (hSw.cell (p := ⟨gb, 22, none⟩) hc7).trans k2
                    have e3 := (hSw.cell (p := ⟨b1, off1 + k * 29 + 7, none⟩) hbl7).trans k3
                    have e4 := (hSw.cell (p := ⟨gb, 7, none⟩) hc7).trans k4
                    clear hSw
                    go_simp
                    try with_reducible rfl
                  try simp only [Act.put, List.setIfInBounds_toArray, List.set_cons_zero, List.set_cons_succ]
                  refine wpAnyH_take (i := 6) (oi := { dst := some 138, op := Op.fieldAddr 38 (Operand.tmp 10) 4, type := 0, pos := "outright.go:144", after := #[], guard := none }) (v := ?_) rfl (by as_aux_lemma => kernel_rfl) (by as_aux_lemma => kernel_rfl) (by as_aux_lemma => kernel_rfl) (fun _ _ _ h => h) (Or.inl ⟨by rfl, ?_⟩) hHeld ?_
                  rotate_left
                  · intro w hSw
                    clear hSw
                    go_simp
                    try with_reducible rfl
                  try simp only [Act.put, List.setIfInBounds_toArray, List.set_cons_zero, List.set_cons_succ]
                  refine wpAnyH_take (i := 7) (oi := { dst := some 139, op := Op.fieldAddr 36 (Operand.tmp 138) 0, type := 0, pos := "outright.go:144", after := #[{ on := 6, ground := Ground.data }], guard := none }) (v := ?_) rfl (by as_aux_lemma => kernel_rfl) (by as_aux_lemma => kernel_rfl) (by as_aux_lemma => kernel_rfl) (fun _ _ _ h => h) (Or.inl ⟨by rfl, ?_⟩) hHeld ?_
                  rotate_left
                  · intro w hSw
                    clear hSw
                    go_simp
                    try with_reducible rfl
                  try simp only [Act.put, List.setIfInBounds_toArray, List.set_cons_zero, List.set_cons_succ]
                  refine wpAnyH_take (i := 8) (oi := { dst := some 140, op := Op.load 3 (Operand.tmp 139), type := 3, pos := "outright.go:144", after := #[{ on := 7, ground := Ground.data }], guard := none }) (v := ?_) rfl (by as_aux_lemma => kernel_rfl) (by as_aux_lemma => kernel_rfl) (by as_aux_lemma => kernel_rfl) (fun _ _ _ h => h) (Or.inl ⟨by rfl, ?_⟩) hHeld ?_
                  rotate_left
                  · intro w hSw
                    have e1 := (hSw.cell (p := ⟨b1, off1 + k * 29 + 22, none⟩) hbl7).trans k1
                    have e2 := (hSw.cell (p := ⟨gb, 22, none⟩) hc7).trans k2
                    have e3 := (hSw.cell (p := ⟨b1, off1 + k * 29 + 7, none⟩) hbl7).trans k3
                    have e4 := (hSw.cell (p := ⟨gb, 7, none⟩) hc7).trans k4
                    clear hSw
                    go_simp
                    try with_reducible rfl
                  try simp only [Act.put, List.setIfInBounds_toArray, List.set_cons_zero, List.set_cons_succ]
                  refine wpAnyH_take (i := 9) (oi := { dst := some 141, op := Op.binOp BinOp.eql 3 (Operand.tmp 137) (Operand.tmp 140) 3, type := 4, pos := "outright.go:144", after := #[{ on := 5, ground := Ground.data }, { on := 8, ground := Ground.data }], guard := none }) (v := .bool false) rfl (by as_aux_lemma => kernel_rfl) (by as_aux_lemma => kernel_rfl) (by as_aux_lemma => kernel_rfl) (fun _ _ _ h => h) (Or.inl ⟨by rfl, ?_⟩) hHeld ?_
                  · intro w hSw
                    clear hSw
                    go_simp
                    all_goals first | rfl | simp | omega
                  try simp only [Act.put, List.setIfInBounds_toArray, List.set_cons_zero, List.set_cons_succ]
                  refine wpAnyH_take (i := 10) (oi := { dst := some 142, op := Op.move (Operand.tmp 141), type := 4, pos := "outright.go:144", after := #[{ on := 9, ground := Ground.data }], guard := none }) (v := ?_) rfl (by as_aux_lemma => kernel_rfl) (by as_aux_lemma => kernel_rfl) (by as_aux_lemma => kernel_rfl) (fun _ _ _ h => h) (Or.inl ⟨by rfl, ?_⟩) hHeld ?_
                  rotate_left
                  · intro w hSw
                    clear hSw
                    go_simp
                    try with_reducible rfl
                  try simp only [Act.put, List.setIfInBounds_toArray, List.set_cons_zero, List.set_cons_succ]
                  refine wpAnyH_take (i := 11) (oi := { dst := some 143, op := Op.move (Operand.tmp 5), type := 23, pos := "outright.go:144", after := #[{ on := 10, ground := Ground.guard }], guard := some (10, true) }) (v := undef) rfl (by as_aux_lemma => kernel_rfl) (by as_aux_lemma => kernel_rfl) (by as_aux_lemma => kernel_rfl) (fun _ _ _ h => h) (Or.inr ⟨by rfl, rfl⟩) hHeld ?_
                  try simp only [Act.put, List.setIfInBounds_toArray, List.set_cons_zero, List.set_cons_succ]
                  refine wpAnyH_take (i := 12) (oi := { dst := some 144, op := Op.move (Operand.tmp 9), type := 3, pos := "outright.go:144", after := #[{ on := 10, ground := Ground.guard }], guard := some (10, true) }) (v := undef) rfl (by as_aux_lemma => kernel_rfl) (by as_aux_lemma => kernel_rfl) (by as_aux_lemma => kernel_rfl) (fun _ _ _ h => h) (Or.inr ⟨by rfl, rfl⟩) hHeld ?_
                  try simp only [Act.put, List.setIfInBounds_toArray, List.set_cons_zero, List.set_cons_succ]
                  refine wpAnyH_take (i := 13) (oi := { dst := some 145, op := Op.indexAddr 23 (Operand.tmp 143) (Operand.tmp 144), type := 0, pos := "outright.go:144", after := #[{ on := 11, ground := Ground.data }, { on := 12, ground := Ground.data }, { on := 10, ground := Ground.guard }], guard := some (10, true) }) (v := undef) rfl (by as_aux_lemma => kernel_rfl) (by as_aux_lemma => kernel_rfl) (by as_aux_lemma => kernel_rfl) (fun _ _ _ h => h) (Or.inr ⟨by rfl, rfl⟩) hHeld ?_
                  try simp only [Act.put, List.setIfInBounds_toArray, List.set_cons_zero, List.set_cons_succ]
                  refine wpAnyH_take (i := 14) (oi := { dst := some 146, op := Op.fieldAddr 38 (Operand.tmp 145) 3, type := 0, pos := "outright.go:144", after := #[{ on := 13, ground := Ground.data }, { on := 10, ground := Ground.guard }], guard := some (10, true) }) (v := undef) rfl (by as_aux_lemma => kernel_rfl) (by as_aux_lemma => kernel_rfl) (by as_aux_lemma => kernel_rfl) (fun _ _ _ h => h) (Or.inr ⟨by rfl, rfl⟩) hHeld ?_
                  try simp only [Act.put, List.setIfInBounds_toArray, List.set_cons_zero, List.set_cons_succ]
                  refine wpAnyH_take (i := 15) (oi := { dst := some 147, op := Op.fieldAddr 34 (Operand.tmp 146) 1, type := 0, pos := "outright.go:144", after := #[{ on := 14, ground := Ground.data }, { on := 10, ground := Ground.guard }], guard := some (10, true) }) (v := undef) rfl (by as_aux_lemma => kernel_rfl) (by as_aux_lemma => kernel_rfl) (by as_aux_lemma => kernel_rfl) (fun _ _ _ h => h) (Or.inr ⟨by rfl, rfl⟩) hHeld ?_
                  try simp only [Act.put, List.setIfInBounds_toArray, List.set_cons_zero, List.set_cons_succ]
                  refine wpAnyH_take (i := 16) (oi := { dst := some 148, op := Op.load 29 (Operand.tmp 147), type := 29, pos := "outright.go:144", after := #[{ on := 15, ground := Ground.data }, { on := 10, ground := Ground.guard }], guard := some (10, true) }) (v := undef) rfl (by as_aux_lemma => kernel_rfl) (by as_aux_lemma => kernel_rfl) (by as_aux_lemma => kernel_rfl) (fun _ _ _ h => h) (Or.inr ⟨by rfl, rfl⟩) hHeld ?_
                  try simp only [Act.put, List.setIfInBounds_toArray, List.set_cons_zero, List.set_cons_succ]
                  refine wpAnyH_take (i := 17) (oi := { dst := some 149, op := Op.call { callee := Callee.value (Operand.func 17), args := #[Operand.tmp 148], argTypes := #[29] }, type := 3, pos := "outright.go:144", after := #[{ on := 16, ground := Ground.data }, { on := 10, ground := Ground.chain }, { on := 10, ground := Ground.guard }], guard := some (10, true) }) (v := undef) rfl (by as_aux_lemma => kernel_rfl) (by as_aux_lemma => kernel_rfl) (by as_aux_lemma => kernel_rfl) (fun _ _ _ h => h) (Or.inr ⟨by rfl, rfl⟩) hHeld ?_
                  try simp only [Act.put, List.setIfInBounds_toArray, List.set_cons_zero, List.set_cons_succ]
                  refine wpAnyH_take (i := 18) (oi := { dst := some 150, op := Op.fieldAddr 38 (Operand.tmp 10) 3, type := 0, pos := "outright.go:144", after := #[{ on := 10, ground := Ground.guard }], guard := some (10, true) }) (v := undef) rfl (by as_aux_lemma => kernel_rfl) (by as_aux_lemma => kernel_rfl) (by as_aux_lemma => kernel_rfl) (fun _ _ _ h => h) (Or.inr ⟨by rfl, rfl⟩) hHeld ?_
                  try simp only [Act.put, List.setIfInBounds_toArray, List.set_cons_zero, List.set_cons_succ]
                  refine wpAnyH_take (i := 19) (oi := { dst := some 151, op := Op.fieldAddr 34 (Operand.tmp 150) 1, type := 0, pos := "outright.go:144", after := #[{ on := 18, ground := Ground.data }, { on := 10, ground := Ground.guard }], guard := some (10, true) }) (v := undef) rfl (by as_aux_lemma => kernel_rfl) (by as_aux_lemma => kernel_rfl) (by as_aux_lemma => kernel_rfl) (fun _ _ _ h => h) (Or.inr ⟨by rfl, rfl⟩) hHeld ?_
                  try simp only [Act.put, List.setIfInBounds_toArray, List.set_cons_zero, List.set_cons_succ]
                  refine wpAnyH_take (i := 20) (oi := { dst := some 152, op := Op.load 29 (Operand.tmp 151), type := 29, pos := "outright.go:144", after := #[{ on := 19, ground := Ground.data }, { on := 10, ground := Ground.guard }], guard := some (10, true) }) (v := undef) rfl (by as_aux_lemma => kernel_rfl) (by as_aux_lemma => kernel_rfl) (by as_aux_lemma => kernel_rfl) (fun _ _ _ h => h) (Or.inr ⟨by rfl, rfl⟩) hHeld ?_
                  try simp only [Act.put, List.setIfInBounds_toArray, List.set_cons_zero, List.set_cons_succ]
                  refine wpAnyH_take (i := 21) (oi := { dst := some 153, op := Op.call { callee := Callee.value (Operand.func 17), args := #[Operand.tmp 152], argTypes := #[29] }, type := 3, pos := "outright.go:144", after := #[{ on := 20, ground := Ground.data }, { on := 17, ground := Ground.chain }, { on := 10, ground := Ground.guard }], guard := some (10, true) }) (v := undef) rfl (by as_aux_lemma => kernel_rfl) (by as_aux_lemma => kernel_rfl) (by as_aux_lemma => kernel_rfl) (fun _ _ _ h => h) (Or.inr ⟨by rfl, rfl⟩) hHeld ?_
                  try simp only [Act.put, List.setIfInBounds_toArray, List.set_cons_zero, List.set_cons_succ]
                  refine wpAnyH_take (i := 22) (oi := { dst := some 154, op := Op.binOp BinOp.lss 3 (Operand.tmp 149) (Operand.tmp 153) 3, type := 4, pos := "outright.go:144", after := #[{ on := 17, ground := Ground.data }, { on := 21, ground := Ground.data }, { on := 10, ground := Ground.guard }], guard := some (10, true) }) (v := undef) rfl (by as_aux_lemma => kernel_rfl) (by as_aux_lemma => kernel_rfl) (by as_aux_lemma => kernel_rfl) (fun _ _ _ h => h) (Or.inr ⟨by rfl, rfl⟩) hHeld ?_
                  try simp only [Act.put, List.setIfInBounds_toArray, List.set_cons_zero, List.set_cons_succ]
                  refine wpAnyH_take (i := 23) (oi := { dst := some 155, op := Op.pick (Operand.tmp 142) (Operand.tmp 154) (Operand.const (Value.bool false)), type := 4, pos := "outright.go:144", after := #[{ on := 10, ground := Ground.data }, { on := 22, ground := Ground.data }], guard := none }) (v := ?_) rfl (by as_aux_lemma => kernel_rfl) (by as_aux_lemma => kernel_rfl) (by as_aux_lemma => kernel_rfl) (fun _ _ _ h => h) (Or.inl ⟨by rfl, ?_⟩) hHeld ?_
                  rotate_left
                  · intro w hSw
                    clear hSw
                    go_simp
                    try with_reducible rfl
                  try simp only [Act.put, List.setIfInBounds_toArray, List.set_cons_zero, List.set_cons_succ]
                  refine wpAnyH_done (by as_aux_lemma => kernel_rfl) ?_ _
                  have HBE := Lib.hid hHeld
                  clear hHeld
                  go_wp2_with fail
                  exact ⟨⟨k + 1, by omega, by go_num, HB3.out.trans ((HB5.out.trans (HB6.out.mono hs5)).mono hs3 |>.trans ((HB7.out.trans (HBE.out.mono hs7)).mono (by omega)))⟩, by simp [intOf]; omega⟩
              · go_wp2_with fail
                by_cases hkk : p.kind = bp.kind
                · have hll2 : ¬ (lenF p.segs < lenF bp.segs) := by have := HF2.out.2 hkk; omega
                  have q4 : (p.kind == bp.kind) = true := by rw [hkk]; simp
                  clear hkk
                  go_wp2_with fail
                  refine wp_region_held_drew (S := fun w' => Below w7.heap.size w7 w') (by as_aux_lemma => kernel_rfl) (below_drewN (Below.refl _ _) 1) (fun hHeld => ?_)
                  refine wpAnyH_take (i := 0) (oi := { dst := some 132, op := Op.move (Operand.tmp 5), type := 23, pos := "outright.go:144", after := #[], guard := none }) (v := ?_) rfl (by as_aux_lemma => kernel_rfl) (by as_aux_lemma => kernel_rfl) (by as_aux_lemma => kernel_rfl) (fun _ _ _ h => h) (Or.inl ⟨by rfl, ?_⟩) hHeld ?_
                  rotate_left
                  · intro w hSw
                    clear hSw
                    go_simp
                    try with_reducible rfl
                  try simp only [Act.put, List.setIfInBounds_toArray, List.set_cons_zero, List.set_cons_succ]
                  refine wpAnyH_take (i := 1) (oi := { dst := some 133, op := Op.move (Operand.tmp 9), type := 3, pos := "outright.go:144", after := #[], guard := none }) (v := ?_) rfl (by as_aux_lemma => kernel_rfl) (by as_aux_lemma => kernel_rfl) (by as_aux_lemma => kernel_rfl) (fun _ _ _ h => h) (Or.inl ⟨by rfl, ?_⟩) hHeld ?_
                  rotate_left
                  · intro w hSw
                    clear hSw
                    go_simp
                    try with_reducible rfl
                  try simp only [Act.put, List.setIfInBounds_toArray, List.set_cons_zero, List.set_cons_succ]
                  refine wpAnyH_take (i := 2) (oi := { dst := some 134, op := Op.indexAddr 23 (Operand.tmp 132) (Operand.tmp 133), type := 0, pos := "outright.go:144", after := #[{ on := 0, ground := Ground.data }, { on := 1, ground := Ground.data }], guard := none }) (v := ?_) rfl (by as_aux_lemma => kernel_rfl) (by as_aux_lemma => kernel_rfl) (by as_aux_lemma => kernel_rfl) (fun _ _ _ h => h) (Or.inl ⟨by rfl, ?_⟩) hHeld ?_
                  rotate_left
                  · intro w hSw
                    clear hSw
                    go_simp
                    try with_reducible rfl
                  try simp only [Act.put, List.setIfInBounds_toArray, List.set_cons_zero, List.set_cons_succ]
                  refine wpAnyH_take (i := 3) (oi := { dst := some 135, op := Op.fieldAddr 38 (Operand.tmp 134) 4, type := 0, pos := "outright.go:144", after := #[{ on := 2, ground := Ground.data }], guard := none }) (v := ?_) rfl (by as_aux_lemma => kernel_rfl) (by as_aux_lemma => kernel_rfl) (by as_aux_lemma => kernel_rfl) (fun _ _ _ h => h) (Or.inl ⟨by rfl, ?_⟩) hHeld ?_
                  rotate_left
                  · intro w hSw
                    clear hSw
                    go_simp
                    try with_reducible rfl
                  try simp only [Act.put, List.setIfInBounds_toArray, List.set_cons_zero, List.set_cons_succ]
                  refine wpAnyH_take (i := 4) (oi := { dst := some 136, op := Op.fieldAddr 36 (Operand.tmp 135) 0, type := 0, pos := "outright.go:144", after := #[{ on := 3, ground := Ground.data }], guard := none }) (v := ?_) rfl (by as_aux_lemma => kernel_rfl) (by as_aux_lemma => kernel_rfl) (by as_aux_lemma => kernel_rfl) (fun _ _ _ h => h) (Or.inl ⟨by rfl, ?_⟩) hHeld ?_
                  rotate_left
                  · intro w hSw
                    clear hSw
                    go_simp
                    try with_reducible rfl
                  try simp only [Act.put, List.setIfInBounds_toArray, List.set_cons_zero, List.set_cons_succ]
                  refine wpAnyH_take (i := 5) (oi := { dst := some 137, op := Op.load 3 (Operand.tmp 136), type := 3, pos := "outright.go:144", after := #[{ on := 4, ground := Ground.data }], guard := none }) (v := ?_) rfl (by as_aux_lemma => kernel_rfl) (by as_aux_lemma => kernel_rfl) (by as_aux_lemma => kernel_rfl) (fun _ _ _ h => h) (Or.inl ⟨by rfl, ?_⟩) hHeld ?_
                  rotate_left
                  · intro w hSw
                    have e1 := (hSw.cell (p := ⟨b1, off1 + k * 29 + 22, none⟩) hbl7).trans k1
                    have e2 := (hSw.cell (p := ⟨gb, 22, none⟩) hc7).trans k2
                    have e3 := (hSw.cell (p := ⟨b1, off1 + k * 29 + 7, none⟩) hbl7).trans k3
                    have e4 := (hSw.cell (p := ⟨gb, 7, none⟩) hc7).trans k4
                    clear hSw
                    go_simp
                    try with_reducible rfl
                  try simp only [Act.put, List.setIfInBounds_toArray, List.set_cons_zero, List.set_cons_succ]
                  refine wpAnyH_take (i := 6) (oi := { dst := some 138, op := Op.fieldAddr 38 (Operand.tmp 10) 4, type := 0, pos := "outright.go:144", after := #[], guard := none }) (v := ?_) rfl (by as_aux_lemma => kernel_rfl) (by as_aux_lemma => kernel_rfl) (by as_aux_lemma => kernel_rfl) (fun _ _ _ h => h) (Or.inl ⟨by rfl, ?_⟩) hHeld ?_
                  rotate_left
                  · intro w hSw
                    clear hSw
                    go_simp
                    try with_reducible rfl
                  try simp only [Act.put, List.setIfInBounds_toArray, List.set_cons_zero, List.set_cons_succ]
                  refine wpAnyH_take (i := 7) (oi := { dst := some 139, op := Op.fieldAddr 36 (Operand.tmp 138) 0, type := 0, pos := "outright.go:144", after := #[{ on := 6, ground := Ground.data }], guard := none }) (v := ?_) rfl (by as_aux_lemma => kernel_rfl) (by as_aux_lemma => kernel_rfl) (by as_aux_lemma => kernel_rfl) (fun _ _ _ h => h) (Or.inl ⟨by rfl, ?_⟩) hHeld ?_
                  rotate_left
                  · intro w hSw
                    clear hSw
                    go_simp
                    try with_reducible rfl
                  try simp only [Act.put, List.setIfInBounds_toArray, List.set_cons_zero, List.set_cons_succ]
                  refine wpAnyH_take (i := 8) (oi := { dst := some 140, op := Op.load 3 (Operand.tmp 139), type := 3, pos := "outright.go:144", after := #[{ on := 7, ground := Ground.data }], guard := none }) (v := ?_) rfl (by as_aux_lemma => kernel_rfl) (by as_aux_lemma => kernel_rfl) (by as_aux_lemma => kernel_rfl) (fun _ _ _ h => h) (Or.inl ⟨by rfl, ?_⟩) hHeld ?_
                  rotate_left
                  · intro w hSw
                    have e1 := (hSw.cell (p := ⟨b1, off1 + k * 29 + 22, none⟩) hbl7).trans k1
                    have e2 := (hSw.cell (p := ⟨gb, 22, none⟩) hc7).trans k2
                    have e3 := (hSw.cell (p := ⟨b1, off1 + k * 29 + 7, none⟩) hbl7).trans k3
                    have e4 := (hSw.cell (p := ⟨gb, 7, none⟩) hc7).trans k4
                    clear hSw
                    go_simp
                    try with_reducible rfl
                  try simp only [Act.put, List.setIfInBounds_toArray, List.set_cons_zero, List.set_cons_succ]
                  refine wpAnyH_take (i := 9) (oi := { dst := some 141, op := Op.binOp BinOp.eql 3 (Operand.tmp 137) (Operand.tmp 140) 3, type := 4, pos := "outright.go:144", after := #[{ on := 5, ground := Ground.data }, { on := 8, ground := Ground.data }], guard := none }) (v := .bool true) rfl (by as_aux_lemma => kernel_rfl) (by as_aux_lemma => kernel_rfl) (by as_aux_lemma => kernel_rfl) (fun _ _ _ h => h) (Or.inl ⟨by rfl, ?_⟩) hHeld ?_
                  · intro w hSw
                    clear hSw
                    go_simp
                    all_goals first | rfl | simp | omega
                  try simp only [Act.put, List.setIfInBounds_toArray, List.set_cons_zero, List.set_cons_succ]
                  refine wpAnyH_take (i := 10) (oi := { dst := some 142, op := Op.move (Operand.tmp 141), type := 4, pos := "outright.go:144", after := #[{ on := 9, ground := Ground.data }], guard := none }) (v := ?_) rfl (by as_aux_lemma => kernel_rfl) (by as_aux_lemma => kernel_rfl) (by as_aux_lemma => kernel_rfl) (fun _ _ _ h => h) (Or.inl ⟨by rfl, ?_⟩) hHeld ?_
                  rotate_left
                  · intro w hSw
                    clear hSw
                    go_simp
                    try with_reducible rfl
                  try simp only [Act.put, List.setIfInBounds_toArray, List.set_cons_zero, List.set_cons_succ]
                  refine wpAnyH_take (i := 11) (oi := { dst := some 143, op := Op.move (Operand.tmp 5), type := 23, pos := "outright.go:144", after := #[{ on := 10, ground := Ground.guard }], guard := some (10, true) }) (v := ?_) rfl (by as_aux_lemma => kernel_rfl) (by as_aux_lemma => kernel_rfl) (by as_aux_lemma => kernel_rfl) (fun _ _ _ h => h) (Or.inl ⟨by rfl, ?_⟩) hHeld ?_
                  rotate_left
                  · intro w hSw
                    clear hSw
                    go_simp
                    try with_reducible rfl
                  try simp only [Act.put, List.setIfInBounds_toArray, List.set_cons_zero, List.set_cons_succ]
                  refine wpAnyH_take (i := 12) (oi := { dst := some 144, op := Op.move (Operand.tmp 9), type := 3, pos := "outright.go:144", after := #[{ on := 10, ground := Ground.guard }], guard := some (10, true) }) (v := ?_) rfl (by as_aux_lemma => kernel_rfl) (by as_aux_lemma => kernel_rfl) (by as_aux_lemma => kernel_rfl) (fun _ _ _ h => h) (Or.inl ⟨by rfl, ?_⟩) hHeld ?_
                  rotate_left
                  · intro w hSw
                    clear hSw
                    go_simp
                    try with_reducible rfl
                  try simp only [Act.put, List.setIfInBounds_toArray, List.set_cons_zero, List.set_cons_succ]
                  refine wpAnyH_take (i := 13) (oi := { dst := some 145, op := Op.indexAddr 23 (Operand.tmp 143) (Operand.tmp 144), type := 0, pos := "outright.go:144", after := #[{ on := 11, ground := Ground.data }, { on := 12, ground := Ground.data }, { on := 10, ground := Ground.guard }], guard := some (10, true) }) (v := ?_) rfl (by as_aux_lemma => kernel_rfl) (by as_aux_lemma => kernel_rfl) (by as_aux_lemma => kernel_rfl) (fun _ _ _ h => h) (Or.inl ⟨by rfl, ?_⟩) hHeld ?_
                  rotate_left
                  · intro w hSw
                    clear hSw
                    go_simp
                    try with_reducible rfl
                  try simp only [Act.put, List.setIfInBounds_toArray, List.set_cons_zero, List.set_cons_succ]
                  refine wpAnyH_take (i := 14) (oi := { dst := some 146, op := Op.fieldAddr 38 (Operand.tmp 145) 3, type := 0, pos := "outright.go:144", after := #[{ on := 13, ground := Ground.data }, { on := 10, ground := Ground.guard }], guard := some (10, true) }) (v := ?_) rfl (by as_aux_lemma => kernel_rfl) (by as_aux_lemma => kernel_rfl) (by as_aux_lemma => kernel_rfl) (fun _ _ _ h => h) (Or.inl ⟨by rfl, ?_⟩) hHeld ?_
                  rotate_left
                  · intro w hSw
                    clear hSw
                    go_simp
                    try with_reducible rfl
                  try simp only [Act.put, List.setIfInBounds_toArray, List.set_cons_zero, List.set_cons_succ]
                  refine wpAnyH_take (i := 15) (oi := { dst := some 147, op := Op.fieldAddr 34 (Operand.tmp 146) 1, type := 0, pos := "outright.go:144", after := #[{ on := 14, ground := Ground.data }, { on := 10, ground := Ground.guard }], guard := some (10, true) }) (v := ?_) rfl (by as_aux_lemma => kernel_rfl) (by as_aux_lemma => kernel_rfl) (by as_aux_lemma => kernel_rfl) (fun _ _ _ h => h) (Or.inl ⟨by rfl, ?_⟩) hHeld ?_
                  rotate_left
                  · intro w hSw
                    clear hSw
                    go_simp
                    try with_reducible rfl
                  try simp only [Act.put, List.setIfInBounds_toArray, List.set_cons_zero, List.set_cons_succ]
                  refine wpAnyH_take (i := 16) (oi := { dst := some 148, op := Op.load 29 (Operand.tmp 147), type := 29, pos := "outright.go:144", after := #[{ on := 15, ground := Ground.data }, { on := 10, ground := Ground.guard }], guard := some (10, true) }) (v := ?_) rfl (by as_aux_lemma => kernel_rfl) (by as_aux_lemma => kernel_rfl) (by as_aux_lemma => kernel_rfl) (fun _ _ _ h => h) (Or.inl ⟨by rfl, ?_⟩) hHeld ?_
                  rotate_left
                  · intro w hSw
                    have e1 := (hSw.cell (p := ⟨b1, off1 + k * 29 + 22, none⟩) hbl7).trans k1
                    have e2 := (hSw.cell (p := ⟨gb, 22, none⟩) hc7).trans k2
                    have e3 := (hSw.cell (p := ⟨b1, off1 + k * 29 + 7, none⟩) hbl7).trans k3
                    have e4 := (hSw.cell (p := ⟨gb, 7, none⟩) hc7).trans k4
                    clear hSw
                    go_simp
                    try with_reducible rfl
                  try simp only [Act.put, List.setIfInBounds_toArray, List.set_cons_zero, List.set_cons_succ]
                  refine wpAnyH_take (i := 18) (oi := { dst := some 150, op := Op.fieldAddr 38 (Operand.tmp 10) 3, type := 0, pos := "outright.go:144", after := #[{ on := 10, ground := Ground.guard }], guard := some (10, true) }) (v := ?_) rfl (by as_aux_lemma => kernel_rfl) (by as_aux_lemma => kernel_rfl) (by as_aux_lemma => kernel_rfl) (fun _ _ _ h => h) (Or.inl ⟨by rfl, ?_⟩) hHeld ?_
                  rotate_left
                  · intro w hSw
                    clear hSw
                    go_simp
                    try with_reducible rfl
                  try simp only [Act.put, List.setIfInBounds_toArray, List.set_cons_zero, List.set_cons_succ]
                  refine wpAnyH_take (i := 19) (oi := { dst := some 151, op := Op.fieldAddr 34 (Operand.tmp 150) 1, type := 0, pos := "outright.go:144", after := #[{ on := 18, ground := Ground.data }, { on := 10, ground := Ground.guard }], guard := some (10, true) }) (v := ?_) rfl (by as_aux_lemma => kernel_rfl) (by as_aux_lemma => kernel_rfl) (by as_aux_lemma => kernel_rfl) (fun _ _ _ h => h) (Or.inl ⟨by rfl, ?_⟩) hHeld ?_
                  rotate_left
                  · intro w hSw
                    clear hSw
                    go_simp
                    try with_reducible rfl
                  try simp only [Act.put, List.setIfInBounds_toArray, List.set_cons_zero, List.set_cons_succ]
                  refine wpAnyH_take (i := 20) (oi := { dst := some 152, op := Op.load 29 (Operand.tmp 151), type := 29, pos := "outright.go:144", after := #[{ on := 19, ground := Ground.data }, { on := 10, ground := Ground.guard }], guard := some (10, true) }) (v := ?_) rfl (by as_aux_lemma => kernel_rfl) (by as_aux_lemma => kernel_rfl) (by as_aux_lemma => kernel_rfl) (fun _ _ _ h => h) (Or.inl ⟨by rfl, ?_⟩) hHeld ?_
                  rotate_left
                  · intro w hSw
                    have e1 := (hSw.cell (p := ⟨b1, off1 + k * 29 + 22, none⟩) hbl7).trans k1
                    have e2 := (hSw.cell (p := ⟨gb, 22, none⟩) hc7).trans k2
                    have e3 := (hSw.cell (p := ⟨b1, off1 + k * 29 + 7, none⟩) hbl7).trans k3
                    have e4 := (hSw.cell (p := ⟨gb, 7, none⟩) hc7).trans k4
                    clear hSw
                    go_simp
                    try with_reducible rfl
                  try simp only [Act.put, List.setIfInBounds_toArray, List.set_cons_zero, List.set_cons_succ]
                  refine wpAnyH_ready (rs := [17]) (by as_aux_lemma => kernel_rfl) (by simp) ?_
                  refine AllReadyH.cons (o := { dst := some 149, op := Op.call { callee := Callee.value (Operand.func 17), args := #[Operand.tmp 148], argTypes := #[29] }, type := 3, pos := "outright.go:144", after := #[{ on := 16, ground := Ground.data }, { on := 10, ground := Ground.chain }, { on := 10, ground := Ground.guard }], guard := some (10, true) }) rfl (fun K hK => ?_) AllReadyH.nil
                  go_simp
                  refine (HLP.out _ (HOK7.out.below hHeld (Nat.le_refl _))).mono ?_
                  rintro e w8a ⟨rfl, hb9⟩
                  go_wp2_with fail
                  refine hK.out _ _ (hHeld.trans (hb9.mono hHeld.size)) (fun hHeld => ?_)
                  clear hK K
                  try simp only [Act.put, List.setIfInBounds_toArray, List.set_cons_zero, List.set_cons_succ]
                  refine wpAnyH_ready (rs := [21]) (by as_aux_lemma => kernel_rfl) (by simp) ?_
                  refine AllReadyH.cons (o := { dst := some 153, op := Op.call { callee := Callee.value (Operand.func 17), args := #[Operand.tmp 152], argTypes := #[29] }, type := 3, pos := "outright.go:144", after := #[{ on := 20, ground := Ground.data }, { on := 17, ground := Ground.chain }, { on := 10, ground := Ground.guard }], guard := some (10, true) }) rfl (fun K hK => ?_) AllReadyH.nil
                  go_simp
                  refine (HLB.out _ (HOKB7.out.below hHeld (Nat.le_refl _))).mono ?_
                  rintro e w8 ⟨rfl, hb9⟩
                  go_wp2_with fail
                  refine hK.out _ _ (hHeld.trans (hb9.mono hHeld.size)) (fun hHeld => ?_)
                  clear hK K
                  try simp only [Act.put, List.setIfInBounds_toArray, List.set_cons_zero, List.set_cons_succ]
                  refine wpAnyH_take (i := 22) (oi := { dst := some 154, op := Op.binOp BinOp.lss 3 (Operand.tmp 149) (Operand.tmp 153) 3, type := 4, pos := "outright.go:144", after := #[{ on := 17, ground := Ground.data }, { on := 21, ground := Ground.data }, { on := 10, ground := Ground.guard }], guard := some (10, true) }) (v := .bool false) rfl (by as_aux_lemma => kernel_rfl) (by as_aux_lemma => kernel_rfl) (by as_aux_lemma => kernel_rfl) (fun _ _ _ h => h) (Or.inl ⟨by rfl, ?_⟩) hHeld ?_
                  · intro w hSw
                    clear hSw
                    go_simp
                    all_goals first | rfl | simp | omega
                  try simp only [Act.put, List.setIfInBounds_toArray, List.set_cons_zero, List.set_cons_succ]
                  refine wpAnyH_take (i := 23) (oi := { dst := some 155, op := Op.pick (Operand.tmp 142) (Operand.tmp 154) (Operand.const (Value.bool false)), type := 4, pos := "outright.go:144", after := #[{ on := 10, ground := Ground.data }, { on := 22, ground := Ground.data }], guard := none }) (v := ?_) rfl (by as_aux_lemma => kernel_rfl) (by as_aux_lemma => kernel_rfl) (by as_aux_lemma => kernel_rfl) (fun _ _ _ h => h) (Or.inl ⟨by rfl, ?_⟩) hHeld ?_
                  rotate_left
                  · intro w hSw
                    clear hSw
                    go_simp
                    try with_reducible rfl
                  try simp only [Act.put, List.setIfInBounds_toArray, List.set_cons_zero, List.set_cons_succ]
                  refine wpAnyH_done (by as_aux_lemma => kernel_rfl) ?_ _
                  have HBE := Lib.hid hHeld
                  clear hHeld
                  go_wp2_with fail
                  exact ⟨⟨k + 1, by omega, by go_num, HB3.out.trans ((HB5.out.trans (HB6.out.mono hs5)).mono hs3 |>.trans ((HB7.out.trans (HBE.out.mono hs7)).mono (by omega)))⟩, by simp [intOf]; omega⟩
                · have q4 : (p.kind == bp.kind) = false := beq_eq_false_iff_ne.2 hkk
                  clear hkk
                  go_wp2_with fail
                  refine wp_region_held_drew (S := fun w' => Below w7.heap.size w7 w') (by as_aux_lemma => kernel_rfl) (below_drewN (Below.refl _ _) 1) (fun hHeld => ?_)
                  refine wpAnyH_take (i := 0) (oi := { dst := some 132, op := Op.move (Operand.tmp 5), type := 23, pos := "outright.go:144", after := #[], guard := none }) (v := ?_) rfl (by as_aux_lemma => kernel_rfl) (by as_aux_lemma => kernel_rfl) (by as_aux_lemma => kernel_rfl) (fun _ _ _ h => h) (Or.inl ⟨by rfl, ?_⟩) hHeld ?_
                  rotate_left
                  · intro w hSw
                    clear hSw
                    go_simp
                    try with_reducible rfl
                  try simp only [Act.put, List.setIfInBounds_toArray, List.set_cons_zero, List.set_cons_succ]
                  refine wpAnyH_take (i := 1) (oi := { dst := some 133, op := Op.move (Operand.tmp 9), type := 3, pos := "outright.go:144", after := #[], guard := none }) (v := ?_) rfl (by as_aux_lemma => kernel_rfl) (by as_aux_lemma => kernel_rfl) (by as_aux_lemma => kernel_rfl) (fun _ _ _ h => h) (Or.inl ⟨by rfl, ?_⟩) hHeld ?_
                  rotate_left
                  · intro w hSw
                    clear hSw
                    go_simp
                    try with_reducible rfl
                  try simp only [Act.put, List.setIfInBounds_toArray, List.set_cons_zero, List.set_cons_succ]
                  refine wpAnyH_take (i := 2) (oi := { dst := some 134, op := Op.indexAddr 23 (Operand.tmp 132) (Operand.tmp 133), type := 0, pos := "outright.go:144", after := #[{ on := 0, ground := Ground.data }, { on := 1, ground := Ground.data }], guard := none }) (v := ?_) rfl (by as_aux_lemma => kernel_rfl) (by as_aux_lemma => kernel_rfl) (by as_aux_lemma => kernel_rfl) (fun _ _ _ h => h) (Or.inl ⟨by rfl, ?_⟩) hHeld ?_
                  rotate_left
                  · intro w hSw
                    clear hSw
                    go_simp
                    try with_reducible rfl
                  try simp only [Act.put, List.setIfInBounds_toArray, List.set_cons_zero, List.set_cons_succ]
                  refine wpAnyH_take (i := 3) (oi := { dst := some 135, op := Op.fieldAddr 38 (Operand.tmp 134) 4, type := 0, pos := "outright.go:144", after := #[{ on := 2, ground := Ground.data }], guard := none }) (v := ?_) rfl (by as_aux_lemma => kernel_rfl) (by as_aux_lemma => kernel_rfl) (by as_aux_lemma => kernel_rfl) (fun _ _ _ h => h) (Or.inl ⟨by rfl, ?_⟩) hHeld ?_
                  rotate_left
                  · intro w hSw
                    clear hSw
                    go_simp
                    try with_reducible rfl
                  try simp only [Act.put, List.setIfInBounds_toArray, List.set_cons_zero, List.set_cons_succ]
                  refine wpAnyH_take (i := 4) (oi := { dst := some 136, op := Op.fieldAddr 36 (Operand.tmp 135) 0, type := 0, pos := "outright.go:144", after := #[{ on := 3, ground := Ground.data }], guard := none }) (v := ?_) rfl (by as_aux_lemma => kernel_rfl) (by as_aux_lemma => kernel_rfl) (by as_aux_lemma => kernel_rfl) (fun _ _ _ h => h) (Or.inl ⟨by rfl, ?_⟩) hHeld ?_
                  rotate_left
                  · intro w hSw
                    clear hSw
                    go_simp
                    try with_reducible rfl
                  try simp only [Act.put, List.setIfInBounds_toArray, List.set_cons_zero, List.set_cons_succ]
                  refine wpAnyH_take (i := 5) (oi := { dst := some 137, op := Op.load 3 (Operand.tmp 136), type := 3, pos := "outright.go:144", after := #[{ on := 4, ground := Ground.data }], guard := none }) (v := ?_) rfl (by as_aux_lemma => kernel_rfl) (by as_aux_lemma => kernel_rfl) (by as_aux_lemma => kernel_rfl) (fun _ _ _ h => h) (Or.inl ⟨by rfl, ?_⟩) hHeld ?_
                  rotate_left
                  · intro w hSw
                    have e1 := (hSw.cell (p := ⟨b1, off1 + k * 29 + 22, none⟩) hbl7).trans k1
                    have e2 := (hSw.cell (p := ⟨gb, 22, none⟩) hc7).trans k2
                    have e3 := (hSw.cell (p := ⟨b1, off1 + k * 29 + 7, none⟩) hbl7).trans k3
                    have e4 := (hSw.cell (p := ⟨gb, 7, none⟩) hc7).trans k4
                    clear hSw
                    go_simp
                    try with_reducible rfl
                  try simp only [Act.put, List.setIfInBounds_toArray, List.set_cons_zero, List.set_cons_succ]
                  refine wpAnyH_take (i := 6) (oi := { dst := some 138, op := Op.fieldAddr 38 (Operand.tmp 10) 4, type := 0, pos := "outright.go:144", after := #[], guard := none }) (v := ?_) rfl (by as_aux_lemma => kernel_rfl) (by as_aux_lemma => kernel_rfl) (by as_aux_lemma => kernel_rfl) (fun _ _ _ h => h) (Or.inl ⟨by rfl, ?_⟩) hHeld ?_
                  rotate_left
                  · intro w hSw
                    clear hSw
                    go_simp
                    try with_reducible rfl
                  try simp only [Act.put, List.setIfInBounds_toArray, List.set_cons_zero, List.set_cons_succ]
                  refine wpAnyH_take (i := 7) (oi := { dst := some 139, op := Op.fieldAddr 36 (Operand.tmp 138) 0, type := 0, pos := "outright.go:144", after := #[{ on := 6, ground := Ground.data }], guard := none }) (v := ?_) rfl (by as_aux_lemma => kernel_rfl) (by as_aux_lemma => kernel_rfl) (by as_aux_lemma => kernel_rfl) (fun _ _ _ h => h) (Or.inl ⟨by rfl, ?_⟩) hHeld ?_
                  rotate_left
                  · intro w hSw
                    clear hSw
                    go_simp
                    try with_reducible rfl
                  try simp only [Act.put, List.setIfInBounds_toArray, List.set_cons_zero, List.set_cons_succ]
                  refine wpAnyH_take (i := 8) (oi := { dst := some 140, op := Op.load 3 (Operand.tmp 139), type := 3, pos := "outright.go:144", after := #[{ on := 7, ground := Ground.data }], guard := none }) (v := ?_) rfl (by as_aux_lemma => kernel_rfl) (by as_aux_lemma => kernel_rfl) (by as_aux_lemma => kernel_rfl) (fun _ _ _ h => h) (Or.inl ⟨by rfl, ?_⟩) hHeld ?_
                  rotate_left
                  · intro w hSw
                    have e1 := (hSw.cell (p := ⟨b1, off1 + k * 29 + 22, none⟩) hbl7).trans k1
                    have e2 := (hSw.cell (p := ⟨gb, 22, none⟩) hc7).trans k2
                    have e3 := (hSw.cell (p := ⟨b1, off1 + k * 29 + 7, none⟩) hbl7).trans k3
                    have e4 := (hSw.cell (p := ⟨gb, 7, none⟩) hc7).trans k4
                    clear hSw
                    go_simp
                    try with_reducible rfl
                  try simp only [Act.put, List.setIfInBounds_toArray, List.set_cons_zero, List.set_cons_succ]
                  refine wpAnyH_take (i := 9) (oi := { dst := some 141, op := Op.binOp BinOp.eql 3 (Operand.tmp 137) (Operand.tmp 140) 3, type := 4, pos := "outright.go:144", after := #[{ on := 5, ground := Ground.data }, { on := 8, ground := Ground.data }], guard := none }) (v := .bool false) rfl (by as_aux_lemma => kernel_rfl) (by as_aux_lemma => kernel_rfl) (by as_aux_lemma => kernel_rfl) (fun _ _ _ h => h) (Or.inl ⟨by rfl, ?_⟩) hHeld ?_
                  · intro w hSw
                    clear hSw
                    go_simp
                    all_goals first | rfl | simp | omega
                  try simp only [Act.put, List.setIfInBounds_toArray, List.set_cons_zero, List.set_cons_succ]
                  refine wpAnyH_take (i := 10) (oi := { dst := some 142, op := Op.move (Operand.tmp 141), type := 4, pos := "outright.go:144", after := #[{ on := 9, ground := Ground.data }], guard := none }) (v := ?_) rfl (by as_aux_lemma => kernel_rfl) (by as_aux_lemma => kernel_rfl) (by as_aux_lemma => kernel_rfl) (fun _ _ _ h => h) (Or.inl ⟨by rfl, ?_⟩) hHeld ?_
                  rotate_left
                  · intro w hSw
                    clear hSw
                    go_simp
                    try with_reducible rfl
                  try simp only [Act.put, List.setIfInBounds_toArray, List.set_cons_zero, List.set_cons_succ]
                  refine wpAnyH_take (i := 11) (oi := { dst := some 143, op := Op.move (Operand.tmp 5), type := 23, pos := "outright.go:144", after := #[{ on := 10, ground := Ground.guard }], guard := some (10, true) }) (v := undef) rfl (by as_aux_lemma => kernel_rfl) (by as_aux_lemma => kernel_rfl) (by as_aux_lemma => kernel_rfl) (fun _ _ _ h => h) (Or.inr ⟨by rfl, rfl⟩) hHeld ?_
                  try simp only [Act.put, List.setIfInBounds_toArray, List.set_cons_zero, List.set_cons_succ]
                  refine wpAnyH_take (i := 12) (oi := { dst := some 144, op := Op.move (Operand.tmp 9), type := 3, pos := "outright.go:144", after := #[{ on := 10, ground := Ground.guard }], guard := some (10, true) }) (v := undef) rfl (by as_aux_lemma => kernel_rfl) (by as_aux_lemma => kernel_rfl) (by as_aux_lemma => kernel_rfl) (fun _ _ _ h => h) (Or.inr ⟨by rfl, rfl⟩) hHeld ?_
                  try simp only [Act.put, List.setIfInBounds_toArray, List.set_cons_zero, List.set_cons_succ]
                  refine wpAnyH_take (i := 13) (oi := { dst := some 145, op := Op.indexAddr 23 (Operand.tmp 143) (Operand.tmp 144), type := 0, pos := "outright.go:144", after := #[{ on := 11, ground := Ground.data }, { on := 12, ground := Ground.data }, { on := 10, ground := Ground.guard }], guard := some (10, true) }) (v := undef) rfl (by as_aux_lemma => kernel_rfl) (by as_aux_lemma => kernel_rfl) (by as_aux_lemma => kernel_rfl) (fun _ _ _ h => h) (Or.inr ⟨by rfl, rfl⟩) hHeld ?_
                  try simp only [Act.put, List.setIfInBounds_toArray, List.set_cons_zero, List.set_cons_succ]
                  refine wpAnyH_take (i := 14) (oi := { dst := some 146, op := Op.fieldAddr 38 (Operand.tmp 145) 3, type := 0, pos := "outright.go:144", after := #[{ on := 13, ground := Ground.data }, { on := 10, ground := Ground.guard }], guard := some (10, true) }) (v := undef) rfl (by as_aux_lemma => kernel_rfl) (by as_aux_lemma => kernel_rfl) (by as_aux_lemma => kernel_rfl) (fun _ _ _ h => h) (Or.inr ⟨by rfl, rfl⟩) hHeld ?_
                  try simp only [Act.put, List.setIfInBounds_toArray, List.set_cons_zero, List.set_cons_succ]
                  refine wpAnyH_take (i := 15) (oi := { dst := some 147, op := Op.fieldAddr 34 (Operand.tmp 146) 1, type := 0, pos := "outright.go:144", after := #[{ on := 14, ground := Ground.data }, { on := 10, ground := Ground.guard }], guard := some (10, true) }) (v := undef) rfl (by as_aux_lemma => kernel_rfl) (by as_aux_lemma => kernel_rfl) (by as_aux_lemma => kernel_rfl) (fun _ _ _ h => h) (Or.inr ⟨by rfl, rfl⟩) hHeld ?_
                  try simp only [Act.put, List.setIfInBounds_toArray, List.set_cons_zero, List.set_cons_succ]
                  refine wpAnyH_take (i := 16) (oi := { dst := some 148, op := Op.load 29 (Operand.tmp 147), type := 29, pos := "outright.go:144", after := #[{ on := 15, ground := Ground.data }, { on := 10, ground := Ground.guard }], guard := some (10, true) }) (v := undef) rfl (by as_aux_lemma => kernel_rfl) (by as_aux_lemma => kernel_rfl) (by as_aux_lemma => kernel_rfl) (fun _ _ _ h => h) (Or.inr ⟨by rfl, rfl⟩) hHeld ?_
                  try simp only [Act.put, List.setIfInBounds_toArray, List.set_cons_zero, List.set_cons_succ]
                  refine wpAnyH_take (i := 17) (oi := { dst := some 149, op := Op.call { callee := Callee.value (Operand.func 17), args := #[Operand.tmp 148], argTypes := #[29] }, type := 3, pos := "outright.go:144", after := #[{ on := 16, ground := Ground.data }, { on := 10, ground := Ground.chain }, { on := 10, ground := Ground.guard }], guard := some (10, true) }) (v := undef) rfl (by as_aux_lemma => kernel_rfl) (by as_aux_lemma => kernel_rfl) (by as_aux_lemma => kernel_rfl) (fun _ _ _ h => h) (Or.inr ⟨by rfl, rfl⟩) hHeld ?_
                  try simp only [Act.put, List.setIfInBounds_toArray, List.set_cons_zero, List.set_cons_succ]
                  refine wpAnyH_take (i := 18) (oi := { dst := some 150, op := Op.fieldAddr 38 (Operand.tmp 10) 3, type := 0, pos := "outright.go:144", after := #[{ on := 10, ground := Ground.guard }], guard := some (10, true) }) (v := undef) rfl (by as_aux_lemma => kernel_rfl) (by as_aux_lemma => kernel_rfl) (by as_aux_lemma => kernel_rfl) (fun _ _ _ h => h) (Or.inr ⟨by rfl, rfl⟩) hHeld ?_
                  try simp only [Act.put, List.setIfInBounds_toArray, List.set_cons_zero, List.set_cons_succ]
                  refine wpAnyH_take (i := 19) (oi := { dst := some 151, op := Op.fieldAddr 34 (Operand.tmp 150) 1, type := 0, pos := "outright.go:144", after := #[{ on := 18, ground := Ground.data }, { on := 10, ground := Ground.guard }], guard := some (10, true) }) (v := undef) rfl (by as_aux_lemma => kernel_rfl) (by as_aux_lemma => kernel_rfl) (by as_aux_lemma => kernel_rfl) (fun _ _ _ h => h) (Or.inr ⟨by rfl, rfl⟩) hHeld ?_
                  try simp only [Act.put, List.setIfInBounds_toArray, List.set_cons_zero, List.set_cons_succ]
                  refine wpAnyH_take (i := 20) (oi := { dst := some 152, op := Op.load 29 (Operand.tmp 151), type := 29, pos := "outright.go:144", after := #[{ on := 19, ground := Ground.data }, { on := 10, ground := Ground.guard }], guard := some (10, true) }) (v := undef) rfl (by as_aux_lemma => kernel_rfl) (by as_aux_lemma => kernel_rfl) (by as_aux_lemma => kernel_rfl) (fun _ _ _ h => h) (Or.inr ⟨by rfl, rfl⟩) hHeld ?_
                  try simp only [Act.put, List.setIfInBounds_toArray, List.set_cons_zero, List.set_cons_succ]
                  refine wpAnyH_take (i := 21) (oi := { dst := some 153, op := Op.call { callee := Callee.value (Operand.func 17), args := #[Operand.tmp 152], argTypes := #[29] }, type := 3, pos := "outright.go:144", after := #[{ on := 20, ground := Ground.data }, { on := 17, ground := Ground.chain }, { on := 10, ground := Ground.guard }], guard := some (10, true) }) (v := undef) rfl (by as_aux_lemma => kernel_rfl) (by as_aux_lemma => kernel_rfl) (by as_aux_lemma => kernel_rfl) (fun _ _ _ h => h) (Or.inr ⟨by rfl, rfl⟩) hHeld ?_
                  try simp only [Act.put, List.setIfInBounds_toArray, List.set_cons_zero, List.set_cons_succ]
                  refine wpAnyH_take (i := 22) (oi := { dst := some 154, op := Op.binOp BinOp.lss 3 (Operand.tmp 149) (Operand.tmp 153) 3, type := 4, pos := "outright.go:144", after := #[{ on := 17, ground := Ground.data }, { on := 21, ground := Ground.data }, { on := 10, ground := Ground.guard }], guard := some (10, true) }) (v := undef) rfl (by as_aux_lemma => kernel_rfl) (by as_aux_lemma => kernel_rfl) (by as_aux_lemma => kernel_rfl) (fun _ _ _ h => h) (Or.inr ⟨by rfl, rfl⟩) hHeld ?_
                  try simp only [Act.put, List.setIfInBounds_toArray, List.set_cons_zero, List.set_cons_succ]
                  refine wpAnyH_take (i := 23) (oi := { dst := some 155, op := Op.pick (Operand.tmp 142) (Operand.tmp 154) (Operand.const (Value.bool false)), type := 4, pos := "outright.go:144", after := #[{ on := 10, ground := Ground.data }, { on := 22, ground := Ground.data }], guard := none }) (v := ?_) rfl (by as_aux_lemma => kernel_rfl) (by as_aux_lemma => kernel_rfl) (by as_aux_lemma => kernel_rfl) (fun _ _ _ h => h) (Or.inl ⟨by rfl, ?_⟩) hHeld ?_
                  rotate_left
                  · intro w hSw
                    clear hSw
                    go_simp
                    try with_reducible rfl
                  try simp only [Act.put, List.setIfInBounds_toArray, List.set_cons_zero, List.set_cons_succ]
                  refine wpAnyH_done (by as_aux_lemma => kernel_rfl) ?_ _
                  have HBE := Lib.hid hHeld
                  clear hHeld
                  go_wp2_with fail
                  exact ⟨⟨k + 1, by omega, by go_num, HB3.out.trans ((HB5.out.trans (HB6.out.mono hs5)).mono hs3 |>.trans ((HB7.out.trans (HBE.out.mono hs7)).mono (by omega)))⟩, by simp [intOf]; omega⟩
        · obtain rfl : k = pz.length := by omega
          have HPA : Hid (PsAt wr A1 c1 pz) := HP2.out.below HB.out (Nat.le_refl _)
          have HAA := Lib.hid (NumOwn.below HA2.out HB.out (Nat.le_refl _))
          have HBW : Hid (Below w.heap.size w wr) := HB2.out.trans (HB.out.mono hs2)
          generalize hwA : wr = wA at HPA HAA HBW ⊢
          clear hwA HB HP2 HA2 HFF HBP HBF hsr HTK HORD
          
          go_wp2_with fail
          go_loopw [11] (fun i wr => ∃ k : Nat, k ≤ la.length ∧ i = .int .i64 k ∧ Hid (Below wA.heap.size wA wr)) (fun i _ => la.length + 1 - (intOf i).toNat)
          case atStart => exact ⟨0, by omega, rfl, Below.refl _ _⟩
          case round =>
            obtain ⟨k, hk, rfl, HBr⟩ := hrel
            have hsr := HBr.out.size
            by_cases hlt2 : k < la.length
            · cases al with
              | true =>
                obtain ⟨x, hx⟩ : ∃ x, la[k]? = some x := ⟨la[k], List.getElem?_eq_getElem hlt2⟩
                obtain ⟨hxn, ⟨p, hp, _⟩, _⟩ := HS2.out.1 k x hx
                have HXK := Lib.hid hx
                have HPK := Lib.hid hp
                have hxn2 : (x : Int) < (pz.length : Int) := by omega
                have HPB : Hid (PsAt wr A1 c1 pz) := HPA.out.below HBr.out (Nat.le_refl _)
                have HNB : Hid (NumOwn wr _ (.slice Aa la.length ca) la) := HAA.out.below HBr.out (Nat.le_refl _)
                have HBB2 : Hid (Below wA.heap.size wA wr) := HBr
                generalize hwB : wr = wB at HPB HNB HBB2 ⊢
                have hsB := HBB2.out.size
                clear hx hp hwB HBr hsr
                go_wp2_with fail
                go_loopw [12] (fun i wr => ∃ j : Nat, k < j ∧ j ≤ la.length ∧ i = .int .i64 j ∧ Hid (Below wB.heap.size wB wr)) (fun i _ => la.length + 1 - (intOf i).toNat)
                case atStart => exact ⟨k + 1, by omega, by omega, by go_num, Below.refl _ _⟩
                case round =>
                  obtain ⟨j, hkj, hj, rfl, HBi⟩ := hrel
                  have hsi := HBi.out.size
                  by_cases hlt3 : j < la.length
                  · obtain ⟨y, hy⟩ : ∃ y, la[j]? = some y := ⟨la[j], List.getElem?_eq_getElem hlt3⟩
                    obtain ⟨hyn, ⟨q, hq, _⟩, _⟩ := HS2.out.1 j y hy
                    have HBS : Hid (betterF (costP priceF) p q = true) := HBB.out (by simp) k j x y p q hkj HXK.out hy HPK.out hq
                    obtain ⟨ga, ca2, hva, hga0, hga, hgc, hgm, hac⟩ := NumOwn.c HNB.out (by omega)
                    simp only [Value.slice.injEq, true_and] at hva
                    obtain ⟨rfl, rfl⟩ := hva
                    obtain ⟨b1, off1, rfl, hbl1, hr1⟩ := PsAt.at_ (HPB.out.below HBi.out (Nat.le_refl _)) HPK.out
                    obtain ⟨b1', off1', hA', _, hr2⟩ := PsAt.at_ (HPB.out.below HBi.out (Nat.le_refl _)) hq
                    simp only [Option.some.injEq, Addr.mk.injEq, and_true] at hA'
                    obtain ⟨rfl, rfl⟩ := hA'
                    have HR1 := Lib.hid hr1
                    have HR2 := Lib.hid hr2
                    have HOK1 : Hid (PtOk wr p) := (HPB.out.ok p (List.mem_of_getElem? HPK.out)).below HBi.out (Nat.le_refl _)
                    have HOK2 : Hid (PtOk wr q) := (HPB.out.ok q (List.mem_of_getElem? hq)).below HBi.out (Nat.le_refl _)
                    have la1 := (HBi.out.cell (p := ⟨ga, k, none⟩) hga).trans (hac k x HXK.out)
                    have la2 := (HBi.out.cell (p := ⟨ga, j, none⟩) hga).trans (hac j y hy)
                    have hga9 : ga < wr.heap.size := Nat.lt_of_lt_of_le hga hsi
                    have hpc := HPB.out.len
                    have hyn2 : (y : Int) < (pz.length : Int) := by omega
                    clear hy hq hac hr1 hr2
                    go_wp2_with fail
                    refine wp_region_held_drew (S := fun w' => Below wr.heap.size wr w') (by as_aux_lemma => kernel_rfl) (below_drewN (Below.refl _ _) 1) (fun hHeld => ?_)
                    refine wpAnyH_take (i := 0) (oi := { dst := some 176, op := Op.move (Operand.tmp 5), type := 23, pos := "outright.go:150", after := #[], guard := none }) (v := ?_) rfl (by as_aux_lemma => kernel_rfl) (by as_aux_lemma => kernel_rfl) (by as_aux_lemma => kernel_rfl) (fun _ _ _ h => h) (Or.inl ⟨by rfl, ?_⟩) hHeld ?_
                    rotate_left
                    · intro w hSw
                      clear hSw
                      go_simp
                      try with_reducible rfl
                    try simp only [Act.put, List.setIfInBounds_toArray, List.set_cons_zero, List.set_cons_succ]
                    refine wpAnyH_take (i := 1) (oi := { dst := some 177, op := Op.move (Operand.tmp 8), type := 39, pos := "outright.go:150", after := #[], guard := none }) (v := ?_) rfl (by as_aux_lemma => kernel_rfl) (by as_aux_lemma => kernel_rfl) (by as_aux_lemma => kernel_rfl) (fun _ _ _ h => h) (Or.inl ⟨by rfl, ?_⟩) hHeld ?_
                    rotate_left
                    · intro w hSw
                      clear hSw
                      go_simp
                      try with_reducible rfl
                    try simp only [Act.put, List.setIfInBounds_toArray, List.set_cons_zero, List.set_cons_succ]
                    refine wpAnyH_take (i := 2) (oi := { dst := some 178, op := Op.move (Operand.tmp 11), type := 3, pos := "outright.go:150", after := #[], guard := none }) (v := ?_) rfl (by as_aux_lemma => kernel_rfl) (by as_aux_lemma => kernel_rfl) (by as_aux_lemma => kernel_rfl) (fun _ _ _ h => h) (Or.inl ⟨by rfl, ?_⟩) hHeld ?_
                    rotate_left
                    · intro w hSw
                      clear hSw
                      go_simp
                      try with_reducible rfl
                    try simp only [Act.put, List.setIfInBounds_toArray, List.set_cons_zero, List.set_cons_succ]
                    refine wpAnyH_take (i := 3) (oi := { dst := some 179, op := Op.indexAddr 39 (Operand.tmp 177) (Operand.tmp 178), type := 0, pos := "outright.go:150", after := #[{ on := 1, ground := Ground.data }, { on := 2, ground := Ground.data }], guard := none }) (v := ?_) rfl (by as_aux_lemma => kernel_rfl) (by as_aux_lemma => kernel_rfl) (by as_aux_lemma => kernel_rfl) (fun _ _ _ h => h) (Or.inl ⟨by rfl, ?_⟩) hHeld ?_
                    rotate_left
                    · intro w hSw
                      clear hSw
                      go_simp
                      try with_reducible rfl
                    try simp only [Act.put, List.setIfInBounds_toArray, List.set_cons_zero, List.set_cons_succ]
                    refine wpAnyH_take (i := 4) (oi := { dst := some 180, op := Op.load 3 (Operand.tmp 179), type := 3, pos := "outright.go:150", after := #[{ on := 3, ground := Ground.data }], guard := none }) (v := ?_) rfl (by as_aux_lemma => kernel_rfl) (by as_aux_lemma => kernel_rfl) (by as_aux_lemma => kernel_rfl) (fun _ _ _ h => h) (Or.inl ⟨by rfl, ?_⟩) hHeld ?_
                    rotate_left
                    · intro w hSw
                      have e1 := (hSw.cell (p := ⟨ga, k, none⟩) hga9).trans la1
                      have e2 := (hSw.cell (p := ⟨ga, j, none⟩) hga9).trans la2
                      clear hSw
                      go_simp
                      try with_reducible rfl
                    try simp only [Act.put, List.setIfInBounds_toArray, List.set_cons_zero, List.set_cons_succ]
                    refine wpAnyH_take (i := 5) (oi := { dst := some 181, op := Op.indexAddr 23 (Operand.tmp 176) (Operand.tmp 180), type := 0, pos := "outright.go:150", after := #[{ on := 0, ground := Ground.data }, { on := 4, ground := Ground.data }], guard := none }) (v := ?_) rfl (by as_aux_lemma => kernel_rfl) (by as_aux_lemma => kernel_rfl) (by as_aux_lemma => kernel_rfl) (fun _ _ _ h => h) (Or.inl ⟨by rfl, ?_⟩) hHeld ?_
                    rotate_left
                    · intro w hSw
                      clear hSw
                      go_simp
                      try with_reducible rfl
                    try simp only [Act.put, List.setIfInBounds_toArray, List.set_cons_zero, List.set_cons_succ]
                    refine wpAnyH_take (i := 6) (oi := { dst := some 182, op := Op.load 38 (Operand.tmp 181), type := 38, pos := "outright.go:150", after := #[{ on := 5, ground := Ground.data }], guard := none }) (v := p.v) rfl (by as_aux_lemma => kernel_rfl) (by as_aux_lemma => kernel_rfl) (by as_aux_lemma => kernel_rfl) (fun _ _ _ h => h) (yields_prange (by rfl) _ rfl b1 (off1 + x * 29) (by rfl) p (fun w h => rangeAt_below HR1.out h hbl1)) hHeld ?_
                    try simp only [Act.put, List.setIfInBounds_toArray, List.set_cons_zero, List.set_cons_succ]
                    refine wpAnyH_take (i := 7) (oi := { dst := some 183, op := Op.move (Operand.tmp 5), type := 23, pos := "outright.go:150", after := #[], guard := none }) (v := ?_) rfl (by as_aux_lemma => kernel_rfl) (by as_aux_lemma => kernel_rfl) (by as_aux_lemma => kernel_rfl) (fun _ _ _ h => h) (Or.inl ⟨by rfl, ?_⟩) hHeld ?_
                    rotate_left
                    · intro w hSw
                      clear hSw
                      go_simp
                      try with_reducible rfl
                    try simp only [Act.put, List.setIfInBounds_toArray, List.set_cons_zero, List.set_cons_succ]
                    refine wpAnyH_take (i := 8) (oi := { dst := some 184, op := Op.move (Operand.tmp 8), type := 39, pos := "outright.go:150", after := #[], guard := none }) (v := ?_) rfl (by as_aux_lemma => kernel_rfl) (by as_aux_lemma => kernel_rfl) (by as_aux_lemma => kernel_rfl) (fun _ _ _ h => h) (Or.inl ⟨by rfl, ?_⟩) hHeld ?_
                    rotate_left
                    · intro w hSw
                      clear hSw
                      go_simp
                      try with_reducible rfl
                    try simp only [Act.put, List.setIfInBounds_toArray, List.set_cons_zero, List.set_cons_succ]
                    refine wpAnyH_take (i := 9) (oi := { dst := some 185, op := Op.move (Operand.tmp 12), type := 3, pos := "outright.go:150", after := #[], guard := none }) (v := ?_) rfl (by as_aux_lemma => kernel_rfl) (by as_aux_lemma => kernel_rfl) (by as_aux_lemma => kernel_rfl) (fun _ _ _ h => h) (Or.inl ⟨by rfl, ?_⟩) hHeld ?_
                    rotate_left
                    · intro w hSw
                      clear hSw
                      go_simp
                      try with_reducible rfl
                    try simp only [Act.put, List.setIfInBounds_toArray, List.set_cons_zero, List.set_cons_succ]
                    refine wpAnyH_take (i := 10) (oi := { dst := some 186, op := Op.indexAddr 39 (Operand.tmp 184) (Operand.tmp 185), type := 0, pos := "outright.go:150", after := #[{ on := 8, ground := Ground.data }, { on := 9, ground := Ground.data }], guard := none }) (v := ?_) rfl (by as_aux_lemma => kernel_rfl) (by as_aux_lemma => kernel_rfl) (by as_aux_lemma => kernel_rfl) (fun _ _ _ h => h) (Or.inl ⟨by rfl, ?_⟩) hHeld ?_
                    rotate_left
                    · intro w hSw
                      clear hSw
                      go_simp
                      try with_reducible rfl
                    try simp only [Act.put, List.setIfInBounds_toArray, List.set_cons_zero, List.set_cons_succ]
                    refine wpAnyH_take (i := 11) (oi := { dst := some 187, op := Op.load 3 (Operand.tmp 186), type := 3, pos := "outright.go:150", after := #[{ on := 10, ground := Ground.data }], guard := none }) (v := ?_) rfl (by as_aux_lemma => kernel_rfl) (by as_aux_lemma => kernel_rfl) (by as_aux_lemma => kernel_rfl) (fun _ _ _ h => h) (Or.inl ⟨by rfl, ?_⟩) hHeld ?_
                    rotate_left
                    · intro w hSw
                      have e1 := (hSw.cell (p := ⟨ga, k, none⟩) hga9).trans la1
                      have e2 := (hSw.cell (p := ⟨ga, j, none⟩) hga9).trans la2
                      clear hSw
                      go_simp
                      try with_reducible rfl
                    try simp only [Act.put, List.setIfInBounds_toArray, List.set_cons_zero, List.set_cons_succ]
                    refine wpAnyH_take (i := 12) (oi := { dst := some 188, op := Op.indexAddr 23 (Operand.tmp 183) (Operand.tmp 187), type := 0, pos := "outright.go:150", after := #[{ on := 7, ground := Ground.data }, { on := 11, ground := Ground.data }], guard := none }) (v := ?_) rfl (by as_aux_lemma => kernel_rfl) (by as_aux_lemma => kernel_rfl) (by as_aux_lemma => kernel_rfl) (fun _ _ _ h => h) (Or.inl ⟨by rfl, ?_⟩) hHeld ?_
                    rotate_left
                    · intro w hSw
                      clear hSw
                      go_simp
                      try with_reducible rfl
                    try simp only [Act.put, List.setIfInBounds_toArray, List.set_cons_zero, List.set_cons_succ]
                    refine wpAnyH_take (i := 13) (oi := { dst := some 189, op := Op.load 38 (Operand.tmp 188), type := 38, pos := "outright.go:150", after := #[{ on := 12, ground := Ground.data }], guard := none }) (v := q.v) rfl (by as_aux_lemma => kernel_rfl) (by as_aux_lemma => kernel_rfl) (by as_aux_lemma => kernel_rfl) (fun _ _ _ h => h) (yields_prange (by rfl) _ rfl b1 (off1 + y * 29) (by rfl) q (fun w h => rangeAt_below HR2.out h hbl1)) hHeld ?_
                    try simp only [Act.put, List.setIfInBounds_toArray, List.set_cons_zero, List.set_cons_succ]
                    refine wpAnyH_ready (rs := [14]) (by as_aux_lemma => kernel_rfl) (by simp) ?_
                    refine AllReadyH.cons (o := { dst := some 190, op := Op.call { callee := Callee.value (Operand.func 15), args := #[Operand.tmp 182, Operand.tmp 189, Operand.func 10], argTypes := #[38, 38, 41] }, type := 4, pos := "outright.go:150", after := #[{ on := 6, ground := Ground.data }, { on := 13, ground := Ground.data }], guard := none }) rfl (fun K hK => ?_) AllReadyH.nil
                    go_simp
                    refine (HBT.out p q (.func (.func 10) #[] #[]) (costP priceF) _ (HOK1.out.below hHeld (Nat.le_refl _)) (HOK2.out.below hHeld (Nat.le_refl _)) (fits_cost (price_cost _))).mono ?_
                    rintro e w9 ⟨rfl, hb9⟩
                    rw [HBS.out]
                    go_wp2_with fail
                    refine hK.out _ _ (hHeld.trans (hb9.mono hHeld.size)) (fun hHeld => ?_)
                    clear hK K
                    try simp only [Act.put, List.setIfInBounds_toArray, List.set_cons_zero, List.set_cons_succ]
                    refine wpAnyH_take (i := 15) (oi := { dst := some 191, op := Op.unOp UnOp.not 4 (Operand.tmp 190), type := 4, pos := "outright.go:150", after := #[{ on := 14, ground := Ground.data }], guard := none }) (v := .bool false) rfl (by as_aux_lemma => kernel_rfl) (by as_aux_lemma => kernel_rfl) (by as_aux_lemma => kernel_rfl) (fun _ _ _ h => h) (Or.inl ⟨by rfl, ?_⟩) hHeld ?_
                    · intro w hSw
                      clear hSw
                      go_simp
                      all_goals first | rfl | simp | omega
                    try simp only [Act.put, List.setIfInBounds_toArray, List.set_cons_zero, List.set_cons_succ]
                    refine wpAnyH_done (by as_aux_lemma => kernel_rfl) ?_ _
                    have HBE := Lib.hid hHeld
                    clear hHeld
                    go_wp2_with fail
                    exact ⟨⟨j + 1, by omega, by omega, by go_num, HBi.out.trans (HBE.out.mono hsi)⟩, by simp [intOf]; omega⟩
                  · obtain rfl : j = la.length := by omega
                    go_wp2_with fail
                    exact ⟨⟨k + 1, by omega, by go_num, HBB2.out.trans (HBi.out.mono hsB)⟩, by simp [intOf]; omega⟩
              | false =>
                cases b with
                | true =>
                  obtain ⟨x, hx⟩ : ∃ x, la[k]? = some x := ⟨la[k], List.getElem?_eq_getElem hlt2⟩
                  obtain ⟨hxn, ⟨p, hp, _⟩, _⟩ := HS2.out.1 k x hx
                  have HXK := Lib.hid hx
                  have HPK := Lib.hid hp
                  have hxn2 : (x : Int) < (pz.length : Int) := by omega
                  have HPB : Hid (PsAt wr A1 c1 pz) := HPA.out.below HBr.out (Nat.le_refl _)
                  have HNB : Hid (NumOwn wr _ (.slice Aa la.length ca) la) := HAA.out.below HBr.out (Nat.le_refl _)
                  have HBB2 : Hid (Below wA.heap.size wA wr) := HBr
                  generalize hwB : wr = wB at HPB HNB HBB2 ⊢
                  have hsB := HBB2.out.size
                  clear hx hp hwB HBr hsr
                  go_wp2_with fail
                  go_loopw [12] (fun i wr => ∃ j : Nat, k < j ∧ j ≤ la.length ∧ i = .int .i64 j ∧ Hid (Below wB.heap.size wB wr)) (fun i _ => la.length + 1 - (intOf i).toNat)
                  case atStart => exact ⟨k + 1, by omega, by omega, by go_num, Below.refl _ _⟩
                  case round =>
                    obtain ⟨j, hkj, hj, rfl, HBi⟩ := hrel
                    have hsi := HBi.out.size
                    by_cases hlt3 : j < la.length
                    · obtain ⟨y, hy⟩ : ∃ y, la[j]? = some y := ⟨la[j], List.getElem?_eq_getElem hlt3⟩
                      obtain ⟨hyn, ⟨q, hq, _⟩, _⟩ := HS2.out.1 j y hy
                      have HBS : Hid (betterF (costP priceF) p q = true) := HBB.out (by simp) k j x y p q hkj HXK.out hy HPK.out hq
                      obtain ⟨ga, ca2, hva, hga0, hga, hgc, hgm, hac⟩ := NumOwn.c HNB.out (by omega)
                      simp only [Value.slice.injEq, true_and] at hva
                      obtain ⟨rfl, rfl⟩ := hva
                      obtain ⟨b1, off1, rfl, hbl1, hr1⟩ := PsAt.at_ (HPB.out.below HBi.out (Nat.le_refl _)) HPK.out
                      obtain ⟨b1', off1', hA', _, hr2⟩ := PsAt.at_ (HPB.out.below HBi.out (Nat.le_refl _)) hq
                      simp only [Option.some.injEq, Addr.mk.injEq, and_true] at hA'
                      obtain ⟨rfl, rfl⟩ := hA'
                      have HR1 := Lib.hid hr1
                      have HR2 := Lib.hid hr2
                      have HOK1 : Hid (PtOk wr p) := (HPB.out.ok p (List.mem_of_getElem? HPK.out)).below HBi.out (Nat.le_refl _)
                      have HOK2 : Hid (PtOk wr q) := (HPB.out.ok q (List.mem_of_getElem? hq)).below HBi.out (Nat.le_refl _)
                      have la1 := (HBi.out.cell (p := ⟨ga, k, none⟩) hga).trans (hac k x HXK.out)
                      have la2 := (HBi.out.cell (p := ⟨ga, j, none⟩) hga).trans (hac j y hy)
                      have hga9 : ga < wr.heap.size := Nat.lt_of_lt_of_le hga hsi
                      have hpc := HPB.out.len
                      have hyn2 : (y : Int) < (pz.length : Int) := by omega
                      clear hy hq hac hr1 hr2
                      go_wp2_with fail
                      refine wp_region_held_drew (S := fun w' => Below wr.heap.size wr w') (by as_aux_lemma => kernel_rfl) (below_drewN (Below.refl _ _) 1) (fun hHeld => ?_)
                      refine wpAnyH_take (i := 0) (oi := { dst := some 176, op := Op.move (Operand.tmp 5), type := 23, pos := "outright.go:150", after := #[], guard := none }) (v := ?_) rfl (by as_aux_lemma => kernel_rfl) (by as_aux_lemma => kernel_rfl) (by as_aux_lemma => kernel_rfl) (fun _ _ _ h => h) (Or.inl ⟨by rfl, ?_⟩) hHeld ?_
                      rotate_left
                      · intro w hSw
                        clear hSw
                        go_simp
                        try with_reducible rfl
                      try simp only [Act.put, List.setIfInBounds_toArray, List.set_cons_zero, List.set_cons_succ]
                      refine wpAnyH_take (i := 1) (oi := { dst := some 177, op := Op.move (Operand.tmp 8), type := 39, pos := "outright.go:150", after := #[], guard := none }) (v := ?_) rfl (by as_aux_lemma => kernel_rfl) (by as_aux_lemma => kernel_rfl) (by as_aux_lemma => kernel_rfl) (fun _ _ _ h => h) (Or.inl ⟨by rfl, ?_⟩) hHeld ?_
                      rotate_left
                      · intro w hSw
                        clear hSw
                        go_simp
                        try with_reducible rfl
                      try simp only [Act.put, List.setIfInBounds_toArray, List.set_cons_zero, List.set_cons_succ]
                      refine wpAnyH_take (i := 2) (oi := { dst := some 178, op := Op.move (Operand.tmp 11), type := 3, pos := "outright.go:150", after := #[], guard := none }) (v := ?_) rfl (by as_aux_lemma => kernel_rfl) (by as_aux_lemma => kernel_rfl) (by as_aux_lemma => kernel_rfl) (fun _ _ _ h => h) (Or.inl ⟨by rfl, ?_⟩) hHeld ?_
                      rotate_left
                      · intro w hSw
                        clear hSw
                        go_simp
                        try with_reducible rfl
                      try simp only [Act.put, List.setIfInBounds_toArray, List.set_cons_zero, List.set_cons_succ]
                      refine wpAnyH_take (i := 3) (oi := { dst := some 179, op := Op.indexAddr 39 (Operand.tmp 177) (Operand.tmp 178), type := 0, pos := "outright.go:150", after := #[{ on := 1, ground := Ground.data }, { on := 2, ground := Ground.data }], guard := none }) (v := ?_) rfl (by as_aux_lemma => kernel_rfl) (by as_aux_lemma => kernel_rfl) (by as_aux_lemma => kernel_rfl) (fun _ _ _ h => h) (Or.inl ⟨by rfl, ?_⟩) hHeld ?_
                      rotate_left
                      · intro w hSw
                        clear hSw
                        go_simp
                        try with_reducible rfl
                      try simp only [Act.put, List.setIfInBounds_toArray, List.set_cons_zero, List.set_cons_succ]
                      refine wpAnyH_take (i := 4) (oi := { dst := some 180, op := Op.load 3 (Operand.tmp 179), type := 3, pos := "outright.go:150", after := #[{ on := 3, ground := Ground.data }], guard := none }) (v := ?_) rfl (by as_aux_lemma => kernel_rfl) (by as_aux_lemma => kernel_rfl) (by as_aux_lemma => kernel_rfl) (fun _ _ _ h => h) (Or.inl ⟨by rfl, ?_⟩) hHeld ?_
                      rotate_left
                      · intro w hSw
                        have e1 := (hSw.cell (p := ⟨ga, k, none⟩) hga9).trans la1
                        have e2 := (hSw.cell (p := ⟨ga, j, none⟩) hga9).trans la2
                        clear hSw
                        go_simp
                        try with_reducible rfl
                      try simp only [Act.put, List.setIfInBounds_toArray, List.set_cons_zero, List.set_cons_succ]
                      refine wpAnyH_take (i := 5) (oi := { dst := some 181, op := Op.indexAddr 23 (Operand.tmp 176) (Operand.tmp 180), type := 0, pos := "outright.go:150", after := #[{ on := 0, ground := Ground.data }, { on := 4, ground := Ground.data }], guard := none }) (v := ?_) rfl (by as_aux_lemma => kernel_rfl) (by as_aux_lemma => kernel_rfl) (by as_aux_lemma => kernel_rfl) (fun _ _ _ h => h) (Or.inl ⟨by rfl, ?_⟩) hHeld ?_
                      rotate_left
                      · intro w hSw
                        clear hSw
                        go_simp
                        try with_reducible rfl
                      try simp only [Act.put, List.setIfInBounds_toArray, List.set_cons_zero, List.set_cons_succ]
                      refine wpAnyH_take (i := 6) (oi := { dst := some 182, op := Op.load 38 (Operand.tmp 181), type := 38, pos := "outright.go:150", after := #[{ on := 5, ground := Ground.data }], guard := none }) (v := p.v) rfl (by as_aux_lemma => kernel_rfl) (by as_aux_lemma => kernel_rfl) (by as_aux_lemma => kernel_rfl) (fun _ _ _ h => h) (yields_prange (by rfl) _ rfl b1 (off1 + x * 29) (by rfl) p (fun w h => rangeAt_below HR1.out h hbl1)) hHeld ?_
                      try simp only [Act.put, List.setIfInBounds_toArray, List.set_cons_zero, List.set_cons_succ]
                      refine wpAnyH_take (i := 7) (oi := { dst := some 183, op := Op.move (Operand.tmp 5), type := 23, pos := "outright.go:150", after := #[], guard := none }) (v := ?_) rfl (by as_aux_lemma => kernel_rfl) (by as_aux_lemma => kernel_rfl) (by as_aux_lemma => kernel_rfl) (fun _ _ _ h => h) (Or.inl ⟨by rfl, ?_⟩) hHeld ?_
                      rotate_left
                      · intro w hSw
                        clear hSw
                        go_simp
                        try with_reducible rfl
                      try simp only [Act.put, List.setIfInBounds_toArray, List.set_cons_zero, List.set_cons_succ]
                      refine wpAnyH_take (i := 8) (oi := { dst := some 184, op := Op.move (Operand.tmp 8), type := 39, pos := "outright.go:150", after := #[], guard := none }) (v := ?_) rfl (by as_aux_lemma => kernel_rfl) (by as_aux_lemma => kernel_rfl) (by as_aux_lemma => kernel_rfl) (fun _ _ _ h => h) (Or.inl ⟨by rfl, ?_⟩) hHeld ?_
                      rotate_left
                      · intro w hSw
                        clear hSw
                        go_simp
                        try with_reducible rfl
                      try simp only [Act.put, List.setIfInBounds_toArray, List.set_cons_zero, List.set_cons_succ]
                      refine wpAnyH_take (i := 9) (oi := { dst := some 185, op := Op.move (Operand.tmp 12), type := 3, pos := "outright.go:150", after := #[], guard := none }) (v := ?_) rfl (by as_aux_lemma => kernel_rfl) (by as_aux_lemma => kernel_rfl) (by as_aux_lemma => kernel_rfl) (fun _ _ _ h => h) (Or.inl ⟨by rfl, ?_⟩) hHeld ?_
                      rotate_left
                      · intro w hSw
                        clear hSw
                        go_simp
                        try with_reducible rfl
                      try simp only [Act.put, List.setIfInBounds_toArray, List.set_cons_zero, List.set_cons_succ]
                      refine wpAnyH_take (i := 10) (oi := { dst := some 186, op := Op.indexAddr 39 (Operand.tmp 184) (Operand.tmp 185), type := 0, pos := "outright.go:150", after := #[{ on := 8, ground := Ground.data }, { on := 9, ground := Ground.data }], guard := none }) (v := ?_) rfl (by as_aux_lemma => kernel_rfl) (by as_aux_lemma => kernel_rfl) (by as_aux_lemma => kernel_rfl) (fun _ _ _ h => h) (Or.inl ⟨by rfl, ?_⟩) hHeld ?_
                      rotate_left
                      · intro w hSw
                        clear hSw
                        go_simp
                        try with_reducible rfl
                      try simp only [Act.put, List.setIfInBounds_toArray, List.set_cons_zero, List.set_cons_succ]
                      refine wpAnyH_take (i := 11) (oi := { dst := some 187, op := Op.load 3 (Operand.tmp 186), type := 3, pos := "outright.go:150", after := #[{ on := 10, ground := Ground.data }], guard := none }) (v := ?_) rfl (by as_aux_lemma => kernel_rfl) (by as_aux_lemma => kernel_rfl) (by as_aux_lemma => kernel_rfl) (fun _ _ _ h => h) (Or.inl ⟨by rfl, ?_⟩) hHeld ?_
                      rotate_left
                      · intro w hSw
                        have e1 := (hSw.cell (p := ⟨ga, k, none⟩) hga9).trans la1
                        have e2 := (hSw.cell (p := ⟨ga, j, none⟩) hga9).trans la2
                        clear hSw
                        go_simp
                        try with_reducible rfl
                      try simp only [Act.put, List.setIfInBounds_toArray, List.set_cons_zero, List.set_cons_succ]
                      refine wpAnyH_take (i := 12) (oi := { dst := some 188, op := Op.indexAddr 23 (Operand.tmp 183) (Operand.tmp 187), type := 0, pos := "outright.go:150", after := #[{ on := 7, ground := Ground.data }, { on := 11, ground := Ground.data }], guard := none }) (v := ?_) rfl (by as_aux_lemma => kernel_rfl) (by as_aux_lemma => kernel_rfl) (by as_aux_lemma => kernel_rfl) (fun _ _ _ h => h) (Or.inl ⟨by rfl, ?_⟩) hHeld ?_
                      rotate_left
                      · intro w hSw
                        clear hSw
                        go_simp
                        try with_reducible rfl
                      try simp only [Act.put, List.setIfInBounds_toArray, List.set_cons_zero, List.set_cons_succ]
                      refine wpAnyH_take (i := 13) (oi := { dst := some 189, op := Op.load 38 (Operand.tmp 188), type := 38, pos := "outright.go:150", after := #[{ on := 12, ground := Ground.data }], guard := none }) (v := q.v) rfl (by as_aux_lemma => kernel_rfl) (by as_aux_lemma => kernel_rfl) (by as_aux_lemma => kernel_rfl) (fun _ _ _ h => h) (yields_prange (by rfl) _ rfl b1 (off1 + y * 29) (by rfl) q (fun w h => rangeAt_below HR2.out h hbl1)) hHeld ?_
                      try simp only [Act.put, List.setIfInBounds_toArray, List.set_cons_zero, List.set_cons_succ]
                      refine wpAnyH_ready (rs := [14]) (by as_aux_lemma => kernel_rfl) (by simp) ?_
                      refine AllReadyH.cons (o := { dst := some 190, op := Op.call { callee := Callee.value (Operand.func 15), args := #[Operand.tmp 182, Operand.tmp 189, Operand.func 10], argTypes := #[38, 38, 41] }, type := 4, pos := "outright.go:150", after := #[{ on := 6, ground := Ground.data }, { on := 13, ground := Ground.data }], guard := none }) rfl (fun K hK => ?_) AllReadyH.nil
                      go_simp
                      refine (HBT.out p q (.func (.func 10) #[] #[]) (costP priceF) _ (HOK1.out.below hHeld (Nat.le_refl _)) (HOK2.out.below hHeld (Nat.le_refl _)) (fits_cost (price_cost _))).mono ?_
                      rintro e w9 ⟨rfl, hb9⟩
                      rw [HBS.out]
                      go_wp2_with fail
                      refine hK.out _ _ (hHeld.trans (hb9.mono hHeld.size)) (fun hHeld => ?_)
                      clear hK K
                      try simp only [Act.put, List.setIfInBounds_toArray, List.set_cons_zero, List.set_cons_succ]
                      refine wpAnyH_take (i := 15) (oi := { dst := some 191, op := Op.unOp UnOp.not 4 (Operand.tmp 190), type := 4, pos := "outright.go:150", after := #[{ on := 14, ground := Ground.data }], guard := none }) (v := .bool false) rfl (by as_aux_lemma => kernel_rfl) (by as_aux_lemma => kernel_rfl) (by as_aux_lemma => kernel_rfl) (fun _ _ _ h => h) (Or.inl ⟨by rfl, ?_⟩) hHeld ?_
                      · intro w hSw
                        clear hSw
                        go_simp
                        all_goals first | rfl | simp | omega
                      try simp only [Act.put, List.setIfInBounds_toArray, List.set_cons_zero, List.set_cons_succ]
                      refine wpAnyH_done (by as_aux_lemma => kernel_rfl) ?_ _
                      have HBE := Lib.hid hHeld
                      clear hHeld
                      go_wp2_with fail
                      exact ⟨⟨j + 1, by omega, by omega, by go_num, HBi.out.trans (HBE.out.mono hsi)⟩, by simp [intOf]; omega⟩
                    · obtain rfl : j = la.length := by omega
                      go_wp2_with fail
                      exact ⟨⟨k + 1, by omega, by go_num, HBB2.out.trans (HBi.out.mono hsB)⟩, by simp [intOf]; omega⟩
                | false =>
                  go_wp2_with fail
                  refine (HWK.out _).mono ?_
                  rintro e wz ⟨rfl, hbz⟩
                  have HBZ2 := Lib.hid (HBW.out.trans ((HBr.out.trans (hbz.mono hsr)).mono HBW.out.size))
                  clear hbz
                  go_wp2_with fail
                  go_ret
                  exact ⟨rfl, HBZ2.out⟩
            · obtain rfl : k = la.length := by omega
              cases al with
              | true =>
                go_wp2_with fail
                refine (HWK.out _).mono ?_
                rintro e wz ⟨rfl, hbz⟩
                have HBZ2 := Lib.hid (HBW.out.trans ((HBr.out.trans (hbz.mono hsr)).mono HBW.out.size))
                clear hbz
                go_wp2_with fail
                go_ret
                exact ⟨rfl, HBZ2.out⟩
              | false =>
                go_wp2_with fail
                refine (HWK.out _).mono ?_
                rintro e wz ⟨rfl, hbz⟩
                have HBZ2 := Lib.hid (HBW.out.trans ((HBr.out.trans (hbz.mono hsr)).mono HBW.out.size))
                clear hbz
                go_wp2_with fail
                go_ret
                exact ⟨rfl, HBZ2.out⟩
end Go.Proofs.Ytoamigfjpcniaaa
