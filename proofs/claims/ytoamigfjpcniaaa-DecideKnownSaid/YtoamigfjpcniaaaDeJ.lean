/-
  byMed walked. Conditions: sizes.
-/
import Derived.Test.YtoamigfjpcniaaaDeI
import Derived.BigRegion
set_option linter.unusedVariables false
set_option linter.unusedSimpArgs false
namespace Go.Proofs.Ytoamigfjpcniaaa
open Go.RowKit Go.MapKept Go.Shelf
open Go.Maps (Keyed)
open Go.Lib hiding intOf

theorem lowV_at {M : List (Nat × Int)} {j n : Nat} {v : Int} (h : M[j]? = some (n, v)) : (lowV M)[j]? = some (.int .u32 (n : Nat), .int .u32 v) := by
  unfold lowV
  rw [List.getElem?_map, h]
  rfl
theorem lowV_no {M : List (Nat × Int)} {n : Nat} (h : ∀ p ∈ M, p.1 ≠ n) : ∀ q ∈ lowV M, q.1 ≠ Value.int .u32 (n : Nat) := fun q hq => by
  obtain ⟨p, hp, rfl⟩ := List.mem_map.1 hq
  have := h p hp
  simp only [ne_eq, Value.int.injEq, true_and]
  omega
theorem lowV_snoc (M : List (Nat × Int)) (n : Nat) (v : Int) : lowV (M ++ [(n, v)]) = lowV M ++ [(.int .u32 (n : Nat), .int .u32 v)] := by unfold lowV; rw [List.map_append]; rfl
theorem lowV_set (M : List (Nat × Int)) (j n : Nat) (v : Int) : lowV (M.set j (n, v)) = (lowV M).set j (.int .u32 (n : Nat), .int .u32 v) := by unfold lowV; rw [List.map_set]

set_option maxRecDepth 100000 in
set_option maxHeartbeats 4000000 in
theorem byMed_any (A : Option Addr) (cap : Nat) (xs : List En) (w : World) (h : EsAt w A cap xs) (hxs : xs.length ≤ 1000000) :
    Calls Try.prog 62 #[.slice A xs.length cap] w fun e w' => ∃ v, e = .returned v ∧ EsOwn w' w.heap.size v (byMedL xs) ∧ Below w.heap.size w w' := by
  have HE := Lib.hid h
  have HM0 : Hid (MapAt Try.prog 28 (w.alloc (.map #[] 0)) w.heap.size (lowV [])) := MapAt.new _
  have HB0 : Hid (Below w.heap.size w (w.alloc (.map #[] 0))) := (Below.refl _ _).alloc (Nat.le_refl _) _
  have HL0 : Hid (LowOk [] (xs.take 0)) := ⟨List.Pairwise.nil, fun z hz => by simp at hz, fun n v hm => by cases hm⟩
  clear h
  have hmm := @run_makeMap Try.prog
  go_enter Try.func62, Try.ntmps62
  go_wp2_with fail
  clear hmm
  go_loopw [15] (fun i wr => ∃ k : Nat, k ≤ xs.length ∧ i = .int .i64 k ∧ Hid (∃ M, MapAt Try.prog 28 wr w.heap.size (lowV M) ∧ LowOk M (xs.take k)) ∧ Hid (Below w.heap.size w wr)) (fun i _ => xs.length + 1 - (intOf i).toNat)
  case atStart => exact ⟨0, by omega, rfl, ⟨[], HM0.out, HL0.out⟩, HB0.out⟩
  case round =>
    obtain ⟨k, hk, rfl, HMM, HB⟩ := hrel
    clear HM0 HB0 HL0
    by_cases hlt : k < xs.length
    · obtain ⟨x, hx⟩ : ∃ x, xs[k]? = some x := ⟨xs[k], List.getElem?_eq_getElem hlt⟩
      have HT : Hid (xs.take (k + 1) = xs.take k ++ [x]) := by
        show _ = _
        rw [List.take_add_one, hx]
        rfl
      obtain ⟨M, hM, hLo⟩ := HMM.out
      have HLO := Lib.hid hLo
      have HM := Lib.hid hM
      obtain ⟨b, off, rfl, hb, hr⟩ := EsAt.at_ (HE.out.below HB.out (Nat.le_refl _)) hx
      have hokx := HE.out.ok x (List.mem_of_getElem? hx)
      have HOK := Lib.hid hokx
      have HONE := Lib.hid (PtOk.ones hokx)
      have HR := Lib.hid hr
      have HNF := Lib.hid (neiF_fits hokx)
      have hws := HB.out.size
      have hml := hM.lt
      clear hr hokx hx hM hLo HMM
      have HC1 : Hid (CellsAt (wr.alloc (.cells x.cs 79)) wr.heap.size x.cs 79) := CellsAt.new _ _ _
      have HB1 : Hid (Below w.heap.size w (wr.alloc (.cells x.cs 79))) := HB.out.alloc hws _
      have HOKA : Hid (PtOk (wr.alloc (.cells x.cs 79)) x.p) := HOK.out.below HB1.out (Nat.le_refl _)
      go_wp2_with (with_reducible show wpList _ _ _ (_ :: _) _ _; first | refine wpList_load_entry rfl (.tmp 17) rfl b (off + k * 31) rfl x HR.out ?_ | refine wpList_store_entry rfl (.tmp 5) (.tmp 18) rfl rfl x rfl rfl HONE.out ?_ | refine wpList_load_path rfl (.tmp 19) rfl wr.heap.size 0 rfl x.p (range_path HC1.out.range) ?_)
      refine (neighbour_any x.p _ HOKA.out).mono ?_
      rintro e w1 ⟨rfl, hb1⟩
      have HB2 : Hid (Below w.heap.size w w1) := HB1.out.trans (hb1.mono (by simp; omega))
      have HC2 : Hid (CellsAt w1 wr.heap.size x.cs 79) := HC1.out.below hb1 (by simp)
      have HM2 : Hid (MapAt Try.prog 28 w1 w.heap.size (lowV M)) := (HM.out.alloc _).below hb1 (by simp; omega)
      have hs1 : wr.heap.size + 1 ≤ w1.heap.size := by have := hb1.size; simp at this; omega
      clear hb1 HB1 HC1 HOKA HM HR
      have HKL := Lib.hid (u32_key _ HNF.out)
      by_cases hin : ∃ (j : Nat) (v : Int), M[j]? = some (neiF x.p, v)
      · obtain ⟨j, v, hj⟩ := hin
        have hlk := HM2.out.lookup_some (t := 122) u32Law Try.underlying122 (zero_u32 _) HKL.out (lowV_at hj)
        have HJ := Lib.hid hj
        clear hj
        go_wp2_with (with_reducible show wpList _ _ _ (_ :: _) _ _; refine wpList_load_entry_g rfl (.tmp 5) rfl wr.heap.size 0 rfl x HC2.out.range ?_)
        refine (med_any x _).mono ?_
        rintro e w2 ⟨rfl, hb2⟩
        have HB3 : Hid (Below w.heap.size w w2) := HB2.out.trans (hb2.mono (by omega))
        have HC3 : Hid (CellsAt w2 wr.heap.size x.cs 79) := HC2.out.below hb2 (by omega)
        have HM3 : Hid (MapAt Try.prog 28 w2 w.heap.size (lowV M)) := HM2.out.below hb2 (by omega)
        have hs2 := hb2.size
        clear hb2 HC2 HM2 hlk
        by_cases hv : medF x.p < v
        · go_wp2_with (with_reducible show wpList _ _ _ (_ :: _) _ _; refine wpList_load_entry rfl (.tmp 5) rfl wr.heap.size 0 rfl x HC3.out.range ?_)
          refine (med_any x _).mono ?_
          rintro e w3 ⟨rfl, hb3⟩
          have HM4 : Hid (MapAt Try.prog 28 w3 w.heap.size (lowV M)) := HM3.out.below hb3 (by omega)
          have hs3 := hb3.size
          obtain ⟨W1, e1, g1, M1, z1⟩ := HM4.out.update_old (t := 122) u32Law Try.underlying122 HKL.out (lowV_at HJ.out) (.int .u32 (medF x.p))
          rw [← lowV_set] at M1
          have HM5 := Lib.hid M1
          have HB5 : Hid (Below w.heap.size w W1) := (HB3.out.trans (hb3.mono (by omega))).grown g1 (by omega) (fun k hk => by cases hk; exact Nat.le_refl _)
          clear g1 M1 z1
          go_wp2_with fail
          exact ⟨⟨k + 1, by omega, by go_num, ⟨_, HM5.out, by rw [HT.out]; exact HLO.out.lower HJ.out hv⟩, HB5.out⟩, by simp [intOf]; omega⟩
        · go_wp2_with fail
          exact ⟨⟨k + 1, by omega, by go_num, ⟨M, HM3.out, by rw [HT.out]; exact HLO.out.keep (List.mem_of_getElem? HJ.out) (by omega)⟩, HB3.out⟩, by simp [intOf]; omega⟩
      · have HNO : Hid (∀ p ∈ M, p.1 ≠ neiF x.p) := fun p hp e => hin (by
          obtain ⟨j, hj, e1⟩ := List.mem_iff_getElem.1 hp
          exact ⟨j, p.2, by rw [List.getElem?_eq_getElem hj, e1, ← e]⟩)
        have hlk := HM2.out.lookup_none (t := 122) u32Law Try.underlying122 (zero_u32 _) HKL.out (lowV_no HNO.out)
        clear hin
        go_wp2_with (with_reducible show wpList _ _ _ (_ :: _) _ _; refine wpList_load_entry rfl (.tmp 5) rfl wr.heap.size 0 rfl x HC2.out.range ?_)
        refine (med_any x _).mono ?_
        rintro e w3 ⟨rfl, hb3⟩
        have HM4 : Hid (MapAt Try.prog 28 w3 w.heap.size (lowV M)) := HM2.out.below hb3 (by omega)
        have hs3 := hb3.size
        obtain ⟨W1, e1, g1, M1, z1⟩ := HM4.out.update_new (t := 122) u32Law Try.underlying122 HKL.out (lowV_no HNO.out) (.int .u32 (medF x.p))
        rw [← lowV_snoc] at M1
        have HM5 := Lib.hid M1
        have HB5 : Hid (Below w.heap.size w W1) := (HB2.out.trans (hb3.mono (by omega))).grown g1 (by omega) (fun k hk => by cases hk; exact Nat.le_refl _)
        clear g1 M1 z1
        go_wp2_with fail
        exact ⟨⟨k + 1, by omega, by go_num, ⟨_, HM5.out, by rw [HT.out]; exact HLO.out.new HNO.out⟩, HB5.out⟩, by simp [intOf]; omega⟩
    · obtain rfl : k = xs.length := by omega
      rw [List.take_length] at HMM
      obtain ⟨M, hM, hLo⟩ := HMM.out
      have HLO := Lib.hid hLo
      have HM := Lib.hid hM
      have hml := hM.lt
      clear hM hLo HMM
      generalize wr = w0 at *
      go_wp2_with fail
      go_loopw [9, 43] (fun o i wr => ∃ k : Nat, k ≤ xs.length ∧ i = .int .i64 k ∧ Hid (EsOwn wr (w.heap.size + 1) o ((xs.take k).filter (lowAll xs))) ∧ Hid (MapAt Try.prog 28 wr w.heap.size (lowV M)) ∧ Hid (Below w.heap.size w wr)) (fun _ i _ => xs.length + 1 - (intOf i).toNat)
      case atStart => exact ⟨0, by omega, rfl, EsOwn.nil _ _, HM.out, HB.out⟩
      case round =>
        obtain ⟨k, hk, rfl, HO, HMr, HBr⟩ := hrel
        clear HM HB hml
        by_cases hlt : k < xs.length
        · obtain ⟨x, hx⟩ : ∃ x, xs[k]? = some x := ⟨xs[k], List.getElem?_eq_getElem hlt⟩
          have HT : Hid (xs.take (k + 1) = xs.take k ++ [x]) := by
            show _ = _
            rw [List.take_add_one, hx]
            rfl
          have hfl : ((xs.take k).filter (lowAll xs)).length ≤ k := Nat.le_trans (List.length_filter_le _ _) (by rw [List.length_take]; omega)
          have HF : Hid ((xs.take (k + 1)).filter (lowAll xs) = (xs.take k).filter (lowAll xs) ++ if lowAll xs x = true then [x] else []) := by
            show _ = _
            rw [HT.out, List.filter_append, List.filter_cons, List.filter_nil]
          obtain ⟨b, off, rfl, hb, hr⟩ := EsAt.at_ (HE.out.below HBr.out (Nat.le_refl _)) hx
          have hokx := HE.out.ok x (List.mem_of_getElem? hx)
          have HOK := Lib.hid hokx
          have HONE := Lib.hid (PtOk.ones hokx)
          have HR := Lib.hid hr
          have HNF := Lib.hid (neiF_fits hokx)
          have HKL := Lib.hid (u32_key _ HNF.out)
          have hws := HBr.out.size
          have hml := HMr.out.lt
          obtain ⟨v, hvm, hvl⟩ := HLO.out.all x (List.mem_of_getElem? hx)
          have HRD := Lib.hid (HLO.out.read (List.mem_of_getElem? hx) hvm)
          obtain ⟨j, hj, hje⟩ := List.mem_iff_getElem.1 hvm
          have HJ : Hid (M[j]? = some (neiF x.p, v)) := by
            show _ = _
            rw [List.getElem?_eq_getElem hj, hje]
          clear hr hokx hx hje hvm hvl HT
          generalize (xs.take k).filter (lowAll xs) = ys at HO hfl HF
          obtain ⟨A2, c2, rfl⟩ := OwnM.form HO.out
          have HC1 : Hid (CellsAt (wr.alloc (.cells x.cs 79)) wr.heap.size x.cs 79) := CellsAt.new _ _ _
          have HB1 : Hid (Below w.heap.size w (wr.alloc (.cells x.cs 79))) := HBr.out.alloc hws _
          have HOKA : Hid (PtOk (wr.alloc (.cells x.cs 79)) x.p) := HOK.out.below HB1.out (Nat.le_refl _)
          have HMA : Hid (MapAt Try.prog 28 (wr.alloc (.cells x.cs 79)) w.heap.size (lowV M)) := HMr.out.alloc _
          have HO1 : Hid (EsOwn (wr.alloc (.cells x.cs 79)) (w.heap.size + 1) (.slice A2 ys.length c2) ys) := HO.out.alloc _
          clear HMr HO
          by_cases hv : medF x.p = v
          · rw [if_pos (HRD.out.1 hv)] at HF
            subst hv
            go_wp2_with (with_reducible show wpList _ _ _ (_ :: _) _ _; first | refine wpList_load_entry rfl (.tmp 45) rfl b (off + k * 31) rfl x HR.out ?_ | refine wpList_store_entry rfl (.tmp 11) (.tmp 46) rfl rfl x rfl rfl HONE.out ?_)
            refine wp_region_held_drew (S := fun w' => Below (wr.heap.size + 1) (wr.alloc (.cells x.cs 79)) w') (by kernel_rfl) (below_drewN (Below.refl _ _) 1) (fun hHeld => ?_)
            refine wpAnyH_take (i := 2) (oi := { dst := some 49, op := Op.move (Operand.tmp 3), type := 122, pos := "decide.go:103", after := #[], guard := none }) (v := ?_) rfl (by kernel_rfl) (by kernel_rfl) (by kernel_rfl) (fun _ _ _ h => h) (Or.inl ⟨by rfl, ?_⟩) hHeld ?_
            rotate_left
            · intro w hSw
              clear hSw
              go_simp
              try with_reducible rfl
            try simp only [Act.put, List.setIfInBounds_toArray, List.set_cons_zero, List.set_cons_succ]
            refine wpAnyH_take (i := 3) (oi := { dst := some 50, op := Op.fieldAddr 79 (Operand.tmp 11) 0, type := 0, pos := "decide.go:103", after := #[], guard := none }) (v := ?_) rfl (by kernel_rfl) (by kernel_rfl) (by kernel_rfl) (fun _ _ _ h => h) (Or.inl ⟨by rfl, ?_⟩) hHeld ?_
            rotate_left
            · intro w hSw
              clear hSw
              go_simp
              try with_reducible rfl
            try simp only [Act.put, List.setIfInBounds_toArray, List.set_cons_zero, List.set_cons_succ]
            refine wpAnyH_take (i := 0) (oi := { dst := some 47, op := Op.load 79 (Operand.tmp 11), type := 79, pos := "decide.go:103", after := #[], guard := none }) (v := x.v) rfl (by kernel_rfl) (by kernel_rfl) (by kernel_rfl) (fun _ _ _ h => h) (yields_range (by rfl) _ rfl wr.heap.size 0 (by rfl) x (fun w h => rangeAt_below HC1.out.range h (by omega))) hHeld ?_
            try simp only [Act.put, List.setIfInBounds_toArray, List.set_cons_zero, List.set_cons_succ]
            refine wpAnyH_take (i := 4) (oi := { dst := some 51, op := Op.load 38 (Operand.tmp 50), type := 38, pos := "decide.go:103", after := #[{ on := 3, ground := Ground.data }], guard := none }) (v := x.p.v) rfl (by kernel_rfl) (by kernel_rfl) (by kernel_rfl) (fun _ _ _ h => h) (yields_path (by rfl) _ rfl wr.heap.size (by rfl) x (fun w h => HC1.out.below h (by omega))) hHeld ?_
            try simp only [Act.put, List.setIfInBounds_toArray, List.set_cons_zero, List.set_cons_succ]
            refine wpAnyH_ready (rs := [1]) (by kernel_rfl) (by simp) ?_
            refine AllReadyH.cons (o := { dst := some 48, op := Op.call { callee := Callee.value (Operand.func 91), args := #[Operand.tmp 47], argTypes := #[79] }, type := 28, pos := "decide.go:103", after := #[{ on := 0, ground := Ground.data }], guard := none }) rfl (fun K hK => ?_) AllReadyH.nil
            go_simp
            refine (med_any x _).mono ?_
            rintro e w9 ⟨rfl, hb9⟩
            go_wp2_with fail
            refine hK.out _ _ (hHeld.trans (hb9.mono (by simp))) (fun hHeld => ?_)
            clear hK K
            try simp only [Act.put, List.setIfInBounds_toArray, List.set_cons_zero, List.set_cons_succ]
            refine wpAnyH_ready (rs := [5]) (by kernel_rfl) (by simp) ?_
            refine AllReadyH.cons (o := { dst := some 52, op := Op.call { callee := Callee.value (Operand.func 14), args := #[Operand.tmp 51], argTypes := #[38] }, type := 28, pos := "decide.go:103", after := #[{ on := 4, ground := Ground.data }, { on := 1, ground := Ground.chain }], guard := none }) rfl (fun K hK => ?_) AllReadyH.nil
            go_simp
            refine (neighbour_any x.p _ (HOKA.out.below hHeld (by simp))).mono ?_
            rintro e w8 ⟨rfl, hb8⟩
            go_wp2_with fail
            refine hK.out _ _ (hHeld.trans (hb8.mono (by have := hHeld.size; simp at this; omega))) (fun hHeld => ?_)
            clear hK K
            try simp only [Act.put, List.setIfInBounds_toArray, List.set_cons_zero, List.set_cons_succ]
            refine wpAnyH_take (i := 6) (oi := { dst := some 53, op := Op.lookup 122 (Operand.tmp 49) (Operand.tmp 52) false, type := 28, pos := "decide.go:103", after := #[{ on := 2, ground := Ground.data }, { on := 5, ground := Ground.data }], guard := none }) (v := .int .u32 (medF x.p)) rfl (by kernel_rfl) (by kernel_rfl) (by kernel_rfl) (fun _ _ _ h => h) (Or.inl ⟨by rfl, fun w hSw => by have hl := (HMA.out.below hSw (by omega)).lookup_some1 (t := 122) u32Law Try.underlying122 (zero_u32 _) HKL.out (lowV_at HJ.out); clear hSw; go_simp⟩) hHeld ?_
            try simp only [Act.put, List.setIfInBounds_toArray, List.set_cons_zero, List.set_cons_succ]
            refine wpAnyH_take (i := 7) (oi := { dst := some 54, op := Op.binOp BinOp.eql 28 (Operand.tmp 48) (Operand.tmp 53) 28, type := 4, pos := "decide.go:103", after := #[{ on := 1, ground := Ground.data }, { on := 6, ground := Ground.data }], guard := none }) (v := .bool true) rfl (by kernel_rfl) (by kernel_rfl) (by kernel_rfl) (fun _ _ _ h => h) (Or.inl ⟨by rfl, ?_⟩) hHeld ?_
            · intro w hSw
              clear hSw
              go_simp
              all_goals first | rfl | simp
            try simp only [Act.put, List.setIfInBounds_toArray, List.set_cons_zero, List.set_cons_succ]
            refine wpAnyH_done (by kernel_rfl) ?_ _
            have HB9 := Lib.hid hHeld
            clear hHeld
            have HC9 : Hid (CellsAt w8 wr.heap.size x.cs 79) := HC1.out.below HB9.out (by omega)
            have HM9 : Hid (MapAt Try.prog 28 w8 w.heap.size (lowV M)) := HMA.out.below HB9.out (by omega)
            have HO9 : Hid (EsOwn w8 (w.heap.size + 1) (.slice A2 ys.length c2) ys) := HO1.out.below HB9.out (by simp)
            have HBW : Hid (Below w.heap.size w w8) := HB1.out.trans (HB9.out.mono (by omega))
            have hs9 : wr.heap.size + 1 ≤ w8.heap.size := by have := HB9.out.size; simp at this; omega
            have HC2 : Hid (CellsAt (w8.alloc (.cells x.cs 79)) w8.heap.size x.cs 79) := CellsAt.new _ _ _
            have HBS : Hid (w.heap.size + 1 ≤ (w8.alloc (.cells x.cs 79)).heap.size) := by
              show _ ≤ _
              simp
              omega
            have hle : ys.length ≤ 1000000 := by omega
            clear HB1 HC1 HO1 HMA HOKA HB9
            go_wp2_with (with_reducible show wpList _ _ _ (_ :: _) _ _; first | refine wpList_load_entry rfl (.tmp 11) rfl wr.heap.size 0 rfl x HC9.out.range ?_ | refine wpList_build_entry rfl (.tmp 56) rfl x rfl ?_ | refine wpList_append_entry rfl (.tmp 55) (.tmp 57) rfl (w.heap.size + 1) (.slice A2 ys.length c2) ys rfl (Lib.hid (EsOwn.alloc HO9.out _)) x w8.heap.size rfl HC2 HONE hle HBS.out ?_)
            intro A3 c3 w3 HOWN HBG HGR
            have HMZ : Hid (MapAt Try.prog 28 w3 w.heap.size (lowV M)) := (HM9.out.alloc _).grownBy HGR.out (fun e => by have := (OwnM.lt HO9.out _ e.symm).1; omega)
            go_wp2_with fail
            exact ⟨⟨k + 1, by omega, by go_num, by rw [HF.out]; exact HOWN.out, HMZ.out, HBG.out _ _ (HBW.out.alloc (by omega) _) (by omega)⟩, by simp [intOf]; omega⟩
          · rw [if_neg (fun e => hv (HRD.out.2 e)), List.append_nil] at HF
            have hbe : (medF x.p == v) = false := by rw [beq_eq_false_iff_ne]; exact hv
            clear HRD
            go_wp2_with (with_reducible show wpList _ _ _ (_ :: _) _ _; first | refine wpList_load_entry rfl (.tmp 45) rfl b (off + k * 31) rfl x HR.out ?_ | refine wpList_store_entry rfl (.tmp 11) (.tmp 46) rfl rfl x rfl rfl HONE.out ?_)
            refine wp_region_held_drew (S := fun w' => Below (wr.heap.size + 1) (wr.alloc (.cells x.cs 79)) w') (by kernel_rfl) (below_drewN (Below.refl _ _) 1) (fun hHeld => ?_)
            refine wpAnyH_take (i := 2) (oi := { dst := some 49, op := Op.move (Operand.tmp 3), type := 122, pos := "decide.go:103", after := #[], guard := none }) (v := ?_) rfl (by kernel_rfl) (by kernel_rfl) (by kernel_rfl) (fun _ _ _ h => h) (Or.inl ⟨by rfl, ?_⟩) hHeld ?_
            rotate_left
            · intro w hSw
              clear hSw
              go_simp
              try with_reducible rfl
            try simp only [Act.put, List.setIfInBounds_toArray, List.set_cons_zero, List.set_cons_succ]
            refine wpAnyH_take (i := 3) (oi := { dst := some 50, op := Op.fieldAddr 79 (Operand.tmp 11) 0, type := 0, pos := "decide.go:103", after := #[], guard := none }) (v := ?_) rfl (by kernel_rfl) (by kernel_rfl) (by kernel_rfl) (fun _ _ _ h => h) (Or.inl ⟨by rfl, ?_⟩) hHeld ?_
            rotate_left
            · intro w hSw
              clear hSw
              go_simp
              try with_reducible rfl
            try simp only [Act.put, List.setIfInBounds_toArray, List.set_cons_zero, List.set_cons_succ]
            refine wpAnyH_take (i := 0) (oi := { dst := some 47, op := Op.load 79 (Operand.tmp 11), type := 79, pos := "decide.go:103", after := #[], guard := none }) (v := x.v) rfl (by kernel_rfl) (by kernel_rfl) (by kernel_rfl) (fun _ _ _ h => h) (yields_range (by rfl) _ rfl wr.heap.size 0 (by rfl) x (fun w h => rangeAt_below HC1.out.range h (by omega))) hHeld ?_
            try simp only [Act.put, List.setIfInBounds_toArray, List.set_cons_zero, List.set_cons_succ]
            refine wpAnyH_take (i := 4) (oi := { dst := some 51, op := Op.load 38 (Operand.tmp 50), type := 38, pos := "decide.go:103", after := #[{ on := 3, ground := Ground.data }], guard := none }) (v := x.p.v) rfl (by kernel_rfl) (by kernel_rfl) (by kernel_rfl) (fun _ _ _ h => h) (yields_path (by rfl) _ rfl wr.heap.size (by rfl) x (fun w h => HC1.out.below h (by omega))) hHeld ?_
            try simp only [Act.put, List.setIfInBounds_toArray, List.set_cons_zero, List.set_cons_succ]
            refine wpAnyH_ready (rs := [1]) (by kernel_rfl) (by simp) ?_
            refine AllReadyH.cons (o := { dst := some 48, op := Op.call { callee := Callee.value (Operand.func 91), args := #[Operand.tmp 47], argTypes := #[79] }, type := 28, pos := "decide.go:103", after := #[{ on := 0, ground := Ground.data }], guard := none }) rfl (fun K hK => ?_) AllReadyH.nil
            go_simp
            refine (med_any x _).mono ?_
            rintro e w9 ⟨rfl, hb9⟩
            go_wp2_with fail
            refine hK.out _ _ (hHeld.trans (hb9.mono (by simp))) (fun hHeld => ?_)
            clear hK K
            try simp only [Act.put, List.setIfInBounds_toArray, List.set_cons_zero, List.set_cons_succ]
            refine wpAnyH_ready (rs := [5]) (by kernel_rfl) (by simp) ?_
            refine AllReadyH.cons (o := { dst := some 52, op := Op.call { callee := Callee.value (Operand.func 14), args := #[Operand.tmp 51], argTypes := #[38] }, type := 28, pos := "decide.go:103", after := #[{ on := 4, ground := Ground.data }, { on := 1, ground := Ground.chain }], guard := none }) rfl (fun K hK => ?_) AllReadyH.nil
            go_simp
            refine (neighbour_any x.p _ (HOKA.out.below hHeld (by simp))).mono ?_
            rintro e w8 ⟨rfl, hb8⟩
            go_wp2_with fail
            refine hK.out _ _ (hHeld.trans (hb8.mono (by have := hHeld.size; simp at this; omega))) (fun hHeld => ?_)
            clear hK K
            try simp only [Act.put, List.setIfInBounds_toArray, List.set_cons_zero, List.set_cons_succ]
            refine wpAnyH_take (i := 6) (oi := { dst := some 53, op := Op.lookup 122 (Operand.tmp 49) (Operand.tmp 52) false, type := 28, pos := "decide.go:103", after := #[{ on := 2, ground := Ground.data }, { on := 5, ground := Ground.data }], guard := none }) (v := .int .u32 v) rfl (by kernel_rfl) (by kernel_rfl) (by kernel_rfl) (fun _ _ _ h => h) (Or.inl ⟨by rfl, fun w hSw => by have hl := (HMA.out.below hSw (by omega)).lookup_some1 (t := 122) u32Law Try.underlying122 (zero_u32 _) HKL.out (lowV_at HJ.out); clear hSw; go_simp⟩) hHeld ?_
            try simp only [Act.put, List.setIfInBounds_toArray, List.set_cons_zero, List.set_cons_succ]
            refine wpAnyH_take (i := 7) (oi := { dst := some 54, op := Op.binOp BinOp.eql 28 (Operand.tmp 48) (Operand.tmp 53) 28, type := 4, pos := "decide.go:103", after := #[{ on := 1, ground := Ground.data }, { on := 6, ground := Ground.data }], guard := none }) (v := .bool false) rfl (by kernel_rfl) (by kernel_rfl) (by kernel_rfl) (fun _ _ _ h => h) (Or.inl ⟨by rfl, ?_⟩) hHeld ?_
            · intro w hSw
              clear hSw
              go_simp
              all_goals first | rfl | simp
            try simp only [Act.put, List.setIfInBounds_toArray, List.set_cons_zero, List.set_cons_succ]
            refine wpAnyH_done (by kernel_rfl) ?_ _
            have HB9 := Lib.hid hHeld
            clear hHeld
            have HM9 : Hid (MapAt Try.prog 28 w8 w.heap.size (lowV M)) := HMA.out.below HB9.out (by omega)
            have HO9 : Hid (EsOwn w8 (w.heap.size + 1) (.slice A2 ys.length c2) ys) := HO1.out.below HB9.out (by simp)
            have HBW : Hid (Below w.heap.size w w8) := HB1.out.trans (HB9.out.mono (by omega))
            go_wp2_with fail
            exact ⟨⟨k + 1, by omega, by go_num, by rw [HF.out]; exact HO9.out, HM9.out, HBW.out⟩, by simp [intOf]; omega⟩
        · obtain rfl : k = xs.length := by omega
          rw [List.take_length] at HO
          obtain ⟨A2, c2, rfl⟩ := OwnM.form HO.out
          go_wp2_with fail
          go_ret
          exact ⟨_, rfl, HO.out.lower (by omega), HBr.out⟩
end Go.Proofs.Ytoamigfjpcniaaa
