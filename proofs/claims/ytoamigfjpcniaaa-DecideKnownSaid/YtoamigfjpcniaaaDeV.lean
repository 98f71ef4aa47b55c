/-
  THE STAGE'S THEOREM walked: DecideSame. Conditions: sizes.
-/
import Derived.Test.YtoamigfjpcniaaaDeW
import Derived.BigRegion
set_option linter.unusedVariables false
set_option linter.unusedSimpArgs false
namespace Go.Proofs.Ytoamigfjpcniaaa
open Go.RowKit Go.MapKept Go.Shelf
open Go.Lib hiding intOf

/-- Go's truths in a slice of the call's own -/
def boolV (bs : List Bool) : List Value := bs.map fun b => .bool b
def BoolOwn (w : World) (g : Nat) (bs : List Bool) : Prop := CellsAt w g (boolV bs).toArray 4
theorem infoBool : (Try.prog.info? 4).map (fun i => (i.zero, i.size, i.bytes)) = some (some (.bool false), 1, 1) := by kernel_rfl
/-- which ones have come -/
def seenL (n : Nat) (l : List Nat) : List Bool := (List.range n).map fun j => decide (j ∈ l)
theorem seenL_at {n j : Nat} (l : List Nat) (h : j < n) : (seenL n l)[j]? = some (decide (j ∈ l)) := by
  unfold seenL
  rw [List.getElem?_map, List.getElem?_range h]
  rfl
theorem seenL_set {n x : Nat} (l : List Nat) (h : x < n) : (seenL n l).set x true = seenL n (l ++ [x]) := by
  apply List.ext_getElem?
  intro i
  rw [List.getElem?_set]
  unfold seenL
  rw [List.length_map, List.length_range]
  by_cases hi : i < n
  · rw [List.getElem?_map, List.getElem?_map, List.getElem?_range hi]
    by_cases hx : x = i
    · subst hx
      rw [if_pos rfl, if_pos h]
      simp
    · rw [if_neg hx]
      simp [Ne.symm hx]
  · rw [List.getElem?_eq_none (by simpa using hi), List.getElem?_eq_none (by simpa using hi), if_neg (by omega)]
theorem BoolOwn.c {w : World} {g i : Nat} {bs : List Bool} {b : Bool} (h : BoolOwn w g bs) (hi : bs[i]? = some b) : w.cell? ⟨g, i, none⟩ = some (.bool b) := by
  rw [CellsAt.c h, List.getElem?_toArray]
  unfold boolV
  rw [List.getElem?_map, hi]
  rfl
theorem BoolOwn.set {w : World} {g i : Nat} {bs : List Bool} (h : BoolOwn w g bs) (b : Bool) : BoolOwn (w.setCell ⟨g, i, none⟩ (.bool b)) g (bs.set i b) := by
  refine (CellsAt.setc h i (.bool b)).cast ?_
  unfold boolV
  rw [List.map_set]
  simp
theorem orderN_len : ∀ (n : Nat) (xs : List En), (orderN n xs).length ≤ n
  | 0, xs => Nat.le_refl _
  | n + 1, xs => by
    unfold orderN
    cases bestF xs with
    | none => simp
    | some b =>
      have := orderN_len n (xs.filter fun z => z.at_ != b.at_)
      show (b.at_ :: orderN n _).length ≤ _
      rw [List.length_cons]
      omega
theorem bool_made {w : World} {base g n : Nat} (h : w.ownsRow base 4 1 (.slice (some ⟨g, 0, none⟩) n n) n (madeCells #[.bool false] n).toList) : BoolOwn w g (seenL n []) := by
  rcases h.2 with ⟨h0, _⟩ | ⟨g', cap, cur, hv, hb, hg, h3, h4, h5, h6⟩
  · cases h0
  · simp only [Value.slice.injEq, Option.some.injEq, Addr.mk.injEq, true_and, and_true] at hv
    obtain ⟨rfl, rfl⟩ := hv
    refine CellsAt.cast (cs := cur) hg ?_
    apply Array.toList_inj.1
    rw [List.take_of_length_le (by rw [Array.length_toList, h5]; exact Nat.le_refl _)] at h6
    rw [h6]
    apply List.ext_getElem?
    intro i
    unfold boolV seenL madeCells
    by_cases hi : i < n
    · simp [hi, Nat.mod_one]
    · simp [hi]
section
variable {ops : Array Oper} {rest : List Oper} {op : Oper} {a : Act} {w : World} {Q : Exit → Act → World → Prop}
theorem wpList_load_path_g (hw : Region.wanted op (yielded ops a.tmps) = true) (src : Operand) (ho : op.op = .load 38 src) (b off : Nat) (hx : a.eval src = .pointer (some ⟨b, off, none⟩)) (p : Pt) (hc : w.rangeAt b off p.cs.toList)
    (h : wpList Try.prog ops Q rest (a.put op.dst (.agg p.cs)) w) : wpList Try.prog ops Q (op :: rest) a w := by
  obtain ⟨fs, hu⟩ := path_under
  refine wpList_step fun K hK => ?_
  rw [if_pos hw]
  exact wp_load_mid 38 src ho b off hx p.cs.toList _ hc hu rfl (by rw [path_size]; rfl) (hK _ _ h)
end
theorem yields_prange {ops : Array Oper} {S : World → Prop} {o : Oper} {a : Act} (hw : Region.wanted o (yielded ops a.tmps) = true) (src : Operand) (ho : o.op = .load 38 src)
    (b off : Nat) (hx : a.eval src = .pointer (some ⟨b, off, none⟩)) (p : Pt) (hS : ∀ w, S w → w.rangeAt b off p.cs.toList) : YieldsIf Try.prog ops S o p.v a := by
  obtain ⟨fs, hu⟩ := path_under
  exact yieldsIf_load_mid hw 38 src ho b off hx p.cs.toList _ hS hu rfl (by rw [path_size]; rfl)
theorem range_at {w : World} {b off j : Nat} {p : Pt} {v : Value} (h : w.rangeAt b off p.cs.toList) (hv : p.cs[j]? = some v) : w.cell? ⟨b, off + j, none⟩ = some v := h j v (by rwa [Array.getElem?_toList])
theorem NumOwn.c {w : World} {base : Nat} {v : Value} {ns : List Nat} (h : NumOwn w base v ns) (hl : 0 < ns.length) : ∃ g c, v = .slice (some ⟨g, 0, none⟩) ns.length c ∧ base ≤ g ∧ g < w.heap.size ∧ ns.length ≤ c ∧ c ≤ maxLen ∧ ∀ (i n : Nat), ns[i]? = some n → w.cell? ⟨g, i, none⟩ = some (.int .i64 (n : Nat)) := by
  obtain ⟨g, c, hv, hb, hg, hn, hc, hcell, _⟩ := OwnM.cells h hl
  refine ⟨g, c, hv, hb, hg, hn, hc, fun i n hi => hcell i _ ?_⟩
  unfold numV
  rw [List.getElem?_map, hi]
  rfl
set_option maxRecDepth 100000 in
set_option maxHeartbeats 4000000 in
theorem same_any (A : Option Addr) (cap m : Nat) (xs : List Spt) (w : World) (h : SpAt w A cap xs) (hm : m < 256) :
    Calls Try.prog 3 #[.slice A xs.length cap, .int .u8 (m : Nat)] w fun e w' => e = .returned (.bool true) ∧ Below w.heap.size w w' := by
  have HLI := Lib.hid (list_any A cap xs w h)
  have HORD := Lib.hid Order_any
  have HTK := Lib.hid taken_any
  have HBE := Lib.hid Best_any
  have HWK := Lib.hid works_any
  clear h
  go_enter Try.func3, Try.ntmps3
  go_wp2_with fail
  refine HLI.out.mono ?_
  rintro e w1 ⟨v, ps, rfl, hown, hall, hok, hb⟩
  obtain ⟨A1, c1, rfl, hps⟩ := hown.at_ hok
  have HPS := Lib.hid hps
  have HAL := Lib.hid hall
  have HB1 := Lib.hid hb
  have hn10 : ps.length ≤ 10 := by rw [hall.1]; omega
  have hs1 := hb.size
  clear hown hall hok hps hb HLI
  go_wp2_with fail
  go_loopw [7, 8] (fun o i wr => ∃ k : Nat, k ≤ ps.length ∧ i = .int .i64 k ∧ Hid (PsOwn wr w1.heap.size o (turnL ps m k)) ∧ Hid (Below w1.heap.size w1 wr)) (fun _ i _ => ps.length + 1 - (intOf i).toNat)
  case atStart => exact ⟨0, by omega, rfl, PsOwn.nil _ _, Below.refl _ _⟩
  case round =>
    obtain ⟨k, hk, rfl, HO, HB⟩ := hrel
    obtain ⟨A2, c2, rfl⟩ := OwnM.form HO.out
    have hs2 := HB.out.size
    by_cases hlt : k < ps.length
    · have hj : (k + m) % ps.length < ps.length := Nat.mod_lt _ (by omega)
      obtain ⟨p, hp⟩ : ∃ p, ps[(k + m) % ps.length]? = some p := ⟨_, List.getElem?_eq_getElem hj⟩
      obtain ⟨b, off, rfl, hbl, hr⟩ := PsAt.at_ (HPS.out.below HB.out (Nat.le_refl _)) hp
      have hmod : ((k : Int) + (m : Int)) % (ps.length : Int) = (((k + m) % ps.length : Nat) : Int) := by rw [Int.natCast_emod, Int.natCast_add]
      have HTS := Lib.hid (turn_succ hp)
      generalize (k + m) % ps.length = j at hj hp hr hmod
      have HTL : Hid ((turnL ps m k).length = k) := turn_len (by omega) k
      have HR := Lib.hid hr
      have HONE := Lib.hid (PtOk.pones (HPS.out.ok p (List.mem_of_getElem? hp)))
      have hcap := HPS.out.len
      have HC1 : Hid (CellsAt (wr.alloc (.cells (rows [p]) 38)) wr.heap.size (rows [p]) 38) := CellsAt.new _ _ _
      have HLE : Hid ((turnL ps m k).length ≤ 1000000) := by
        show _ ≤ _
        rw [HTL.out]
        omega
      have HBS : Hid (w1.heap.size ≤ (wr.alloc (.cells (rows [p]) 38)).heap.size) := by
        show _ ≤ _
        simp
        omega
      clear hr hp
      generalize turnL ps m k = ts at HO HTS HTL HLE
      go_wp2_with (with_reducible show wpList _ _ _ (_ :: _) _ _; first | refine wpList_load_path' rfl (.tmp 33) rfl b (off + j * 29) rfl p HR.out ?_ | refine wpList_build_paths rfl rfl [p] ?hv rfl (by decide) (by decide) ?_ | refine wpList_append_path rfl (.tmp 25) (.tmp 35) rfl w1.heap.size (.slice A2 ts.length c2) ts rfl (Lib.hid (PsOwn.alloc HO.out _)) p wr.heap.size rfl HC1 HONE HLE.out HBS.out ?_)
      intro A3 c3 w3 HOWN HBG HGR _
      go_wp2_with fail
      exact ⟨⟨k + 1, by omega, by go_num, by rw [HTS.out]; exact HOWN.out, HBG.out _ _ (HB.out.alloc hs2 _) (Nat.le_refl _)⟩, by simp [intOf]; omega⟩
    · obtain rfl : k = ps.length := by omega
      have HIDS := Lib.hid HAL.out.ids
      have hok2 : ∀ q ∈ turnL ps m ps.length, PtOk wr q := fun q hq => (HPS.out.ok q (turn_mem hq)).below HB.out (Nat.le_refl _)
      have HTL2 : Hid ((turnL ps m ps.length).length = ps.length) := by
        show _ = _
        rcases Nat.eq_zero_or_pos ps.length with h0 | h0
        · rw [h0]; rfl
        · exact turn_len h0 _
      obtain ⟨A4, c4, hv4, hts⟩ := HO.out.at_ hok2
      simp only [Value.slice.injEq, true_and] at hv4
      obtain ⟨rfl, rfl⟩ := hv4
      have HFACT := Lib.hid (same_facts (f := costP priceF) m HIDS.out)
      have HBF := Lib.hid (best_first (openL (costP priceF) 0 ps))
      generalize turnL ps m ps.length = ts at *
      have HTSA := Lib.hid hts
      have HBW : Hid (Below w.heap.size w wr) := HB1.out.trans (HB.out.mono hs1)
      have hlen2 : ts.length = ps.length := HTL2.out
      rw [hlen2] at *
      clear hok2 hts hlen2 HO
      have HPW : Hid (PsAt wr A1 c1 ps) := HPS.out.below HB.out (Nat.le_refl _)
      have HTSB : Hid (PsAt wr A2 c2 ts) := HTSA.out
      generalize hw0 : wr = w0 at *
      clear hw0 HB HPS HTSA
      have hsw : w.heap.size ≤ w0.heap.size := HBW.out.size
      go_wp2_with fail
      refine (HORD.out A1 c1 ps (.func (.func 10) #[] #[]) (costP priceF) w0 HPW.out (fits_cost (price_cost w0)) (by omega)).mono ?_
      rintro e w5 ⟨va, rfl, ha, hb5⟩
      have HA5 := Lib.hid ha
      have HB5 := Lib.hid hb5
      clear ha hb5
      go_wp2_with fail
      have HTS5 : Hid (PsAt w5 A2 c2 ts) := HTSB.out.below HB5.out (Nat.le_refl _)
      have HO6 := HORD.out A2 c2 ts (.func (.func 10) #[] #[]) (costP priceF) w5 HTS5.out (fits_cost (price_cost w5)) (by rw [HTL2.out]; omega)
      rw [HTL2.out] at HO6
      refine HO6.mono ?_
      clear HO6
      rintro e w6 ⟨vb, rfl, hbo, hb6⟩
      have hs5 : w0.heap.size ≤ w5.heap.size := HB5.out.size
      have HA6 : Hid (NumOwn w6 w0.heap.size va (orderF (openL (costP priceF) 0 ps))) := HA5.out.below hb6 (Nat.le_refl _)
      have HB6 : Hid (Below w0.heap.size w0 w6) := HB5.out.trans (hb6.mono hs5)
      have HP6 : Hid (PsAt w6 A1 c1 ps) := HPW.out.below HB6.out (Nat.le_refl _)
      have HT6 : Hid (PsAt w6 A2 c2 ts) := HTSB.out.below HB6.out (Nat.le_refl _)
      have HBO6 := Lib.hid hbo
      clear hbo hb6 HA5 HB5 HPW HTSB HTS5
      have hll : (orderF (openL (costP priceF) 0 ps)).length ≤ 10 := Nat.le_trans (orderN_len _ _) (Nat.le_trans (openL_len _ _ _) hn10)
      generalize orderF (openL (costP priceF) 0 ps) = la at HA6 HFACT HBF hll
      generalize orderF (openL (costP priceF) 0 ts) = lb at HBO6 HFACT
      obtain ⟨Aa, ca, rfl⟩ := OwnM.form HA6.out
      obtain ⟨Ab, cb, rfl⟩ := OwnM.form HBO6.out
      have HF1 := Lib.hid HFACT.out.1
      have hs6 : w0.heap.size ≤ w6.heap.size := HB6.out.size
      rw [← HF1.out]
      obtain ⟨ib, hi, hz0, hz1, hz2⟩ := info_parts infoBool
      have HI0 := Lib.hid hi
      have HI1 := Lib.hid hz0
      have HI2 := Lib.hid hz1
      have HI3 := Lib.hid hz2
      clear hi hz0 hz1 hz2
      go_wp2_with (at_make; refine wpList_make_full w6 rfl (.tmp 46) (.tmp 46) 42 rfl w6.heap.size 4 ib _ 1 Try.underlying42 HI0.out HI1.out HI2.out .i64 .i64 _ _ ps.length rfl rfl rfl rfl ?m1 ?m2 (Nat.le_refl _) ?m3)
      case m1 => rw [HI3.out]; omega
      case m2 => unfold maxLen; omega
      intro w7 hown7 hgr7
      have HS7 : Hid (BoolOwn w7 w6.heap.size (seenL ps.length (la.take 0))) := bool_made hown7
      have HB7 : Hid (Below w6.heap.size w6 w7) := ⟨hgr7.os, hgr7.tape, hgr7.output, hgr7.size, fun i hi => hgr7.block i hi (by simp)⟩
      clear hown7 hgr7 HI0 HI1 HI2 HI3
      go_wp2_with fail
      go_loopw [12] (fun i wr => ∃ k : Nat, k ≤ la.length ∧ i = .int .i64 k ∧ Hid (BoolOwn wr w6.heap.size (seenL ps.length (la.take k))) ∧ Hid (Below w6.heap.size w6 wr)) (fun i _ => la.length + 1 - (intOf i).toNat)
      case atStart => exact ⟨0, by omega, rfl, HS7.out, HB7.out⟩
      case round =>
        obtain ⟨k, hk, rfl, HS, HBr⟩ := hrel
        clear HS7 HB7
        by_cases hlt : k < la.length
        · obtain ⟨x, hx⟩ : ∃ x, la[k]? = some x := ⟨la[k], List.getElem?_eq_getElem hlt⟩
          obtain ⟨y, hy⟩ : ∃ y, lb[k]? = some y := ⟨lb[k]'(by rw [← HF1.out]; exact hlt), List.getElem?_eq_getElem _⟩
          obtain ⟨hxn, ⟨p, hp, hpt⟩, hnx⟩ := HFACT.out.2.1 k x hx
          obtain ⟨hyn, p2, q, hp2, hq, hid⟩ := HFACT.out.2.2.1 k x y hx hy
          obtain rfl : p = p2 := by rw [hp] at hp2; exact Option.some.inj hp2
          obtain ⟨ga, ca2, hva, hga0, hga, hgc, hgm, hac⟩ := NumOwn.c HA6.out (by omega)
          simp only [Value.slice.injEq, true_and] at hva
          obtain ⟨rfl, rfl⟩ := hva
          obtain ⟨gb, cb2, hvb, hgb0, hgb, hgc2, hgm2, hbc⟩ := NumOwn.c HBO6.out (by rw [← HF1.out]; omega)
          rw [← HF1.out] at hvb hgc2
          simp only [Value.slice.injEq, true_and] at hvb
          obtain ⟨rfl, rfl⟩ := hvb
          obtain ⟨b1, off1, rfl, hbl1, hr1⟩ := PsAt.at_ (HP6.out.below HBr.out (Nat.le_refl _)) hp
          obtain ⟨b2, off2, rfl, hbl2, hr2⟩ := PsAt.at_ (HT6.out.below HBr.out (Nat.le_refl _)) hq
          have la1 := (HBr.out.cell (p := ⟨ga, k, none⟩) hga).trans (hac k x hx)
          have lb1 := (HBr.out.cell (p := ⟨gb, k, none⟩) hgb).trans (hbc k y hy)
          have ls1 : wr.cell? ⟨w6.heap.size, x, none⟩ = some (.bool false) := by
            have := BoolOwn.c HS.out (seenL_at (la.take k) hxn)
            rwa [decide_eq_false hnx] at this
          have hpc := HP6.out.len
          have hqc := HT6.out.len
          rw [HTL2.out] at hqc
          have HR1 := Lib.hid hr1
          have HR2 := Lib.hid hr2
          have HTP : Hid (takenF p = true) := hpt
          have HID := Lib.hid hid
          have hx0 : ¬ ((x : Int) < 0) := by omega
          have hy0 : ¬ ((y : Int) < 0) := by omega
          have hx1 : ¬ ((ps.length : Int) ≤ (x : Int)) := by omega
          have hy1 : ¬ ((ps.length : Int) ≤ (y : Int)) := by omega
          have HSET := Lib.hid (seenL_set (la.take k) hxn)
          have HTA : Hid (la.take (k + 1) = la.take k ++ [x]) := by
            show _ = _
            rw [List.take_add_one, hx]
            rfl
          clear hx hy hp hpt hnx hp2 hq hid hac hbc hr1 hr2
          have hs9 := HBr.out.size
          have hga9 : ga < wr.heap.size := by omega
          have hgb9 : gb < wr.heap.size := by omega
          have hsl : w6.heap.size < wr.heap.size := HS.out.lt
          have i1 := range_at (j := 4) HR1.out (show p.cs[4]? = some (.int .u32 p.id) from by kernel_rfl)
          have i2 := range_at (j := 4) HR2.out (show q.cs[4]? = some (.int .u32 q.id) from by kernel_rfl)
          rw [← HID.out] at i2
          go_wp2_with fail
          refine wp_region_held_drew (S := fun w' => Below wr.heap.size wr w') (by as_aux_lemma => kernel_rfl) (below_drewN (Below.refl _ _) 1) (fun hHeld => ?_)
          refine wpAnyH_take (i := 0) (oi := { dst := some 54, op := Op.move (Operand.tmp 9), type := 39, pos := "outright.go:98", after := #[], guard := none }) (v := ?_) rfl (by as_aux_lemma => kernel_rfl) (by as_aux_lemma => kernel_rfl) (by as_aux_lemma => kernel_rfl) (fun _ _ _ h => h) (Or.inl ⟨by rfl, ?_⟩) hHeld ?_
          rotate_left
          · intro w hSw
            clear hSw
            go_simp
            try with_reducible rfl
          try simp only [Act.put, List.setIfInBounds_toArray, List.set_cons_zero, List.set_cons_succ]
          refine wpAnyH_take (i := 1) (oi := { dst := some 55, op := Op.move (Operand.tmp 12), type := 3, pos := "outright.go:98", after := #[], guard := none }) (v := ?_) rfl (by as_aux_lemma => kernel_rfl) (by as_aux_lemma => kernel_rfl) (by as_aux_lemma => kernel_rfl) (fun _ _ _ h => h) (Or.inl ⟨by rfl, ?_⟩) hHeld ?_
          rotate_left
          · intro w hSw
            clear hSw
            go_simp
            try with_reducible rfl
          try simp only [Act.put, List.setIfInBounds_toArray, List.set_cons_zero, List.set_cons_succ]
          refine wpAnyH_take (i := 2) (oi := { dst := some 56, op := Op.indexAddr 39 (Operand.tmp 54) (Operand.tmp 55), type := 0, pos := "outright.go:98", after := #[{ on := 0, ground := Ground.data }, { on := 1, ground := Ground.data }], guard := none }) (v := ?_) rfl (by as_aux_lemma => kernel_rfl) (by as_aux_lemma => kernel_rfl) (by as_aux_lemma => kernel_rfl) (fun _ _ _ h => h) (Or.inl ⟨by rfl, ?_⟩) hHeld ?_
          rotate_left
          · intro w hSw
            clear hSw
            go_simp
            try with_reducible rfl
          try simp only [Act.put, List.setIfInBounds_toArray, List.set_cons_zero, List.set_cons_succ]
          refine wpAnyH_take (i := 3) (oi := { dst := some 57, op := Op.load 3 (Operand.tmp 56), type := 3, pos := "outright.go:98", after := #[{ on := 2, ground := Ground.data }], guard := none }) (v := ?_) rfl (by as_aux_lemma => kernel_rfl) (by as_aux_lemma => kernel_rfl) (by as_aux_lemma => kernel_rfl) (fun _ _ _ h => h) (Or.inl ⟨by rfl, ?_⟩) hHeld ?_
          rotate_left
          · intro w hSw
            have e1 := (hSw.cell (p := ⟨ga, k, none⟩) hga9).trans la1
            have e2 := (hSw.cell (p := ⟨gb, k, none⟩) hgb9).trans lb1
            have e3 := (hSw.cell (p := ⟨w6.heap.size, x, none⟩) hsl).trans ls1
            have e4 := (hSw.cell (p := ⟨b1, off1 + x * 29 + 4, none⟩) hbl1).trans i1
            have e5 := (hSw.cell (p := ⟨b2, off2 + y * 29 + 4, none⟩) hbl2).trans i2
            clear hSw
            go_simp
            try with_reducible rfl
          try simp only [Act.put, List.setIfInBounds_toArray, List.set_cons_zero, List.set_cons_succ]
          refine wpAnyH_take (i := 4) (oi := { dst := some 58, op := Op.binOp BinOp.lss 3 (Operand.tmp 57) (Operand.const (Value.int IntKind.i64 0)) 3, type := 4, pos := "outright.go:98", after := #[{ on := 3, ground := Ground.data }], guard := none }) (v := .bool false) rfl (by as_aux_lemma => kernel_rfl) (by as_aux_lemma => kernel_rfl) (by as_aux_lemma => kernel_rfl) (fun _ _ _ h => h) (Or.inl ⟨by rfl, ?_⟩) hHeld ?_
          · intro w hSw
            clear hSw
            go_simp
            all_goals first | rfl | simp | omega
          try simp only [Act.put, List.setIfInBounds_toArray, List.set_cons_zero, List.set_cons_succ]
          refine wpAnyH_take (i := 5) (oi := { dst := some 59, op := Op.move (Operand.tmp 58), type := 4, pos := "outright.go:98", after := #[{ on := 4, ground := Ground.data }], guard := none }) (v := ?_) rfl (by as_aux_lemma => kernel_rfl) (by as_aux_lemma => kernel_rfl) (by as_aux_lemma => kernel_rfl) (fun _ _ _ h => h) (Or.inl ⟨by rfl, ?_⟩) hHeld ?_
          rotate_left
          · intro w hSw
            clear hSw
            go_simp
            try with_reducible rfl
          try simp only [Act.put, List.setIfInBounds_toArray, List.set_cons_zero, List.set_cons_succ]
          refine wpAnyH_take (i := 6) (oi := { dst := some 60, op := Op.move (Operand.tmp 9), type := 39, pos := "outright.go:98", after := #[{ on := 5, ground := Ground.guard }], guard := some (5, false) }) (v := ?_) rfl (by as_aux_lemma => kernel_rfl) (by as_aux_lemma => kernel_rfl) (by as_aux_lemma => kernel_rfl) (fun _ _ _ h => h) (Or.inl ⟨by rfl, ?_⟩) hHeld ?_
          rotate_left
          · intro w hSw
            clear hSw
            go_simp
            try with_reducible rfl
          try simp only [Act.put, List.setIfInBounds_toArray, List.set_cons_zero, List.set_cons_succ]
          refine wpAnyH_take (i := 7) (oi := { dst := some 61, op := Op.move (Operand.tmp 12), type := 3, pos := "outright.go:98", after := #[{ on := 5, ground := Ground.guard }], guard := some (5, false) }) (v := ?_) rfl (by as_aux_lemma => kernel_rfl) (by as_aux_lemma => kernel_rfl) (by as_aux_lemma => kernel_rfl) (fun _ _ _ h => h) (Or.inl ⟨by rfl, ?_⟩) hHeld ?_
          rotate_left
          · intro w hSw
            clear hSw
            go_simp
            try with_reducible rfl
          try simp only [Act.put, List.setIfInBounds_toArray, List.set_cons_zero, List.set_cons_succ]
          refine wpAnyH_take (i := 8) (oi := { dst := some 62, op := Op.indexAddr 39 (Operand.tmp 60) (Operand.tmp 61), type := 0, pos := "outright.go:98", after := #[{ on := 6, ground := Ground.data }, { on := 7, ground := Ground.data }, { on := 5, ground := Ground.guard }], guard := some (5, false) }) (v := ?_) rfl (by as_aux_lemma => kernel_rfl) (by as_aux_lemma => kernel_rfl) (by as_aux_lemma => kernel_rfl) (fun _ _ _ h => h) (Or.inl ⟨by rfl, ?_⟩) hHeld ?_
          rotate_left
          · intro w hSw
            clear hSw
            go_simp
            try with_reducible rfl
          try simp only [Act.put, List.setIfInBounds_toArray, List.set_cons_zero, List.set_cons_succ]
          refine wpAnyH_take (i := 9) (oi := { dst := some 63, op := Op.load 3 (Operand.tmp 62), type := 3, pos := "outright.go:98", after := #[{ on := 8, ground := Ground.data }, { on := 5, ground := Ground.guard }], guard := some (5, false) }) (v := ?_) rfl (by as_aux_lemma => kernel_rfl) (by as_aux_lemma => kernel_rfl) (by as_aux_lemma => kernel_rfl) (fun _ _ _ h => h) (Or.inl ⟨by rfl, ?_⟩) hHeld ?_
          rotate_left
          · intro w hSw
            have e1 := (hSw.cell (p := ⟨ga, k, none⟩) hga9).trans la1
            have e2 := (hSw.cell (p := ⟨gb, k, none⟩) hgb9).trans lb1
            have e3 := (hSw.cell (p := ⟨w6.heap.size, x, none⟩) hsl).trans ls1
            have e4 := (hSw.cell (p := ⟨b1, off1 + x * 29 + 4, none⟩) hbl1).trans i1
            have e5 := (hSw.cell (p := ⟨b2, off2 + y * 29 + 4, none⟩) hbl2).trans i2
            clear hSw
            go_simp
            try with_reducible rfl
          try simp only [Act.put, List.setIfInBounds_toArray, List.set_cons_zero, List.set_cons_succ]
          refine wpAnyH_take (i := 10) (oi := { dst := some 64, op := Op.move (Operand.tmp 6), type := 3, pos := "outright.go:98", after := #[{ on := 5, ground := Ground.guard }], guard := some (5, false) }) (v := ?_) rfl (by as_aux_lemma => kernel_rfl) (by as_aux_lemma => kernel_rfl) (by as_aux_lemma => kernel_rfl) (fun _ _ _ h => h) (Or.inl ⟨by rfl, ?_⟩) hHeld ?_
          rotate_left
          · intro w hSw
            clear hSw
            go_simp
            try with_reducible rfl
          try simp only [Act.put, List.setIfInBounds_toArray, List.set_cons_zero, List.set_cons_succ]
          refine wpAnyH_take (i := 11) (oi := { dst := some 65, op := Op.binOp BinOp.geq 3 (Operand.tmp 63) (Operand.tmp 64) 3, type := 4, pos := "outright.go:98", after := #[{ on := 9, ground := Ground.data }, { on := 10, ground := Ground.data }, { on := 5, ground := Ground.guard }], guard := some (5, false) }) (v := .bool false) rfl (by as_aux_lemma => kernel_rfl) (by as_aux_lemma => kernel_rfl) (by as_aux_lemma => kernel_rfl) (fun _ _ _ h => h) (Or.inl ⟨by rfl, ?_⟩) hHeld ?_
          · intro w hSw
            clear hSw
            go_simp
            all_goals first | rfl | simp | omega
          try simp only [Act.put, List.setIfInBounds_toArray, List.set_cons_zero, List.set_cons_succ]
          refine wpAnyH_take (i := 12) (oi := { dst := some 66, op := Op.pick (Operand.tmp 59) (Operand.const (Value.bool true)) (Operand.tmp 65), type := 4, pos := "outright.go:98", after := #[{ on := 5, ground := Ground.data }, { on := 11, ground := Ground.data }], guard := none }) (v := ?_) rfl (by as_aux_lemma => kernel_rfl) (by as_aux_lemma => kernel_rfl) (by as_aux_lemma => kernel_rfl) (fun _ _ _ h => h) (Or.inl ⟨by rfl, ?_⟩) hHeld ?_
          rotate_left
          · intro w hSw
            clear hSw
            go_simp
            try with_reducible rfl
          try simp only [Act.put, List.setIfInBounds_toArray, List.set_cons_zero, List.set_cons_succ]
          refine wpAnyH_take (i := 13) (oi := { dst := some 67, op := Op.move (Operand.tmp 66), type := 4, pos := "outright.go:98", after := #[{ on := 12, ground := Ground.data }, { on := 5, ground := Ground.chain }], guard := none }) (v := ?_) rfl (by as_aux_lemma => kernel_rfl) (by as_aux_lemma => kernel_rfl) (by as_aux_lemma => kernel_rfl) (fun _ _ _ h => h) (Or.inl ⟨by rfl, ?_⟩) hHeld ?_
          rotate_left
          · intro w hSw
            clear hSw
            go_simp
            try with_reducible rfl
          try simp only [Act.put, List.setIfInBounds_toArray, List.set_cons_zero, List.set_cons_succ]
          refine wpAnyH_take (i := 14) (oi := { dst := some 68, op := Op.move (Operand.tmp 10), type := 39, pos := "outright.go:98", after := #[{ on := 13, ground := Ground.guard }], guard := some (13, false) }) (v := ?_) rfl (by as_aux_lemma => kernel_rfl) (by as_aux_lemma => kernel_rfl) (by as_aux_lemma => kernel_rfl) (fun _ _ _ h => h) (Or.inl ⟨by rfl, ?_⟩) hHeld ?_
          rotate_left
          · intro w hSw
            clear hSw
            go_simp
            try with_reducible rfl
          try simp only [Act.put, List.setIfInBounds_toArray, List.set_cons_zero, List.set_cons_succ]
          refine wpAnyH_take (i := 15) (oi := { dst := some 69, op := Op.move (Operand.tmp 12), type := 3, pos := "outright.go:98", after := #[{ on := 13, ground := Ground.guard }], guard := some (13, false) }) (v := ?_) rfl (by as_aux_lemma => kernel_rfl) (by as_aux_lemma => kernel_rfl) (by as_aux_lemma => kernel_rfl) (fun _ _ _ h => h) (Or.inl ⟨by rfl, ?_⟩) hHeld ?_
          rotate_left
          · intro w hSw
            clear hSw
            go_simp
            try with_reducible rfl
          try simp only [Act.put, List.setIfInBounds_toArray, List.set_cons_zero, List.set_cons_succ]
          refine wpAnyH_take (i := 16) (oi := { dst := some 70, op := Op.indexAddr 39 (Operand.tmp 68) (Operand.tmp 69), type := 0, pos := "outright.go:98", after := #[{ on := 14, ground := Ground.data }, { on := 15, ground := Ground.data }, { on := 13, ground := Ground.guard }], guard := some (13, false) }) (v := ?_) rfl (by as_aux_lemma => kernel_rfl) (by as_aux_lemma => kernel_rfl) (by as_aux_lemma => kernel_rfl) (fun _ _ _ h => h) (Or.inl ⟨by rfl, ?_⟩) hHeld ?_
          rotate_left
          · intro w hSw
            clear hSw
            go_simp
            try with_reducible rfl
          try simp only [Act.put, List.setIfInBounds_toArray, List.set_cons_zero, List.set_cons_succ]
          refine wpAnyH_take (i := 17) (oi := { dst := some 71, op := Op.load 3 (Operand.tmp 70), type := 3, pos := "outright.go:98", after := #[{ on := 16, ground := Ground.data }, { on := 13, ground := Ground.guard }], guard := some (13, false) }) (v := ?_) rfl (by as_aux_lemma => kernel_rfl) (by as_aux_lemma => kernel_rfl) (by as_aux_lemma => kernel_rfl) (fun _ _ _ h => h) (Or.inl ⟨by rfl, ?_⟩) hHeld ?_
          rotate_left
          · intro w hSw
            have e1 := (hSw.cell (p := ⟨ga, k, none⟩) hga9).trans la1
            have e2 := (hSw.cell (p := ⟨gb, k, none⟩) hgb9).trans lb1
            have e3 := (hSw.cell (p := ⟨w6.heap.size, x, none⟩) hsl).trans ls1
            have e4 := (hSw.cell (p := ⟨b1, off1 + x * 29 + 4, none⟩) hbl1).trans i1
            have e5 := (hSw.cell (p := ⟨b2, off2 + y * 29 + 4, none⟩) hbl2).trans i2
            clear hSw
            go_simp
            try with_reducible rfl
          try simp only [Act.put, List.setIfInBounds_toArray, List.set_cons_zero, List.set_cons_succ]
          refine wpAnyH_take (i := 18) (oi := { dst := some 72, op := Op.binOp BinOp.lss 3 (Operand.tmp 71) (Operand.const (Value.int IntKind.i64 0)) 3, type := 4, pos := "outright.go:98", after := #[{ on := 17, ground := Ground.data }, { on := 13, ground := Ground.guard }], guard := some (13, false) }) (v := .bool false) rfl (by as_aux_lemma => kernel_rfl) (by as_aux_lemma => kernel_rfl) (by as_aux_lemma => kernel_rfl) (fun _ _ _ h => h) (Or.inl ⟨by rfl, ?_⟩) hHeld ?_
          · intro w hSw
            clear hSw
            go_simp
            all_goals first | rfl | simp | omega
          try simp only [Act.put, List.setIfInBounds_toArray, List.set_cons_zero, List.set_cons_succ]
          refine wpAnyH_take (i := 19) (oi := { dst := some 73, op := Op.pick (Operand.tmp 67) (Operand.const (Value.bool true)) (Operand.tmp 72), type := 4, pos := "outright.go:98", after := #[{ on := 13, ground := Ground.data }, { on := 18, ground := Ground.data }], guard := none }) (v := ?_) rfl (by as_aux_lemma => kernel_rfl) (by as_aux_lemma => kernel_rfl) (by as_aux_lemma => kernel_rfl) (fun _ _ _ h => h) (Or.inl ⟨by rfl, ?_⟩) hHeld ?_
          rotate_left
          · intro w hSw
            clear hSw
            go_simp
            try with_reducible rfl
          try simp only [Act.put, List.setIfInBounds_toArray, List.set_cons_zero, List.set_cons_succ]
          refine wpAnyH_take (i := 20) (oi := { dst := some 74, op := Op.move (Operand.tmp 73), type := 4, pos := "outright.go:98", after := #[{ on := 19, ground := Ground.data }, { on := 13, ground := Ground.chain }], guard := none }) (v := ?_) rfl (by as_aux_lemma => kernel_rfl) (by as_aux_lemma => kernel_rfl) (by as_aux_lemma => kernel_rfl) (fun _ _ _ h => h) (Or.inl ⟨by rfl, ?_⟩) hHeld ?_
          rotate_left
          · intro w hSw
            clear hSw
            go_simp
            try with_reducible rfl
          try simp only [Act.put, List.setIfInBounds_toArray, List.set_cons_zero, List.set_cons_succ]
          refine wpAnyH_take (i := 21) (oi := { dst := some 75, op := Op.move (Operand.tmp 10), type := 39, pos := "outright.go:98", after := #[{ on := 20, ground := Ground.guard }], guard := some (20, false) }) (v := ?_) rfl (by as_aux_lemma => kernel_rfl) (by as_aux_lemma => kernel_rfl) (by as_aux_lemma => kernel_rfl) (fun _ _ _ h => h) (Or.inl ⟨by rfl, ?_⟩) hHeld ?_
          rotate_left
          · intro w hSw
            clear hSw
            go_simp
            try with_reducible rfl
          try simp only [Act.put, List.setIfInBounds_toArray, List.set_cons_zero, List.set_cons_succ]
          refine wpAnyH_take (i := 22) (oi := { dst := some 76, op := Op.move (Operand.tmp 12), type := 3, pos := "outright.go:98", after := #[{ on := 20, ground := Ground.guard }], guard := some (20, false) }) (v := ?_) rfl (by as_aux_lemma => kernel_rfl) (by as_aux_lemma => kernel_rfl) (by as_aux_lemma => kernel_rfl) (fun _ _ _ h => h) (Or.inl ⟨by rfl, ?_⟩) hHeld ?_
          rotate_left
          · intro w hSw
            clear hSw
            go_simp
            try with_reducible rfl
          try simp only [Act.put, List.setIfInBounds_toArray, List.set_cons_zero, List.set_cons_succ]
          refine wpAnyH_take (i := 23) (oi := { dst := some 77, op := Op.indexAddr 39 (Operand.tmp 75) (Operand.tmp 76), type := 0, pos := "outright.go:98", after := #[{ on := 21, ground := Ground.data }, { on := 22, ground := Ground.data }, { on := 20, ground := Ground.guard }], guard := some (20, false) }) (v := ?_) rfl (by as_aux_lemma => kernel_rfl) (by as_aux_lemma => kernel_rfl) (by as_aux_lemma => kernel_rfl) (fun _ _ _ h => h) (Or.inl ⟨by rfl, ?_⟩) hHeld ?_
          rotate_left
          · intro w hSw
            clear hSw
            go_simp
            try with_reducible rfl
          try simp only [Act.put, List.setIfInBounds_toArray, List.set_cons_zero, List.set_cons_succ]
          refine wpAnyH_take (i := 24) (oi := { dst := some 78, op := Op.load 3 (Operand.tmp 77), type := 3, pos := "outright.go:98", after := #[{ on := 23, ground := Ground.data }, { on := 20, ground := Ground.guard }], guard := some (20, false) }) (v := ?_) rfl (by as_aux_lemma => kernel_rfl) (by as_aux_lemma => kernel_rfl) (by as_aux_lemma => kernel_rfl) (fun _ _ _ h => h) (Or.inl ⟨by rfl, ?_⟩) hHeld ?_
          rotate_left
          · intro w hSw
            have e1 := (hSw.cell (p := ⟨ga, k, none⟩) hga9).trans la1
            have e2 := (hSw.cell (p := ⟨gb, k, none⟩) hgb9).trans lb1
            have e3 := (hSw.cell (p := ⟨w6.heap.size, x, none⟩) hsl).trans ls1
            have e4 := (hSw.cell (p := ⟨b1, off1 + x * 29 + 4, none⟩) hbl1).trans i1
            have e5 := (hSw.cell (p := ⟨b2, off2 + y * 29 + 4, none⟩) hbl2).trans i2
            clear hSw
            go_simp
            try with_reducible rfl
          try simp only [Act.put, List.setIfInBounds_toArray, List.set_cons_zero, List.set_cons_succ]
          refine wpAnyH_take (i := 25) (oi := { dst := some 79, op := Op.move (Operand.tmp 6), type := 3, pos := "outright.go:98", after := #[{ on := 20, ground := Ground.guard }], guard := some (20, false) }) (v := ?_) rfl (by as_aux_lemma => kernel_rfl) (by as_aux_lemma => kernel_rfl) (by as_aux_lemma => kernel_rfl) (fun _ _ _ h => h) (Or.inl ⟨by rfl, ?_⟩) hHeld ?_
          rotate_left
          · intro w hSw
            clear hSw
            go_simp
            try with_reducible rfl
          try simp only [Act.put, List.setIfInBounds_toArray, List.set_cons_zero, List.set_cons_succ]
          refine wpAnyH_take (i := 26) (oi := { dst := some 80, op := Op.binOp BinOp.geq 3 (Operand.tmp 78) (Operand.tmp 79) 3, type := 4, pos := "outright.go:98", after := #[{ on := 24, ground := Ground.data }, { on := 25, ground := Ground.data }, { on := 20, ground := Ground.guard }], guard := some (20, false) }) (v := .bool false) rfl (by as_aux_lemma => kernel_rfl) (by as_aux_lemma => kernel_rfl) (by as_aux_lemma => kernel_rfl) (fun _ _ _ h => h) (Or.inl ⟨by rfl, ?_⟩) hHeld ?_
          · intro w hSw
            clear hSw
            go_simp
            all_goals first | rfl | simp | omega
          try simp only [Act.put, List.setIfInBounds_toArray, List.set_cons_zero, List.set_cons_succ]
          refine wpAnyH_take (i := 27) (oi := { dst := some 81, op := Op.pick (Operand.tmp 74) (Operand.const (Value.bool true)) (Operand.tmp 80), type := 4, pos := "outright.go:98", after := #[{ on := 20, ground := Ground.data }, { on := 26, ground := Ground.data }], guard := none }) (v := ?_) rfl (by as_aux_lemma => kernel_rfl) (by as_aux_lemma => kernel_rfl) (by as_aux_lemma => kernel_rfl) (fun _ _ _ h => h) (Or.inl ⟨by rfl, ?_⟩) hHeld ?_
          rotate_left
          · intro w hSw
            clear hSw
            go_simp
            try with_reducible rfl
          try simp only [Act.put, List.setIfInBounds_toArray, List.set_cons_zero, List.set_cons_succ]
          refine wpAnyH_take (i := 28) (oi := { dst := some 82, op := Op.move (Operand.tmp 81), type := 4, pos := "outright.go:98", after := #[{ on := 27, ground := Ground.data }, { on := 20, ground := Ground.chain }], guard := none }) (v := ?_) rfl (by as_aux_lemma => kernel_rfl) (by as_aux_lemma => kernel_rfl) (by as_aux_lemma => kernel_rfl) (fun _ _ _ h => h) (Or.inl ⟨by rfl, ?_⟩) hHeld ?_
          rotate_left
          · intro w hSw
            clear hSw
            go_simp
            try with_reducible rfl
          try simp only [Act.put, List.setIfInBounds_toArray, List.set_cons_zero, List.set_cons_succ]
          refine wpAnyH_take (i := 29) (oi := { dst := some 83, op := Op.move (Operand.tmp 11), type := 42, pos := "outright.go:98", after := #[{ on := 28, ground := Ground.guard }], guard := some (28, false) }) (v := ?_) rfl (by as_aux_lemma => kernel_rfl) (by as_aux_lemma => kernel_rfl) (by as_aux_lemma => kernel_rfl) (fun _ _ _ h => h) (Or.inl ⟨by rfl, ?_⟩) hHeld ?_
          rotate_left
          · intro w hSw
            clear hSw
            go_simp
            try with_reducible rfl
          try simp only [Act.put, List.setIfInBounds_toArray, List.set_cons_zero, List.set_cons_succ]
          refine wpAnyH_take (i := 30) (oi := { dst := some 84, op := Op.move (Operand.tmp 9), type := 39, pos := "outright.go:98", after := #[{ on := 28, ground := Ground.guard }], guard := some (28, false) }) (v := ?_) rfl (by as_aux_lemma => kernel_rfl) (by as_aux_lemma => kernel_rfl) (by as_aux_lemma => kernel_rfl) (fun _ _ _ h => h) (Or.inl ⟨by rfl, ?_⟩) hHeld ?_
          rotate_left
          · intro w hSw
            clear hSw
            go_simp
            try with_reducible rfl
          try simp only [Act.put, List.setIfInBounds_toArray, List.set_cons_zero, List.set_cons_succ]
          refine wpAnyH_take (i := 31) (oi := { dst := some 85, op := Op.move (Operand.tmp 12), type := 3, pos := "outright.go:98", after := #[{ on := 28, ground := Ground.guard }], guard := some (28, false) }) (v := ?_) rfl (by as_aux_lemma => kernel_rfl) (by as_aux_lemma => kernel_rfl) (by as_aux_lemma => kernel_rfl) (fun _ _ _ h => h) (Or.inl ⟨by rfl, ?_⟩) hHeld ?_
          rotate_left
          · intro w hSw
            clear hSw
            go_simp
            try with_reducible rfl
          try simp only [Act.put, List.setIfInBounds_toArray, List.set_cons_zero, List.set_cons_succ]
          refine wpAnyH_take (i := 32) (oi := { dst := some 86, op := Op.indexAddr 39 (Operand.tmp 84) (Operand.tmp 85), type := 0, pos := "outright.go:98", after := #[{ on := 30, ground := Ground.data }, { on := 31, ground := Ground.data }, { on := 28, ground := Ground.guard }], guard := some (28, false) }) (v := ?_) rfl (by as_aux_lemma => kernel_rfl) (by as_aux_lemma => kernel_rfl) (by as_aux_lemma => kernel_rfl) (fun _ _ _ h => h) (Or.inl ⟨by rfl, ?_⟩) hHeld ?_
          rotate_left
          · intro w hSw
            clear hSw
            go_simp
            try with_reducible rfl
          try simp only [Act.put, List.setIfInBounds_toArray, List.set_cons_zero, List.set_cons_succ]
          refine wpAnyH_take (i := 33) (oi := { dst := some 87, op := Op.load 3 (Operand.tmp 86), type := 3, pos := "outright.go:98", after := #[{ on := 32, ground := Ground.data }, { on := 28, ground := Ground.guard }], guard := some (28, false) }) (v := ?_) rfl (by as_aux_lemma => kernel_rfl) (by as_aux_lemma => kernel_rfl) (by as_aux_lemma => kernel_rfl) (fun _ _ _ h => h) (Or.inl ⟨by rfl, ?_⟩) hHeld ?_
          rotate_left
          · intro w hSw
            have e1 := (hSw.cell (p := ⟨ga, k, none⟩) hga9).trans la1
            have e2 := (hSw.cell (p := ⟨gb, k, none⟩) hgb9).trans lb1
            have e3 := (hSw.cell (p := ⟨w6.heap.size, x, none⟩) hsl).trans ls1
            have e4 := (hSw.cell (p := ⟨b1, off1 + x * 29 + 4, none⟩) hbl1).trans i1
            have e5 := (hSw.cell (p := ⟨b2, off2 + y * 29 + 4, none⟩) hbl2).trans i2
            clear hSw
            go_simp
            try with_reducible rfl
          try simp only [Act.put, List.setIfInBounds_toArray, List.set_cons_zero, List.set_cons_succ]
          refine wpAnyH_take (i := 34) (oi := { dst := some 88, op := Op.indexAddr 42 (Operand.tmp 83) (Operand.tmp 87), type := 0, pos := "outright.go:98", after := #[{ on := 29, ground := Ground.data }, { on := 33, ground := Ground.data }, { on := 28, ground := Ground.guard }], guard := some (28, false) }) (v := ?_) rfl (by as_aux_lemma => kernel_rfl) (by as_aux_lemma => kernel_rfl) (by as_aux_lemma => kernel_rfl) (fun _ _ _ h => h) (Or.inl ⟨by rfl, ?_⟩) hHeld ?_
          rotate_left
          · intro w hSw
            clear hSw
            go_simp
            try with_reducible rfl
          try simp only [Act.put, List.setIfInBounds_toArray, List.set_cons_zero, List.set_cons_succ]
          refine wpAnyH_take (i := 35) (oi := { dst := some 89, op := Op.load 4 (Operand.tmp 88), type := 4, pos := "outright.go:98", after := #[{ on := 34, ground := Ground.data }, { on := 28, ground := Ground.guard }], guard := some (28, false) }) (v := ?_) rfl (by as_aux_lemma => kernel_rfl) (by as_aux_lemma => kernel_rfl) (by as_aux_lemma => kernel_rfl) (fun _ _ _ h => h) (Or.inl ⟨by rfl, ?_⟩) hHeld ?_
          rotate_left
          · intro w hSw
            have e1 := (hSw.cell (p := ⟨ga, k, none⟩) hga9).trans la1
            have e2 := (hSw.cell (p := ⟨gb, k, none⟩) hgb9).trans lb1
            have e3 := (hSw.cell (p := ⟨w6.heap.size, x, none⟩) hsl).trans ls1
            have e4 := (hSw.cell (p := ⟨b1, off1 + x * 29 + 4, none⟩) hbl1).trans i1
            have e5 := (hSw.cell (p := ⟨b2, off2 + y * 29 + 4, none⟩) hbl2).trans i2
            clear hSw
            go_simp
            try with_reducible rfl
          try simp only [Act.put, List.setIfInBounds_toArray, List.set_cons_zero, List.set_cons_succ]
          refine wpAnyH_take (i := 36) (oi := { dst := some 90, op := Op.pick (Operand.tmp 82) (Operand.const (Value.bool true)) (Operand.tmp 89), type := 4, pos := "outright.go:98", after := #[{ on := 28, ground := Ground.data }, { on := 35, ground := Ground.data }], guard := none }) (v := ?_) rfl (by as_aux_lemma => kernel_rfl) (by as_aux_lemma => kernel_rfl) (by as_aux_lemma => kernel_rfl) (fun _ _ _ h => h) (Or.inl ⟨by rfl, ?_⟩) hHeld ?_
          rotate_left
          · intro w hSw
            clear hSw
            go_simp
            try with_reducible rfl
          try simp only [Act.put, List.setIfInBounds_toArray, List.set_cons_zero, List.set_cons_succ]
          refine wpAnyH_take (i := 37) (oi := { dst := some 91, op := Op.move (Operand.tmp 90), type := 4, pos := "outright.go:98", after := #[{ on := 36, ground := Ground.data }, { on := 28, ground := Ground.chain }], guard := none }) (v := ?_) rfl (by as_aux_lemma => kernel_rfl) (by as_aux_lemma => kernel_rfl) (by as_aux_lemma => kernel_rfl) (fun _ _ _ h => h) (Or.inl ⟨by rfl, ?_⟩) hHeld ?_
          rotate_left
          · intro w hSw
            clear hSw
            go_simp
            try with_reducible rfl
          try simp only [Act.put, List.setIfInBounds_toArray, List.set_cons_zero, List.set_cons_succ]
          refine wpAnyH_take (i := 38) (oi := { dst := some 92, op := Op.move (Operand.tmp 5), type := 23, pos := "outright.go:98", after := #[{ on := 37, ground := Ground.guard }], guard := some (37, false) }) (v := ?_) rfl (by as_aux_lemma => kernel_rfl) (by as_aux_lemma => kernel_rfl) (by as_aux_lemma => kernel_rfl) (fun _ _ _ h => h) (Or.inl ⟨by rfl, ?_⟩) hHeld ?_
          rotate_left
          · intro w hSw
            clear hSw
            go_simp
            try with_reducible rfl
          try simp only [Act.put, List.setIfInBounds_toArray, List.set_cons_zero, List.set_cons_succ]
          refine wpAnyH_take (i := 39) (oi := { dst := some 93, op := Op.move (Operand.tmp 9), type := 39, pos := "outright.go:98", after := #[{ on := 37, ground := Ground.guard }], guard := some (37, false) }) (v := ?_) rfl (by as_aux_lemma => kernel_rfl) (by as_aux_lemma => kernel_rfl) (by as_aux_lemma => kernel_rfl) (fun _ _ _ h => h) (Or.inl ⟨by rfl, ?_⟩) hHeld ?_
          rotate_left
          · intro w hSw
            clear hSw
            go_simp
            try with_reducible rfl
          try simp only [Act.put, List.setIfInBounds_toArray, List.set_cons_zero, List.set_cons_succ]
          refine wpAnyH_take (i := 40) (oi := { dst := some 94, op := Op.move (Operand.tmp 12), type := 3, pos := "outright.go:98", after := #[{ on := 37, ground := Ground.guard }], guard := some (37, false) }) (v := ?_) rfl (by as_aux_lemma => kernel_rfl) (by as_aux_lemma => kernel_rfl) (by as_aux_lemma => kernel_rfl) (fun _ _ _ h => h) (Or.inl ⟨by rfl, ?_⟩) hHeld ?_
          rotate_left
          · intro w hSw
            clear hSw
            go_simp
            try with_reducible rfl
          try simp only [Act.put, List.setIfInBounds_toArray, List.set_cons_zero, List.set_cons_succ]
          refine wpAnyH_take (i := 41) (oi := { dst := some 95, op := Op.indexAddr 39 (Operand.tmp 93) (Operand.tmp 94), type := 0, pos := "outright.go:98", after := #[{ on := 39, ground := Ground.data }, { on := 40, ground := Ground.data }, { on := 37, ground := Ground.guard }], guard := some (37, false) }) (v := ?_) rfl (by as_aux_lemma => kernel_rfl) (by as_aux_lemma => kernel_rfl) (by as_aux_lemma => kernel_rfl) (fun _ _ _ h => h) (Or.inl ⟨by rfl, ?_⟩) hHeld ?_
          rotate_left
          · intro w hSw
            clear hSw
            go_simp
            try with_reducible rfl
          try simp only [Act.put, List.setIfInBounds_toArray, List.set_cons_zero, List.set_cons_succ]
          refine wpAnyH_take (i := 42) (oi := { dst := some 96, op := Op.load 3 (Operand.tmp 95), type := 3, pos := "outright.go:98", after := #[{ on := 41, ground := Ground.data }, { on := 37, ground := Ground.guard }], guard := some (37, false) }) (v := ?_) rfl (by as_aux_lemma => kernel_rfl) (by as_aux_lemma => kernel_rfl) (by as_aux_lemma => kernel_rfl) (fun _ _ _ h => h) (Or.inl ⟨by rfl, ?_⟩) hHeld ?_
          rotate_left
          · intro w hSw
            have e1 := (hSw.cell (p := ⟨ga, k, none⟩) hga9).trans la1
            have e2 := (hSw.cell (p := ⟨gb, k, none⟩) hgb9).trans lb1
            have e3 := (hSw.cell (p := ⟨w6.heap.size, x, none⟩) hsl).trans ls1
            have e4 := (hSw.cell (p := ⟨b1, off1 + x * 29 + 4, none⟩) hbl1).trans i1
            have e5 := (hSw.cell (p := ⟨b2, off2 + y * 29 + 4, none⟩) hbl2).trans i2
            clear hSw
            go_simp
            try with_reducible rfl
          try simp only [Act.put, List.setIfInBounds_toArray, List.set_cons_zero, List.set_cons_succ]
          refine wpAnyH_take (i := 43) (oi := { dst := some 97, op := Op.indexAddr 23 (Operand.tmp 92) (Operand.tmp 96), type := 0, pos := "outright.go:98", after := #[{ on := 38, ground := Ground.data }, { on := 42, ground := Ground.data }, { on := 37, ground := Ground.guard }], guard := some (37, false) }) (v := ?_) rfl (by as_aux_lemma => kernel_rfl) (by as_aux_lemma => kernel_rfl) (by as_aux_lemma => kernel_rfl) (fun _ _ _ h => h) (Or.inl ⟨by rfl, ?_⟩) hHeld ?_
          rotate_left
          · intro w hSw
            clear hSw
            go_simp
            try with_reducible rfl
          try simp only [Act.put, List.setIfInBounds_toArray, List.set_cons_zero, List.set_cons_succ]
          refine wpAnyH_take (i := 44) (oi := { dst := some 98, op := Op.load 38 (Operand.tmp 97), type := 38, pos := "outright.go:98", after := #[{ on := 43, ground := Ground.data }, { on := 37, ground := Ground.guard }], guard := some (37, false) }) (v := p.v) rfl (by as_aux_lemma => kernel_rfl) (by as_aux_lemma => kernel_rfl) (by as_aux_lemma => kernel_rfl) (fun _ _ _ h => h) (yields_prange (by rfl) _ rfl b1 (off1 + x * 29) (by rfl) p (fun w h => rangeAt_below HR1.out h hbl1)) hHeld ?_
          try simp only [Act.put, List.setIfInBounds_toArray, List.set_cons_zero, List.set_cons_succ]
          refine wpAnyH_ready (rs := [45]) (by as_aux_lemma => kernel_rfl) (by simp) ?_
          refine AllReadyH.cons (o := { dst := some 99, op := Op.call { callee := Callee.value (Operand.func 11), args := #[Operand.tmp 98], argTypes := #[38] }, type := 4, pos := "outright.go:98", after := #[{ on := 44, ground := Ground.data }, { on := 37, ground := Ground.chain }, { on := 37, ground := Ground.guard }], guard := some (37, false) }) rfl (fun K hK => ?_) AllReadyH.nil
          go_simp
          refine (HTK.out p _).mono ?_
          rintro e w9 ⟨rfl, hb9⟩
          rw [HTP.out]
          go_wp2_with fail
          refine hK.out _ _ (hHeld.trans (hb9.mono (by simp))) (fun hHeld => ?_)
          clear hK K
          try simp only [Act.put, List.setIfInBounds_toArray, List.set_cons_zero, List.set_cons_succ]
          refine wpAnyH_take (i := 46) (oi := { dst := some 100, op := Op.unOp UnOp.not 4 (Operand.tmp 99), type := 4, pos := "outright.go:98", after := #[{ on := 45, ground := Ground.data }, { on := 37, ground := Ground.guard }], guard := some (37, false) }) (v := .bool false) rfl (by as_aux_lemma => kernel_rfl) (by as_aux_lemma => kernel_rfl) (by as_aux_lemma => kernel_rfl) (fun _ _ _ h => h) (Or.inl ⟨by rfl, ?_⟩) hHeld ?_
          · intro w hSw
            clear hSw
            go_simp
            all_goals first | rfl | simp | omega
          try simp only [Act.put, List.setIfInBounds_toArray, List.set_cons_zero, List.set_cons_succ]
          refine wpAnyH_take (i := 47) (oi := { dst := some 101, op := Op.pick (Operand.tmp 91) (Operand.const (Value.bool true)) (Operand.tmp 100), type := 4, pos := "outright.go:98", after := #[{ on := 37, ground := Ground.data }, { on := 46, ground := Ground.data }], guard := none }) (v := ?_) rfl (by as_aux_lemma => kernel_rfl) (by as_aux_lemma => kernel_rfl) (by as_aux_lemma => kernel_rfl) (fun _ _ _ h => h) (Or.inl ⟨by rfl, ?_⟩) hHeld ?_
          rotate_left
          · intro w hSw
            clear hSw
            go_simp
            try with_reducible rfl
          try simp only [Act.put, List.setIfInBounds_toArray, List.set_cons_zero, List.set_cons_succ]
          refine wpAnyH_take (i := 48) (oi := { dst := some 102, op := Op.move (Operand.tmp 101), type := 4, pos := "outright.go:98", after := #[{ on := 47, ground := Ground.data }, { on := 45, ground := Ground.chain }], guard := none }) (v := ?_) rfl (by as_aux_lemma => kernel_rfl) (by as_aux_lemma => kernel_rfl) (by as_aux_lemma => kernel_rfl) (fun _ _ _ h => h) (Or.inl ⟨by rfl, ?_⟩) hHeld ?_
          rotate_left
          · intro w hSw
            clear hSw
            go_simp
            try with_reducible rfl
          try simp only [Act.put, List.setIfInBounds_toArray, List.set_cons_zero, List.set_cons_succ]
          refine wpAnyH_take (i := 49) (oi := { dst := some 103, op := Op.move (Operand.tmp 5), type := 23, pos := "outright.go:98", after := #[{ on := 48, ground := Ground.guard }], guard := some (48, false) }) (v := ?_) rfl (by as_aux_lemma => kernel_rfl) (by as_aux_lemma => kernel_rfl) (by as_aux_lemma => kernel_rfl) (fun _ _ _ h => h) (Or.inl ⟨by rfl, ?_⟩) hHeld ?_
          rotate_left
          · intro w hSw
            clear hSw
            go_simp
            try with_reducible rfl
          try simp only [Act.put, List.setIfInBounds_toArray, List.set_cons_zero, List.set_cons_succ]
          refine wpAnyH_take (i := 50) (oi := { dst := some 104, op := Op.move (Operand.tmp 9), type := 39, pos := "outright.go:98", after := #[{ on := 48, ground := Ground.guard }], guard := some (48, false) }) (v := ?_) rfl (by as_aux_lemma => kernel_rfl) (by as_aux_lemma => kernel_rfl) (by as_aux_lemma => kernel_rfl) (fun _ _ _ h => h) (Or.inl ⟨by rfl, ?_⟩) hHeld ?_
          rotate_left
          · intro w hSw
            clear hSw
            go_simp
            try with_reducible rfl
          try simp only [Act.put, List.setIfInBounds_toArray, List.set_cons_zero, List.set_cons_succ]
          refine wpAnyH_take (i := 51) (oi := { dst := some 105, op := Op.move (Operand.tmp 12), type := 3, pos := "outright.go:98", after := #[{ on := 48, ground := Ground.guard }], guard := some (48, false) }) (v := ?_) rfl (by as_aux_lemma => kernel_rfl) (by as_aux_lemma => kernel_rfl) (by as_aux_lemma => kernel_rfl) (fun _ _ _ h => h) (Or.inl ⟨by rfl, ?_⟩) hHeld ?_
          rotate_left
          · intro w hSw
            clear hSw
            go_simp
            try with_reducible rfl
          try simp only [Act.put, List.setIfInBounds_toArray, List.set_cons_zero, List.set_cons_succ]
          refine wpAnyH_take (i := 52) (oi := { dst := some 106, op := Op.indexAddr 39 (Operand.tmp 104) (Operand.tmp 105), type := 0, pos := "outright.go:98", after := #[{ on := 50, ground := Ground.data }, { on := 51, ground := Ground.data }, { on := 48, ground := Ground.guard }], guard := some (48, false) }) (v := ?_) rfl (by as_aux_lemma => kernel_rfl) (by as_aux_lemma => kernel_rfl) (by as_aux_lemma => kernel_rfl) (fun _ _ _ h => h) (Or.inl ⟨by rfl, ?_⟩) hHeld ?_
          rotate_left
          · intro w hSw
            clear hSw
            go_simp
            try with_reducible rfl
          try simp only [Act.put, List.setIfInBounds_toArray, List.set_cons_zero, List.set_cons_succ]
          refine wpAnyH_take (i := 53) (oi := { dst := some 107, op := Op.load 3 (Operand.tmp 106), type := 3, pos := "outright.go:98", after := #[{ on := 52, ground := Ground.data }, { on := 48, ground := Ground.guard }], guard := some (48, false) }) (v := ?_) rfl (by as_aux_lemma => kernel_rfl) (by as_aux_lemma => kernel_rfl) (by as_aux_lemma => kernel_rfl) (fun _ _ _ h => h) (Or.inl ⟨by rfl, ?_⟩) hHeld ?_
          rotate_left
          · intro w hSw
            have e1 := (hSw.cell (p := ⟨ga, k, none⟩) hga9).trans la1
            have e2 := (hSw.cell (p := ⟨gb, k, none⟩) hgb9).trans lb1
            have e3 := (hSw.cell (p := ⟨w6.heap.size, x, none⟩) hsl).trans ls1
            have e4 := (hSw.cell (p := ⟨b1, off1 + x * 29 + 4, none⟩) hbl1).trans i1
            have e5 := (hSw.cell (p := ⟨b2, off2 + y * 29 + 4, none⟩) hbl2).trans i2
            clear hSw
            go_simp
            try with_reducible rfl
          try simp only [Act.put, List.setIfInBounds_toArray, List.set_cons_zero, List.set_cons_succ]
          refine wpAnyH_take (i := 54) (oi := { dst := some 108, op := Op.indexAddr 23 (Operand.tmp 103) (Operand.tmp 107), type := 0, pos := "outright.go:98", after := #[{ on := 49, ground := Ground.data }, { on := 53, ground := Ground.data }, { on := 48, ground := Ground.guard }], guard := some (48, false) }) (v := ?_) rfl (by as_aux_lemma => kernel_rfl) (by as_aux_lemma => kernel_rfl) (by as_aux_lemma => kernel_rfl) (fun _ _ _ h => h) (Or.inl ⟨by rfl, ?_⟩) hHeld ?_
          rotate_left
          · intro w hSw
            clear hSw
            go_simp
            try with_reducible rfl
          try simp only [Act.put, List.setIfInBounds_toArray, List.set_cons_zero, List.set_cons_succ]
          refine wpAnyH_take (i := 55) (oi := { dst := some 109, op := Op.fieldAddr 38 (Operand.tmp 108) 1, type := 0, pos := "outright.go:98", after := #[{ on := 54, ground := Ground.data }, { on := 48, ground := Ground.guard }], guard := some (48, false) }) (v := ?_) rfl (by as_aux_lemma => kernel_rfl) (by as_aux_lemma => kernel_rfl) (by as_aux_lemma => kernel_rfl) (fun _ _ _ h => h) (Or.inl ⟨by rfl, ?_⟩) hHeld ?_
          rotate_left
          · intro w hSw
            clear hSw
            go_simp
            try with_reducible rfl
          try simp only [Act.put, List.setIfInBounds_toArray, List.set_cons_zero, List.set_cons_succ]
          refine wpAnyH_take (i := 56) (oi := { dst := some 110, op := Op.load 28 (Operand.tmp 109), type := 28, pos := "outright.go:98", after := #[{ on := 55, ground := Ground.data }, { on := 48, ground := Ground.guard }], guard := some (48, false) }) (v := ?_) rfl (by as_aux_lemma => kernel_rfl) (by as_aux_lemma => kernel_rfl) (by as_aux_lemma => kernel_rfl) (fun _ _ _ h => h) (Or.inl ⟨by rfl, ?_⟩) hHeld ?_
          rotate_left
          · intro w hSw
            have e1 := (hSw.cell (p := ⟨ga, k, none⟩) hga9).trans la1
            have e2 := (hSw.cell (p := ⟨gb, k, none⟩) hgb9).trans lb1
            have e3 := (hSw.cell (p := ⟨w6.heap.size, x, none⟩) hsl).trans ls1
            have e4 := (hSw.cell (p := ⟨b1, off1 + x * 29 + 4, none⟩) hbl1).trans i1
            have e5 := (hSw.cell (p := ⟨b2, off2 + y * 29 + 4, none⟩) hbl2).trans i2
            clear hSw
            go_simp
            try with_reducible rfl
          try simp only [Act.put, List.setIfInBounds_toArray, List.set_cons_zero, List.set_cons_succ]
          refine wpAnyH_take (i := 57) (oi := { dst := some 111, op := Op.move (Operand.tmp 7), type := 23, pos := "outright.go:98", after := #[{ on := 48, ground := Ground.guard }], guard := some (48, false) }) (v := ?_) rfl (by as_aux_lemma => kernel_rfl) (by as_aux_lemma => kernel_rfl) (by as_aux_lemma => kernel_rfl) (fun _ _ _ h => h) (Or.inl ⟨by rfl, ?_⟩) hHeld ?_
          rotate_left
          · intro w hSw
            clear hSw
            go_simp
            try with_reducible rfl
          try simp only [Act.put, List.setIfInBounds_toArray, List.set_cons_zero, List.set_cons_succ]
          refine wpAnyH_take (i := 58) (oi := { dst := some 112, op := Op.move (Operand.tmp 10), type := 39, pos := "outright.go:98", after := #[{ on := 48, ground := Ground.guard }], guard := some (48, false) }) (v := ?_) rfl (by as_aux_lemma => kernel_rfl) (by as_aux_lemma => kernel_rfl) (by as_aux_lemma => kernel_rfl) (fun _ _ _ h => h) (Or.inl ⟨by rfl, ?_⟩) hHeld ?_
          rotate_left
          · intro w hSw
            clear hSw
            go_simp
            try with_reducible rfl
          try simp only [Act.put, List.setIfInBounds_toArray, List.set_cons_zero, List.set_cons_succ]
          refine wpAnyH_take (i := 59) (oi := { dst := some 113, op := Op.move (Operand.tmp 12), type := 3, pos := "outright.go:98", after := #[{ on := 48, ground := Ground.guard }], guard := some (48, false) }) (v := ?_) rfl (by as_aux_lemma => kernel_rfl) (by as_aux_lemma => kernel_rfl) (by as_aux_lemma => kernel_rfl) (fun _ _ _ h => h) (Or.inl ⟨by rfl, ?_⟩) hHeld ?_
          rotate_left
          · intro w hSw
            clear hSw
            go_simp
            try with_reducible rfl
          try simp only [Act.put, List.setIfInBounds_toArray, List.set_cons_zero, List.set_cons_succ]
          refine wpAnyH_take (i := 60) (oi := { dst := some 114, op := Op.indexAddr 39 (Operand.tmp 112) (Operand.tmp 113), type := 0, pos := "outright.go:98", after := #[{ on := 58, ground := Ground.data }, { on := 59, ground := Ground.data }, { on := 48, ground := Ground.guard }], guard := some (48, false) }) (v := ?_) rfl (by as_aux_lemma => kernel_rfl) (by as_aux_lemma => kernel_rfl) (by as_aux_lemma => kernel_rfl) (fun _ _ _ h => h) (Or.inl ⟨by rfl, ?_⟩) hHeld ?_
          rotate_left
          · intro w hSw
            clear hSw
            go_simp
            try with_reducible rfl
          try simp only [Act.put, List.setIfInBounds_toArray, List.set_cons_zero, List.set_cons_succ]
          refine wpAnyH_take (i := 61) (oi := { dst := some 115, op := Op.load 3 (Operand.tmp 114), type := 3, pos := "outright.go:98", after := #[{ on := 60, ground := Ground.data }, { on := 48, ground := Ground.guard }], guard := some (48, false) }) (v := ?_) rfl (by as_aux_lemma => kernel_rfl) (by as_aux_lemma => kernel_rfl) (by as_aux_lemma => kernel_rfl) (fun _ _ _ h => h) (Or.inl ⟨by rfl, ?_⟩) hHeld ?_
          rotate_left
          · intro w hSw
            have e1 := (hSw.cell (p := ⟨ga, k, none⟩) hga9).trans la1
            have e2 := (hSw.cell (p := ⟨gb, k, none⟩) hgb9).trans lb1
            have e3 := (hSw.cell (p := ⟨w6.heap.size, x, none⟩) hsl).trans ls1
            have e4 := (hSw.cell (p := ⟨b1, off1 + x * 29 + 4, none⟩) hbl1).trans i1
            have e5 := (hSw.cell (p := ⟨b2, off2 + y * 29 + 4, none⟩) hbl2).trans i2
            clear hSw
            go_simp
            try with_reducible rfl
          try simp only [Act.put, List.setIfInBounds_toArray, List.set_cons_zero, List.set_cons_succ]
          refine wpAnyH_take (i := 62) (oi := { dst := some 116, op := Op.indexAddr 23 (Operand.tmp 111) (Operand.tmp 115), type := 0, pos := "outright.go:98", after := #[{ on := 57, ground := Ground.data }, { on := 61, ground := Ground.data }, { on := 48, ground := Ground.guard }], guard := some (48, false) }) (v := ?_) rfl (by as_aux_lemma => kernel_rfl) (by as_aux_lemma => kernel_rfl) (by as_aux_lemma => kernel_rfl) (fun _ _ _ h => h) (Or.inl ⟨by rfl, ?_⟩) hHeld ?_
          rotate_left
          · intro w hSw
            clear hSw
            go_simp
            try with_reducible rfl
          try simp only [Act.put, List.setIfInBounds_toArray, List.set_cons_zero, List.set_cons_succ]
          refine wpAnyH_take (i := 63) (oi := { dst := some 117, op := Op.fieldAddr 38 (Operand.tmp 116) 1, type := 0, pos := "outright.go:98", after := #[{ on := 62, ground := Ground.data }, { on := 48, ground := Ground.guard }], guard := some (48, false) }) (v := ?_) rfl (by as_aux_lemma => kernel_rfl) (by as_aux_lemma => kernel_rfl) (by as_aux_lemma => kernel_rfl) (fun _ _ _ h => h) (Or.inl ⟨by rfl, ?_⟩) hHeld ?_
          rotate_left
          · intro w hSw
            clear hSw
            go_simp
            try with_reducible rfl
          try simp only [Act.put, List.setIfInBounds_toArray, List.set_cons_zero, List.set_cons_succ]
          refine wpAnyH_take (i := 64) (oi := { dst := some 118, op := Op.load 28 (Operand.tmp 117), type := 28, pos := "outright.go:98", after := #[{ on := 63, ground := Ground.data }, { on := 48, ground := Ground.guard }], guard := some (48, false) }) (v := ?_) rfl (by as_aux_lemma => kernel_rfl) (by as_aux_lemma => kernel_rfl) (by as_aux_lemma => kernel_rfl) (fun _ _ _ h => h) (Or.inl ⟨by rfl, ?_⟩) hHeld ?_
          rotate_left
          · intro w hSw
            have e1 := (hSw.cell (p := ⟨ga, k, none⟩) hga9).trans la1
            have e2 := (hSw.cell (p := ⟨gb, k, none⟩) hgb9).trans lb1
            have e3 := (hSw.cell (p := ⟨w6.heap.size, x, none⟩) hsl).trans ls1
            have e4 := (hSw.cell (p := ⟨b1, off1 + x * 29 + 4, none⟩) hbl1).trans i1
            have e5 := (hSw.cell (p := ⟨b2, off2 + y * 29 + 4, none⟩) hbl2).trans i2
            clear hSw
            go_simp
            try with_reducible rfl
          try simp only [Act.put, List.setIfInBounds_toArray, List.set_cons_zero, List.set_cons_succ]
          refine wpAnyH_take (i := 65) (oi := { dst := some 119, op := Op.binOp BinOp.neq 28 (Operand.tmp 110) (Operand.tmp 118) 28, type := 4, pos := "outright.go:98", after := #[{ on := 56, ground := Ground.data }, { on := 64, ground := Ground.data }, { on := 48, ground := Ground.guard }], guard := some (48, false) }) (v := .bool false) rfl (by as_aux_lemma => kernel_rfl) (by as_aux_lemma => kernel_rfl) (by as_aux_lemma => kernel_rfl) (fun _ _ _ h => h) (Or.inl ⟨by rfl, ?_⟩) hHeld ?_
          · intro w hSw
            clear hSw
            go_simp
            all_goals first | rfl | simp | omega
          try simp only [Act.put, List.setIfInBounds_toArray, List.set_cons_zero, List.set_cons_succ]
          refine wpAnyH_take (i := 66) (oi := { dst := some 120, op := Op.pick (Operand.tmp 102) (Operand.const (Value.bool true)) (Operand.tmp 119), type := 4, pos := "outright.go:98", after := #[{ on := 48, ground := Ground.data }, { on := 65, ground := Ground.data }], guard := none }) (v := ?_) rfl (by as_aux_lemma => kernel_rfl) (by as_aux_lemma => kernel_rfl) (by as_aux_lemma => kernel_rfl) (fun _ _ _ h => h) (Or.inl ⟨by rfl, ?_⟩) hHeld ?_
          rotate_left
          · intro w hSw
            clear hSw
            go_simp
            try with_reducible rfl
          try simp only [Act.put, List.setIfInBounds_toArray, List.set_cons_zero, List.set_cons_succ]
          refine wpAnyH_done (by as_aux_lemma => kernel_rfl) ?_ _
          have HB9 := Lib.hid hHeld
          clear hHeld
          have HS9 : Hid (BoolOwn w9 w6.heap.size (seenL ps.length (la.take k))) := CellsAt.below HS.out HB9.out hsl
          have HBZ : Hid (Below w6.heap.size w6 w9) := HBr.out.trans (HB9.out.mono hs9)
          have e1 := (HB9.out.cell (p := ⟨ga, k, none⟩) hga9).trans la1
          have e3 := (HB9.out.cell (p := ⟨w6.heap.size, x, none⟩) hsl).trans ls1
          have f3 := CellsAt.frozen HS9.out x
          clear la1 lb1 ls1 i1 i2
          as_aux_lemma =>
          go_wp2_with fail
          exact ⟨⟨k + 1, by omega, by go_num, by rw [HTA.out, ← HSET.out]; exact BoolOwn.set HS9.out true, below_setCell HBZ.out (Nat.le_refl _) _⟩, by simp [intOf]; omega⟩
        · obtain rfl : k = la.length := by omega
          rw [List.take_length] at HS
          have HP7 : Hid (PsAt wr A1 c1 ps) := HP6.out.below HBr.out (Nat.le_refl _)
          have HA7 : Hid (NumOwn wr w0.heap.size (.slice Aa la.length ca) la) := HA6.out.below HBr.out (Nat.le_refl _)
          have HBT : Hid (Below w.heap.size w wr) := (HBW.out.trans (HB6.out.mono hsw)).trans (HBr.out.mono (by omega))
          generalize w6.heap.size = sg at HS
          generalize wr = wA at HS HP7 HA7 HBT ⊢
          have hsA := HBT.out.size
          clear HBr HA6 HP6 HT6 HB6 HBO6
          go_wp2_with fail
          go_loopw [13] (fun i wr => ∃ k : Nat, k ≤ ps.length ∧ i = .int .i64 k ∧ Hid (Below wA.heap.size wA wr)) (fun i _ => ps.length + 1 - (intOf i).toNat)
          case atStart => exact ⟨0, by omega, rfl, Below.refl _ _⟩
          case round =>
            obtain ⟨k, hk, rfl, HBr⟩ := hrel
            have hsr := HBr.out.size
            by_cases hlt2 : k < ps.length
            · obtain ⟨p, hp⟩ : ∃ p, ps[k]? = some p := ⟨ps[k], List.getElem?_eq_getElem hlt2⟩
              have HTP : Hid (takenF p = decide (k ∈ la)) := by
                show _ = _
                have h4 := HFACT.out.2.2.2 k p hp
                by_cases hin : k ∈ la
                · rw [decide_eq_true hin]; exact h4.1 hin
                · rw [decide_eq_false hin]
                  unfold takenF
                  cases hc : (costP priceF p).isSome with
                  | false => rfl
                  | true => exact absurd (h4.2 hc) hin
              obtain ⟨b1, off1, rfl, hbl1, hr1⟩ := PsAt.at_ (HP7.out.below HBr.out (Nat.le_refl _)) hp
              have HR1 := Lib.hid hr1
              have hsl : sg < wr.heap.size := Nat.lt_of_lt_of_le HS.out.lt hsr
              have lsk : wr.cell? ⟨sg, k, none⟩ = some (.bool (decide (k ∈ la))) := (HBr.out.cell (p := ⟨sg, k, none⟩) HS.out.lt).trans (BoolOwn.c HS.out (seenL_at la hlt2))
              have hpc := HP7.out.len
              clear hr1 hp
              go_wp2_with fail
              refine wp_region_held_drew (S := fun w' => Below wr.heap.size wr w') (by kernel_rfl) (below_drewN (Below.refl _ _) 1) (fun hHeld => ?_)
              refine wpAnyH_take (i := 0) (oi := { dst := some 132, op := Op.move (Operand.tmp 11), type := 42, pos := "outright.go:104", after := #[], guard := none }) (v := ?_) rfl (by kernel_rfl) (by kernel_rfl) (by kernel_rfl) (fun _ _ _ h => h) (Or.inl ⟨by rfl, ?_⟩) hHeld ?_
              rotate_left
              · intro w hSw
                clear hSw
                go_simp
                try with_reducible rfl
              try simp only [Act.put, List.setIfInBounds_toArray, List.set_cons_zero, List.set_cons_succ]
              refine wpAnyH_take (i := 1) (oi := { dst := some 133, op := Op.move (Operand.tmp 13), type := 3, pos := "outright.go:104", after := #[], guard := none }) (v := ?_) rfl (by kernel_rfl) (by kernel_rfl) (by kernel_rfl) (fun _ _ _ h => h) (Or.inl ⟨by rfl, ?_⟩) hHeld ?_
              rotate_left
              · intro w hSw
                clear hSw
                go_simp
                try with_reducible rfl
              try simp only [Act.put, List.setIfInBounds_toArray, List.set_cons_zero, List.set_cons_succ]
              refine wpAnyH_take (i := 2) (oi := { dst := some 134, op := Op.indexAddr 42 (Operand.tmp 132) (Operand.tmp 133), type := 0, pos := "outright.go:104", after := #[{ on := 0, ground := Ground.data }, { on := 1, ground := Ground.data }], guard := none }) (v := ?_) rfl (by kernel_rfl) (by kernel_rfl) (by kernel_rfl) (fun _ _ _ h => h) (Or.inl ⟨by rfl, ?_⟩) hHeld ?_
              rotate_left
              · intro w hSw
                clear hSw
                go_simp
                try with_reducible rfl
              try simp only [Act.put, List.setIfInBounds_toArray, List.set_cons_zero, List.set_cons_succ]
              refine wpAnyH_take (i := 4) (oi := { dst := some 136, op := Op.move (Operand.tmp 5), type := 23, pos := "outright.go:104", after := #[], guard := none }) (v := ?_) rfl (by kernel_rfl) (by kernel_rfl) (by kernel_rfl) (fun _ _ _ h => h) (Or.inl ⟨by rfl, ?_⟩) hHeld ?_
              rotate_left
              · intro w hSw
                clear hSw
                go_simp
                try with_reducible rfl
              try simp only [Act.put, List.setIfInBounds_toArray, List.set_cons_zero, List.set_cons_succ]
              refine wpAnyH_take (i := 5) (oi := { dst := some 137, op := Op.move (Operand.tmp 13), type := 3, pos := "outright.go:104", after := #[], guard := none }) (v := ?_) rfl (by kernel_rfl) (by kernel_rfl) (by kernel_rfl) (fun _ _ _ h => h) (Or.inl ⟨by rfl, ?_⟩) hHeld ?_
              rotate_left
              · intro w hSw
                clear hSw
                go_simp
                try with_reducible rfl
              try simp only [Act.put, List.setIfInBounds_toArray, List.set_cons_zero, List.set_cons_succ]
              refine wpAnyH_take (i := 6) (oi := { dst := some 138, op := Op.indexAddr 23 (Operand.tmp 136) (Operand.tmp 137), type := 0, pos := "outright.go:104", after := #[{ on := 4, ground := Ground.data }, { on := 5, ground := Ground.data }], guard := none }) (v := ?_) rfl (by kernel_rfl) (by kernel_rfl) (by kernel_rfl) (fun _ _ _ h => h) (Or.inl ⟨by rfl, ?_⟩) hHeld ?_
              rotate_left
              · intro w hSw
                clear hSw
                go_simp
                try with_reducible rfl
              try simp only [Act.put, List.setIfInBounds_toArray, List.set_cons_zero, List.set_cons_succ]
              refine wpAnyH_take (i := 3) (oi := { dst := some 135, op := Op.load 4 (Operand.tmp 134), type := 4, pos := "outright.go:104", after := #[{ on := 2, ground := Ground.data }], guard := none }) (v := .bool (decide (k ∈ la))) rfl (by kernel_rfl) (by kernel_rfl) (by kernel_rfl) (fun _ _ _ h => h) (Or.inl ⟨by rfl, fun w hSw => by have hl := (hSw.cell (p := ⟨sg, k, none⟩) hsl).trans lsk; clear hSw; go_simp⟩) hHeld ?_
              try simp only [Act.put, List.setIfInBounds_toArray, List.set_cons_zero, List.set_cons_succ]
              refine wpAnyH_take (i := 7) (oi := { dst := some 139, op := Op.load 38 (Operand.tmp 138), type := 38, pos := "outright.go:104", after := #[{ on := 6, ground := Ground.data }], guard := none }) (v := p.v) rfl (by kernel_rfl) (by kernel_rfl) (by kernel_rfl) (fun _ _ _ h => h) (yields_prange (by rfl) _ rfl b1 (off1 + k * 29) (by rfl) p (fun w h => rangeAt_below HR1.out h hbl1)) hHeld ?_
              try simp only [Act.put, List.setIfInBounds_toArray, List.set_cons_zero, List.set_cons_succ]
              refine wpAnyH_ready (rs := [8]) (by kernel_rfl) (by simp) ?_
              refine AllReadyH.cons (o := { dst := some 140, op := Op.call { callee := Callee.value (Operand.func 11), args := #[Operand.tmp 139], argTypes := #[38] }, type := 4, pos := "outright.go:104", after := #[{ on := 7, ground := Ground.data }], guard := none }) rfl (fun K hK => ?_) AllReadyH.nil
              go_simp
              refine (HTK.out p _).mono ?_
              rintro e w9 ⟨rfl, hb9⟩
              rw [HTP.out]
              go_wp2_with fail
              refine hK.out _ _ (hHeld.trans (hb9.mono (by simp))) (fun hHeld => ?_)
              clear hK K
              try simp only [Act.put, List.setIfInBounds_toArray, List.set_cons_zero, List.set_cons_succ]
              refine wpAnyH_take (i := 9) (oi := { dst := some 141, op := Op.binOp BinOp.neq 4 (Operand.tmp 135) (Operand.tmp 140) 4, type := 4, pos := "outright.go:104", after := #[{ on := 3, ground := Ground.data }, { on := 8, ground := Ground.data }], guard := none }) (v := .bool false) rfl (by kernel_rfl) (by kernel_rfl) (by kernel_rfl) (fun _ _ _ h => h) (Or.inl ⟨by rfl, ?_⟩) hHeld ?_
              · intro w hSw
                clear hSw
                go_simp
                all_goals first | rfl | simp
              try simp only [Act.put, List.setIfInBounds_toArray, List.set_cons_zero, List.set_cons_succ]
              refine wpAnyH_done (by kernel_rfl) ?_ _
              have HB9 := Lib.hid hHeld
              clear hHeld
              go_wp2_with fail
              exact ⟨⟨k + 1, by omega, by go_num, HBr.out.trans (HB9.out.mono hsr)⟩, by simp [intOf]; omega⟩
            · obtain rfl : k = ps.length := by omega
              have HP8 : Hid (PsAt wr A1 c1 ps) := HP7.out.below HBr.out (Nat.le_refl _)
              have HA8 : Hid (NumOwn wr w0.heap.size (.slice Aa la.length ca) la) := HA7.out.below HBr.out (Nat.le_refl _)
              have HBU : Hid (Below w.heap.size w wr) := HBT.out.trans (HBr.out.mono hsA)
              clear HP7 HA7 HBT HBr HS
              go_wp2_with fail
              refine (HBE.out A1 c1 ps (.func (.func 10) #[] #[]) (costP priceF) wr HP8.out (fits_cost (price_cost wr)) (by omega)).mono ?_
              rintro e w8 ⟨rfl, hb8⟩
              have HA9 : Hid (NumOwn w8 w0.heap.size (.slice Aa la.length ca) la) := HA8.out.below hb8 (Nat.le_refl _)
              have HBX : Hid (Below w.heap.size w w8) := HBU.out.trans (hb8.mono HBU.out.size)
              have HBXS := Lib.hid HBX.out.size
              clear hb8
              cases hbf : bestF (openL (costP priceF) 0 ps) with
              | none =>
                rw [hbf] at HBF
                have hl0 : la.length = 0 := by
                  have h0 : none = la[0]? := HBF.out
                  exact Nat.le_zero.1 (List.getElem?_eq_none_iff.1 h0.symm)
                have e9 : bestV none = .tuple #[.int .i64 0, .bool false] := rfl
                rw [e9]
                clear hbf
                rw [hl0] at *
                go_wp2_with fail
                refine (HWK.out _).mono ?_
                rintro e wz ⟨rfl, hbz⟩
                have HBZ2 := Lib.hid (HBX.out.trans (hbz.mono HBXS.out))
                clear hbz
                go_wp2_with fail
                go_ret
                exact ⟨rfl, HBZ2.out⟩
              | some bst =>
                rw [hbf] at HBF
                have h0 : some bst.at_ = la[0]? := HBF.out
                obtain ⟨hl0, _⟩ := List.getElem?_eq_some_iff.1 h0.symm
                have e9 : bestV (some bst) = .tuple #[.int .i64 bst.at_, .bool true] := rfl
                rw [e9]
                obtain ⟨ga, ca2, hva, hga0, hga, hgc, hgm, hac⟩ := NumOwn.c HA9.out hl0
                simp only [Value.slice.injEq, true_and] at hva
                obtain ⟨rfl, rfl⟩ := hva
                have la1 := hac 0 _ h0.symm
                clear hbf h0 hac
                go_wp2_with fail
                refine (HWK.out _).mono ?_
                rintro e wz ⟨rfl, hbz⟩
                have HBZ2 := Lib.hid (HBX.out.trans (hbz.mono HBXS.out))
                clear hbz
                go_wp2_with fail
                go_ret
                exact ⟨rfl, HBZ2.out⟩
end Go.Proofs.Ytoamigfjpcniaaa
