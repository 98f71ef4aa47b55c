/-
  The best path, all paths in their order: Best, Order, Some, Better walked. Conditions: sizes.
-/
import Derived.Test.YtoamigfjpcniaaaDeM
set_option linter.unusedVariables false
set_option linter.unusedSimpArgs false
namespace Go.Proofs.Ytoamigfjpcniaaa
open Go.RowKit Go.MapKept Go.Shelf
open Go.Lib hiding intOf

/-- a cost function, or none, as open goes through it -/
def OpenFits (w : World) (kv : Value) (f : Pt → Option Int) : Prop := ∀ (w' : World) (A : Option Addr) (cap : Nat) (ps : List Pt), Below w.heap.size w w' → PsAt w' A cap ps → ps.length ≤ 1000000 →
  Calls Try.prog 33 #[.slice A ps.length cap, kv] w' fun e w'' => ∃ v, e = .returned v ∧ EsOwn w'' w'.heap.size v (openL f 0 ps) ∧ Below w'.heap.size w' w''
theorem fits_free (w : World) : OpenFits w .nilFunc freeP := fun w' A cap ps _ h hl => open_free A cap ps w' h hl
theorem fits_cost {w : World} {F : Nat} {C : Array Value} {cf : ByteArray → Option Int} (h : CostOk w F C cf) : OpenFits w (.func (.func F) #[] C) (costP cf) := fun w' A cap ps hb hp hl => open_cost A cap ps F C cf w' hp (h.below hb) hl
theorem OpenFits.below {w w1 : World} {kv : Value} {f : Pt → Option Int} (h : OpenFits w kv f) (hb : Below w.heap.size w w1) : OpenFits w1 kv f := fun w' A cap ps h1 => h w' A cap ps (hb.trans (h1.mono hb.size))

theorem bestF_nil : bestF [] = none := by
  have := (runK_facts [] 12 (Nat.le_refl _)).2.1
  unfold bestF
  rw [List.eq_nil_of_length_eq_zero (Nat.le_zero.1 this)]
  rfl
def bestV (o : Option En) : Value := match o with
  | none => .tuple #[.int .i64 0, .bool false]
  | some e => .tuple #[.int .i64 e.at_, .bool true]
set_option maxHeartbeats 4000000 in
theorem Best_any (A : Option Addr) (cap : Nat) (ps : List Pt) (kv : Value) (f : Pt → Option Int) (w : World) (h : PsAt w A cap ps) (hF : OpenFits w kv f) (hps : ps.length ≤ 1000000) :
    Calls Try.prog 12 #[.slice A ps.length cap, kv] w fun e w' => e = .returned (bestV (bestF (openL f 0 ps))) ∧ Below w.heap.size w w' := by
  have HF := Lib.hid (hF w A cap ps (Below.refl _ _) h hps)
  have HOK := Lib.hid (openL_ok (f := f) h.ok)
  have hol : (openL f 0 ps).length ≤ 1000000 := Nat.le_trans (openL_len f ps 0) hps
  clear h hF
  generalize openL f 0 ps = es at HF HOK hol ⊢
  go_enter Try.func12, Try.ntmps12
  go_wp2_with fail
  refine HF.out.mono ?_
  rintro e w1 ⟨v, rfl, hv, hb⟩
  obtain ⟨A2, c2, rfl, he⟩ := hv.at_ (fun z hz => (HOK.out z hz).below hb (Nat.le_refl _))
  have HE := Lib.hid he
  have HB := Lib.hid hb
  clear hv hb he HF
  cases es with
  | nil =>
    rw [List.length_nil]
    go_wp2_with fail
    go_ret2
    exact ⟨by rw [bestF_nil]; rfl, HB.out⟩
  | cons x es =>
    obtain ⟨y, hy⟩ := bestF_some (xs := x :: es) (by simp)
    have HC := Lib.hid (best_any A2 c2 (x :: es) y w1 HE.out hol hy)
    have HY := Lib.hid hy
    have hlen := HE.out.len
    have hl2 : (x :: es).length = es.length + 1 := rfl
    rw [hl2] at *
    clear hy HE hl2
    have hfld : Hid (∀ W, (Instr.field 79 y.v 1).run Try.prog W = .ok (.int .i64 y.at_) W) := fun W => by kernel_rfl
    go_wp2_with fail
    refine HC.out.mono ?_
    rintro e w2 ⟨rfl, hb2⟩
    have HB2 := Lib.hid (HB.out.trans (hb2.mono HB.out.size))
    have hfo := hfld.out
    clear hb2 HB HC
    go_wp2_with fail
    go_ret2
    exact ⟨by rw [HY.out]; rfl, HB2.out⟩

/-- all of them, the best one first -/
def orderN : Nat → List En → List Nat
  | 0, _ => []
  | n + 1, xs => match bestF xs with
    | none => []
    | some b => b.at_ :: orderN n (xs.filter fun z => z.at_ != b.at_)
theorem drop_best {xs : List En} {b : En} (h : bestF xs = some b) : (xs.filter fun z => z.at_ != b.at_).length < xs.length := by
  refine List.length_filter_lt_length_iff_exists.2 ⟨b, bestF_mem h, by simp⟩
theorem orderN_fuel : ∀ (n m : Nat) (xs : List En), xs.length ≤ n → xs.length ≤ m → orderN n xs = orderN m xs
  | 0, 0, xs, _, _ => rfl
  | 0, m + 1, xs, h, _ => by
    obtain rfl : xs = [] := List.eq_nil_of_length_eq_zero (Nat.le_zero.1 h)
    unfold orderN
    rw [bestF_nil]
  | n + 1, 0, xs, _, h => by
    obtain rfl : xs = [] := List.eq_nil_of_length_eq_zero (Nat.le_zero.1 h)
    unfold orderN
    rw [bestF_nil]
  | n + 1, m + 1, xs, h1, h2 => by
    unfold orderN
    cases hb : bestF xs with
    | none => rfl
    | some b =>
      have := drop_best hb
      show b.at_ :: orderN n _ = b.at_ :: orderN m _
      rw [orderN_fuel n m (xs.filter fun z => z.at_ != b.at_) (by omega) (by omega)]
def orderF (xs : List En) : List Nat := orderN xs.length xs
theorem orderF_nil : orderF [] = [] := rfl
theorem orderF_some {xs : List En} {b : En} (h : bestF xs = some b) : orderF xs = b.at_ :: orderF (xs.filter fun z => z.at_ != b.at_) := by
  have hne : xs ≠ [] := fun e => by rw [e, bestF_nil] at h; cases h
  unfold orderF
  cases xs with
  | nil => exact absurd rfl hne
  | cons x r =>
    show orderN (r.length + 1) (x :: r) = _
    rw [orderN, h]
    have := drop_best h
    rw [List.length_cons] at this
    show b.at_ :: orderN r.length _ = _
    rw [orderN_fuel r.length _ ((x :: r).filter fun z => z.at_ != b.at_) (by omega) (Nat.le_refl _)]

/-- numbers that a call made -/
def numV (ns : List Nat) : List Value := ns.map fun n => .int .i64 (n : Nat)
def NumOwn (w : World) (base : Nat) (v : Value) (ns : List Nat) : Prop := OwnM w base 3 1 v ns.length (numV ns)
theorem infoI : (Try.prog.info? 3).map (fun i => (i.zero, i.size, i.bytes)) = some (some (.int .i64 0), 1, 8) := by kernel_rfl
theorem NumOwn.nil (w : World) (base : Nat) : NumOwn w base (.slice none 0 0) [] := OwnM.nil _ _ _ _
theorem NumOwn.alloc {w : World} {base : Nat} {v : Value} {xs : List Nat} (h : NumOwn w base v xs) (o : Obj) : NumOwn (w.alloc o) base v xs := OwnM.alloc h o
theorem NumOwn.below {w w' : World} {base B : Nat} {v : Value} {xs : List Nat} (h : NumOwn w base v xs) (hb : Below B w w') (hB : w.heap.size ≤ B) : NumOwn w' base v xs := OwnM.below h hb hB
theorem OwnM.differ {w : World} {b1 b2 s1 s2 n1 n2 : Nat} {e1 e2 : TypeId} {v1 v2 : Value} {x1 x2 : List Value} (h1 : OwnM w b1 e1 s1 v1 n1 x1) (h2 : OwnM w b2 e2 s2 v2 n2 x2) (hne : e1 ≠ e2) : ∀ k, v1.ownBlock = some k → some k ≠ v2.ownBlock := by
  intro k hk hk2
  rcases h1.2 with ⟨rfl, _⟩ | ⟨g, cap, cur, fr, rfl, _, hg, _⟩
  · cases hk
  · obtain rfl : g = k := by simpa [Value.ownBlock] using hk
    rcases h2.2 with ⟨rfl, _⟩ | ⟨g2, cap2, cur2, fr2, rfl, _, hg2, _⟩
    · cases hk2
    · have e : g = g2 := by simpa [Value.ownBlock] using hk2
      subst e
      rw [hg] at hg2
      simp only [Option.some.injEq, Obj.cells.injEq] at hg2
      exact hne hg2.2.1
/-- a number is appended -/
theorem wpList_append_num {ops : Array Oper} {rest : List Oper} {op : Oper} {a : Act} {W : World} {Q : Exit → Act → World → Prop} (hgd : op.guard = none) (s p : Operand)
    (ho : op.op = .call { callee := .builtin .append, args := #[s, p], argTypes := #[39, 39] }) (base : Nat) (v : Value) (ys : List Nat) (hs : a.eval s = v) (hown : Hid (NumOwn W base v ys))
    (n : Nat) (b : Nat) (hp : a.eval p = .slice (some ⟨b, 0, none⟩) 1 1) (hc : Hid (CellsAt W b #[.int .i64 (n : Nat)] 3)) (hl : ys.length ≤ 1000000) (hbase : base ≤ W.heap.size)
    (h : ∀ A' c' w', Hid (NumOwn w' base (.slice A' (ys.length + 1) c') (ys ++ [n])) → Hid (∀ B w0, Below B w0 W → B ≤ base → Below B w0 w') → Hid (W.grownBy w' v.ownBlock) → wpList Try.prog ops Q rest (a.put op.dst (.slice A' (ys.length + 1) c')) w') : wpList Try.prog ops Q (op :: rest) a W := by
  obtain ⟨i0, hi, hz0, hz1, hz2⟩ := info_parts infoI
  have hown := hown.out
  refine wpList_append_m hgd s p 39 39 ho base 3 i0 _ 1 8 Try.underlying39 hi hz0 hz1 hz2 rfl (by decide) v ys.length (numV ys) hs hown _ 1 (numV [n]) hp ?_ ?_ ?_ hbase ?_
  · exact Src.cells Try.underlying39 hc.out rfl (fun u hu => by simp at hu; subst hu; rfl)
  · unfold maxLen
    omega
  · omega
  · intro v' w' hv hg _
    obtain ⟨A', c', rfl⟩ := hv.form
    refine h A' c' w' ?_ (fun B w0 hb hB => hown.below_grown hg hb (Nat.le_trans hB hbase) hB) hg
    show OwnM _ _ _ _ _ _ _
    rw [List.length_append]
    unfold numV at hv ⊢
    rw [List.map_append]
    exact hv
def lenV : Value → Nat
  | .slice _ n _ => n
  | _ => 0

set_option maxRecDepth 100000 in
set_option maxHeartbeats 4000000 in
theorem Order_any (A : Option Addr) (cap : Nat) (ps : List Pt) (kv : Value) (f : Pt → Option Int) (w : World) (h : PsAt w A cap ps) (hF : OpenFits w kv f) (hps : ps.length ≤ 1000000) :
    Calls Try.prog 9 #[.slice A ps.length cap, kv] w fun e w' => ∃ v, e = .returned v ∧ NumOwn w' w.heap.size v (orderF (openL f 0 ps)) ∧ Below w.heap.size w w' := by
  have HF := Lib.hid (hF w A cap ps (Below.refl _ _) h hps)
  have HOK := Lib.hid (openL_ok (f := f) h.ok)
  have hol : (openL f 0 ps).length ≤ 1000000 := Nat.le_trans (openL_len f ps 0) hps
  clear h hF
  generalize openL f 0 ps = es at HF HOK hol ⊢
  go_enter Try.func9, Try.ntmps9
  go_wp2_with fail
  refine HF.out.mono ?_
  rintro e w1 ⟨v, rfl, hv, hb⟩
  obtain ⟨A2, c2, rfl⟩ := OwnM.form hv
  have HV := Lib.hid hv
  have HB1 := Lib.hid hb
  clear hv hb HF
  go_wp2_with fail
  go_loopw [5, 6] (fun v o wr => ∃ (rem : List En) (done : List Nat), Hid (EsOwn wr w.heap.size v rem) ∧ Hid (NumOwn wr w.heap.size o done) ∧ Hid (done ++ orderF rem = orderF es) ∧ Hid (∀ z ∈ rem, z ∈ es) ∧ done.length + rem.length ≤ 1000000 ∧ Hid (Below w.heap.size w wr)) (fun v _ _ => lenV v)
  case atStart => exact ⟨es, [], HV.out, NumOwn.nil _ _, rfl, fun z hz => hz, by simpa using hol, HB1.out⟩
  case round =>
    obtain ⟨rem, done, HV, HO, HD, HS, hlen, HB⟩ := hrel
    obtain ⟨A3, c3, rfl⟩ := OwnM.form HV.out
    obtain ⟨A4, c4, rfl⟩ := OwnM.form HO.out
    have hws := HB.out.size
    cases hbs : bestF rem with
    | none =>
      have hn : rem = [] := by
        cases rem with
        | nil => rfl
        | cons x r => obtain ⟨y, hy⟩ := bestF_some (xs := x :: r) (by simp); rw [hy] at hbs; cases hbs
      subst hn
      have HD2 : Hid (done = orderF es) := by
        show _ = _
        rw [← HD.out, orderF_nil, List.append_nil]
      rw [List.length_nil] at *
      go_wp2_with fail
      go_ret
      exact ⟨_, rfl, by rw [← HD2.out]; exact HO.out, HB.out⟩
    | some bst =>
      have HDB := Lib.hid (drop_best hbs)
      have HOS := Lib.hid (orderF_some hbs)
      have hrl : 0 < rem.length := Nat.lt_of_le_of_lt (Nat.zero_le _) (drop_best hbs)
      have HOKR : Hid (∀ z ∈ rem, PtOk w z.p) := fun z hz => HOK.out z (HS.out z hz)
      have HOKB := Lib.hid (HOKR.out bst (bestF_mem hbs))
      have HONE := Lib.hid (PtOk.ones HOKB.out)
      obtain ⟨A5, c5, hv5, he5⟩ := HV.out.at_ (fun z hz => (HOKR.out z hz).below HB.out (Nat.le_refl _))
      simp only [Value.slice.injEq, true_and] at hv5
      obtain ⟨rfl, rfl⟩ := hv5
      have HC := Lib.hid (best_any A3 c3 rem bst wr he5 (by omega) hbs)
      clear he5 hbs
      go_wp2_with fail
      refine HC.out.mono ?_
      rintro e w2 ⟨rfl, hb2⟩
      have HV2 : Hid (EsOwn w2 w.heap.size (.slice A3 rem.length c3) rem) := HV.out.below hb2 (Nat.le_refl _)
      have HO2 : Hid (NumOwn w2 w.heap.size (.slice A4 done.length c4) done) := HO.out.below hb2 (Nat.le_refl _)
      have HB2 : Hid (Below w.heap.size w w2) := HB.out.trans (hb2.mono hws)
      have hs2 : w.heap.size ≤ w2.heap.size := HB2.out.size
      clear hb2 HV HO HB HC
      have HC3 : Hid (CellsAt (w2.alloc (.cells bst.cs 79)) w2.heap.size bst.cs 79) := CellsAt.new _ _ _
      have l1 := (HC3.out.c 29).trans (show bst.cs[29]? = some (.int .i64 bst.at_) from rfl)
      have HC4 : Hid (CellsAt ((w2.alloc (.cells bst.cs 79)).alloc (.cells #[.int .i64 (bst.at_ : Nat)] 3)) (w2.heap.size + 1) #[.int .i64 (bst.at_ : Nat)] 3) := by
        have h := CellsAt.new (w2.alloc (.cells bst.cs 79)) #[.int .i64 (bst.at_ : Nat)] 3
        rwa [show (w2.alloc (.cells bst.cs 79)).heap.size = w2.heap.size + 1 by simp] at h
      have HC5 : Hid (CellsAt ((w2.alloc (.cells bst.cs 79)).alloc (.cells #[.int .i64 (bst.at_ : Nat)] 3)) w2.heap.size bst.cs 79) := HC3.out.alloc _
      have HO5 : Hid (NumOwn ((w2.alloc (.cells bst.cs 79)).alloc (.cells #[.int .i64 (bst.at_ : Nat)] 3)) w.heap.size (.slice A4 done.length c4) done) := (HO2.out.alloc _).alloc _
      have HV5 : Hid (EsOwn ((w2.alloc (.cells bst.cs 79)).alloc (.cells #[.int .i64 (bst.at_ : Nat)] 3)) w.heap.size (.slice A3 rem.length c3) rem) := (HV2.out.alloc _).alloc _
      have HB5 : Hid (Below w.heap.size w ((w2.alloc (.cells bst.cs 79)).alloc (.cells #[.int .i64 (bst.at_ : Nat)] 3))) := (HB2.out.alloc hs2 _).alloc (by simp; omega) _
      have hdl : done.length ≤ 1000000 := by omega
      have HLT := Lib.hid (fun k (hk : (Value.slice A4 done.length c4).ownBlock = some k) => (HO2.out.lt k hk).2)
      go_wp2_with (with_reducible show wpList _ _ _ (_ :: _) _ _; first | refine wpList_store_entry rfl (.tmp 7) (.tmp 18) rfl rfl bst rfl rfl HONE.out ?_ | refine wpList_append_num rfl (.tmp 19) (.tmp 22) rfl w.heap.size (.slice A4 done.length c4) done rfl HO5 bst.at_ (w2.heap.size + 1) rfl HC4 hdl HB5.out.size ?_)
      intro A6 c6 w3 HN HBG HGR
      have HV6 : Hid (EsOwn w3 w.heap.size (.slice A3 rem.length c3) rem) := OwnM.grown HV5.out HGR.out (OwnM.differ HV5.out HO5.out (by decide))
      have HC6 : Hid (CellsAt w3 w2.heap.size bst.cs 79) := HC5.out.own HGR.out (fun e => by have := HLT.out _ e.symm; omega)
      have HB6 : Hid (Below w.heap.size w w3) := HBG.out _ _ HB5.out (Nat.le_refl _)
      have hs3 : w2.heap.size < w3.heap.size := HC6.out.lt
      clear HC3 l1 HC4 HC5 HO5 HV5 HB5 HBG HGR HV2 HO2 HB2 HLT
      go_wp2_with fail
      go_loopw [8, 26] (fun o i wr => ∃ k : Nat, k ≤ rem.length ∧ i = .int .i64 k ∧ Hid (EsOwn wr w3.heap.size o ((rem.take k).filter fun z => z.at_ != bst.at_)) ∧ Hid (Below w3.heap.size w3 wr)) (fun _ i _ => rem.length + 1 - (intOf i).toNat)
      case atStart => exact ⟨0, by omega, rfl, EsOwn.nil _ _, Below.refl _ _⟩
      case round =>
        obtain ⟨k, hk, rfl, HR, HBi⟩ := hrel
        by_cases hlt : k < rem.length
        · obtain ⟨x, hx⟩ : ∃ x, rem[k]? = some x := ⟨rem[k], List.getElem?_eq_getElem hlt⟩
          have HT : Hid ((rem.take (k + 1)).filter (fun z => z.at_ != bst.at_) = (rem.take k).filter (fun z => z.at_ != bst.at_) ++ if (x.at_ != bst.at_) = true then [x] else []) := by
            show _ = _
            rw [List.take_add_one, hx, Option.toList_some, List.filter_append, List.filter_cons, List.filter_nil]
          have hfl : ((rem.take k).filter (fun z => z.at_ != bst.at_)).length ≤ k := Nat.le_trans (List.length_filter_le _ _) (by rw [List.length_take]; omega)
          generalize (rem.take k).filter (fun z => z.at_ != bst.at_) = ys at HR HT hfl
          obtain ⟨A7, c7, hv7, he7⟩ := HV6.out.at_ (fun z hz => (HOKR.out z hz).below HB6.out (Nat.le_refl _))
          simp only [Value.slice.injEq, true_and] at hv7
          obtain ⟨rfl, rfl⟩ := hv7
          obtain ⟨b, off, rfl, hb, hr⟩ := EsAt.at_ (he7.below HBi.out (Nat.le_refl _)) hx
          have hlc := he7.len
          have HRX := Lib.hid hr
          have HX1 := Lib.hid (PtOk.ones (HOKR.out x (List.mem_of_getElem? hx)))
          have hsi := HBi.out.size
          obtain ⟨A8, c8, rfl⟩ := OwnM.form HR.out
          clear he7 hr hx
          have HC7 : Hid (CellsAt (wr.alloc (.cells x.cs 79)) wr.heap.size x.cs 79) := CellsAt.new _ _ _
          have HC8 : Hid (CellsAt (wr.alloc (.cells x.cs 79)) w2.heap.size bst.cs 79) := (HC6.out.below HBi.out hs3).alloc _
          have l2 := (HC7.out.c 29).trans (show x.cs[29]? = some (.int .i64 x.at_) from rfl)
          have l3 := (HC8.out.c 29).trans (show bst.cs[29]? = some (.int .i64 bst.at_) from rfl)
          have HR8 : Hid (EsOwn (wr.alloc (.cells x.cs 79)) w3.heap.size (.slice A8 ys.length c8) ys) := HR.out.alloc _
          have HB8 : Hid (Below w3.heap.size w3 (wr.alloc (.cells x.cs 79))) := HBi.out.alloc hsi _
          have HC9 : Hid (CellsAt ((wr.alloc (.cells x.cs 79)).alloc (.cells x.cs 79)) (wr.alloc (.cells x.cs 79)).heap.size x.cs 79) := CellsAt.new _ _ _
          have HBS : Hid (w3.heap.size ≤ ((wr.alloc (.cells x.cs 79)).alloc (.cells x.cs 79)).heap.size) := by
            show _ ≤ _
            simp
            omega
          have hle : ys.length ≤ 1000000 := by omega
          by_cases hat : x.at_ = bst.at_
          · have q1 : (((x.at_ : Nat) : Int) != ((bst.at_ : Nat) : Int)) = false := by rw [hat]; simp
            have HT2 : Hid ((rem.take (k + 1)).filter (fun z => z.at_ != bst.at_) = ys) := by
              show _ = _
              rw [HT.out, if_neg (by rw [hat]; simp), List.append_nil]
            clear hat HT
            go_wp2_with (with_reducible show wpList _ _ _ (_ :: _) _ _; first | refine wpList_load_entry rfl (.tmp 28) rfl b (off + k * 31) rfl x HRX.out ?_ | refine wpList_store_entry rfl (.tmp 10) (.tmp 29) rfl rfl x rfl rfl HX1.out ?_)
            exact ⟨⟨k + 1, by omega, by go_num, by rw [HT2.out]; exact HR8.out, HB8.out⟩, by simp [intOf]; omega⟩
          · have q1 : (((x.at_ : Nat) : Int) != ((bst.at_ : Nat) : Int)) = true := by rw [bne_iff_ne]; omega
            have HT2 : Hid ((rem.take (k + 1)).filter (fun z => z.at_ != bst.at_) = ys ++ [x]) := by
              show _ = _
              rw [HT.out, if_pos (by rw [bne_iff_ne]; exact hat)]
            clear hat HT
            go_wp2_with (with_reducible show wpList _ _ _ (_ :: _) _ _; first | refine wpList_load_entry rfl (.tmp 28) rfl b (off + k * 31) rfl x HRX.out ?_ | refine wpList_store_entry rfl (.tmp 10) (.tmp 29) rfl rfl x rfl rfl HX1.out ?_ | refine wpList_load_entry rfl (.tmp 10) rfl wr.heap.size 0 rfl x HC7.out.range ?_ | refine wpList_build_entry rfl (.tmp 36) rfl x rfl ?_ | refine wpList_append_entry rfl (.tmp 35) (.tmp 37) rfl w3.heap.size (.slice A8 ys.length c8) ys rfl (Lib.hid (EsOwn.alloc HR8.out _)) x (wr.alloc (.cells x.cs 79)).heap.size rfl HC9 HX1 hle HBS.out ?_)
            intro A9 c9 w9 HOWN HBG HGR
            go_wp2_with fail
            exact ⟨⟨k + 1, by omega, by go_num, by rw [HT2.out]; exact HOWN.out, HBG.out _ _ (HB8.out.alloc (by simp; omega) _) (Nat.le_refl _)⟩, by simp [intOf]; omega⟩
        · obtain rfl : k = rem.length := by omega
          rw [List.take_length] at HR
          obtain ⟨A8, c8, rfl⟩ := OwnM.form HR.out
          have hdb := HDB.out
          have HRS : Hid (∀ z ∈ rem.filter (fun z => z.at_ != bst.at_), z ∈ es) := fun z hz => HS.out z (List.mem_filter.1 hz).1
          generalize (rem.filter fun z => z.at_ != bst.at_) = rest at HR HOS hdb HRS
          have HD2 : Hid ((done ++ [bst.at_]) ++ orderF rest = orderF es) := by
            show _ = _
            rw [← HD.out, HOS.out, List.append_assoc]
            rfl
          go_wp2_with fail
          exact ⟨⟨rest, done ++ [bst.at_], HR.out.lower (by omega), by exact HN.out.below HBi.out (Nat.le_refl _), HD2.out, HRS.out, by simp; omega, HB6.out.trans (HBi.out.mono (by omega))⟩, by simp [lenV]; omega⟩

/-- the first n -/
def someF (n : Int) (xs : List Nat) : List Nat := if n < 1 then [] else xs.take n.toNat
theorem NumOwn.take {w : World} {base m c : Nat} {A : Option Addr} {xs : List Nat} (h : NumOwn w base (.slice A xs.length c) xs) (hm : m ≤ xs.length) : NumOwn w base (.slice A m c) (xs.take m) := by
  have hlm : (xs.take m).length = m := by rw [List.length_take, Nat.min_eq_left hm]
  refine ⟨by simp [numV], ?_⟩
  rw [hlm]
  rcases h.2 with ⟨hv, h0⟩ | ⟨g, cap, cur, fr, hv, hb, hg, hfr, h3, h4, h5, h6⟩
  · simp only [Value.slice.injEq] at hv
    obtain ⟨rfl, _, rfl⟩ := hv
    obtain rfl : m = 0 := by omega
    exact .inl ⟨rfl, rfl⟩
  · simp only [Value.slice.injEq, true_and] at hv
    obtain ⟨rfl, rfl⟩ := hv
    refine .inr ⟨g, c, cur, fr, rfl, hb, hg, hfr, by omega, h4, h5, ?_⟩
    have h7 : numV (xs.take m) = (numV xs).take m := by unfold numV; rw [List.map_take]
    rw [h7, ← h6, List.take_take, Nat.mul_one, Nat.mul_one, Nat.min_eq_left hm]
set_option maxHeartbeats 4000000 in
theorem Some_any (A : Option Addr) (cap : Nat) (ps : List Pt) (n : Int) (kv : Value) (f : Pt → Option Int) (w : World) (h : PsAt w A cap ps) (hF : OpenFits w kv f) (hps : ps.length ≤ 1000000) :
    Calls Try.prog 24 #[.slice A ps.length cap, .int .i64 n, kv] w fun e w' => ∃ v, e = .returned v ∧ NumOwn w' w.heap.size v (someF n (orderF (openL f 0 ps))) ∧ Below w.heap.size w w' := by
  have HO := Lib.hid (Order_any A cap ps kv f w h hF hps)
  clear h hF
  generalize orderF (openL f 0 ps) = os at HO ⊢
  by_cases hn : n < 1
  · have HS : Hid (someF n os = []) := by
      show _ = _
      unfold someF
      rw [if_pos hn]
    go_enter Try.func24, Try.ntmps24
    go_wp2_with fail
    go_ret
    exact ⟨_, rfl, by rw [HS.out]; exact NumOwn.nil _ _, Below.refl _ _⟩
  · have HS : Hid (someF n os = os.take n.toNat) := by
      show _ = _
      unfold someF
      rw [if_neg hn]
    go_enter Try.func24, Try.ntmps24
    go_wp2_with fail
    refine HO.out.mono ?_
    rintro e w1 ⟨v, rfl, hv, hb⟩
    obtain ⟨A2, c2, rfl⟩ := OwnM.form hv
    have HV := Lib.hid hv
    have HB := Lib.hid hb
    have hlc : os.length ≤ c2 ∧ (os.length = 0 ∨ A2 ≠ none) := by
      rcases hv.2 with ⟨hv, h0⟩ | ⟨g, cap, cur, fr, hv, _, _, _, h3, h4, _⟩
      · simp only [Value.slice.injEq] at hv
        omega
      · simp only [Value.slice.injEq, true_and] at hv
        obtain ⟨rfl, rfl⟩ := hv
        exact ⟨h3, .inr (by simp)⟩
    clear hv hb HO
    by_cases hm : n ≤ os.length
    · obtain ⟨m, rfl⟩ : ∃ m : Nat, n = m := ⟨n.toNat, by omega⟩
      have hmc : m ≤ c2 := by omega
      go_wp2_with fail
      go_ret
      refine ⟨.slice A2 (min (m : Int) os.length).toNat c2, rfl, ?_, HB.out⟩
      have e : (min (m : Int) os.length).toNat = m := by omega
      rw [e, HS.out, Int.toNat_natCast]
      exact HV.out.take (by omega)
    · go_wp2_with fail
      go_ret
      refine ⟨.slice A2 (min n os.length).toNat c2, rfl, ?_, HB.out⟩
      have e : (min n os.length).toNat = os.length := by omega
      rw [e, HS.out, List.take_of_length_le (by omega)]
      exact HV.out

/-- two paths beside each other -/
theorem two_at {w : World} {b : Nat} {p q : Pt} (h : CellsAt w b (p.cs.toList ++ q.cs.toList).toArray 38) (hp : PtOk w p) (hq : PtOk w q) : PsAt w (some ⟨b, 0, none⟩) 2 [p, q] := by
  refine ⟨fun _ => ⟨b, 0, rfl, h.lt, fun i cs hi j u hu => ?_⟩, Nat.le_refl _, by decide, fun x hx => ?_⟩
  · rw [Nat.zero_add, h.c]
    match i, hi with
    | 0, hi =>
      obtain rfl : p.cs.toList = cs := Option.some.inj hi
      have := (List.getElem?_eq_some_iff.1 hu).1
      rw [Nat.zero_mul, Nat.zero_add, List.getElem?_toArray, List.getElem?_append_left this]
      exact hu
    | 1, hi =>
      obtain rfl : q.cs.toList = cs := Option.some.inj hi
      have e : p.cs.toList.length = 29 := rfl
      rw [List.getElem?_toArray, List.getElem?_append_right (by rw [e]; omega), e, Nat.one_mul, Nat.add_sub_cancel_left]
      exact hu
    | i + 2, hi => simp at hi
  · simp only [List.mem_cons, List.not_mem_nil, or_false] at hx
    rcases hx with rfl | rfl <;> assumption
def betterF (f : Pt → Option Int) (p q : Pt) : Bool := match bestF (openL f 0 [p, q]) with
  | none => false
  | some e => e.at_ == 0
theorem wpList_build_two {ops : Array Oper} {rest : List Oper} {op : Oper} {a : Act} {w : World} {Q : Exit → Act → World → Prop} (hgd : op.guard = none) (s0 s1 : Operand) (ho : op.op = .buildSlice 23 2 #[(0, s0), (1, s1)]) (p q : Pt) (h0 : a.eval s0 = .agg p.cs) (h1 : a.eval s1 = .agg q.cs)
    (h : wpList Try.prog ops Q rest (a.put op.dst (.slice (some ⟨w.heap.size, 0, none⟩) 2 2)) (w.alloc (.cells (p.cs.toList ++ q.cs.toList).toArray 38))) : wpList Try.prog ops Q (op :: rest) a w := by
  obtain ⟨i0, z0, hi, hz0, hz1, hz2, hz3⟩ := infoPt
  refine wpList_build_rows hgd ho [.agg p.cs, .agg q.cs] (by simp [h0, h1]) rfl (s := 29) (fun v hv => by simp only [List.mem_cons, List.not_mem_nil, or_false] at hv; rcases hv with rfl | rfl <;> rfl) i0 z0 Try.underlying23 hi hz0 hz1 (by decide) (by decide) (by decide) ?_
  have e : ([Value.agg p.cs, Value.agg q.cs].flatMap fun v => v.cells.toList) = p.cs.toList ++ q.cs.toList := by
    show p.cs.toList ++ (q.cs.toList ++ []) = _
    rw [List.append_nil]
  rw [e]
  exact h
set_option maxRecDepth 100000 in
set_option maxHeartbeats 4000000 in
theorem Better_any (p q : Pt) (kv : Value) (f : Pt → Option Int) (w : World) (hp : PtOk w p) (hq : PtOk w q) (hF : OpenFits w kv f) :
    Calls Try.prog 15 #[p.v, q.v, kv] w fun e w' => e = .returned (.bool (betterF f p q)) ∧ Below w.heap.size w w' := by
  have HF := Lib.hid hF
  have HP := Lib.hid hp
  have HQ := Lib.hid hq
  clear hp hq hF
  have hs1 : (w.alloc (.cells p.cs 38)).heap.size = w.heap.size + 1 := by simp
  have HC1 : Hid (CellsAt ((w.alloc (.cells p.cs 38)).alloc (.cells q.cs 38)) w.heap.size p.cs 38) := (CellsAt.new _ _ _).alloc _
  have HC2 : Hid (CellsAt ((w.alloc (.cells p.cs 38)).alloc (.cells q.cs 38)) (w.heap.size + 1) q.cs 38) := by
    have h := CellsAt.new (w.alloc (.cells p.cs 38)) q.cs 38
    rwa [hs1] at h
  have HB2 : Hid (Below w.heap.size w ((w.alloc (.cells p.cs 38)).alloc (.cells q.cs 38))) := ((Below.refl _ _).alloc (Nat.le_refl _) _).alloc (by simp) _
  have hbs := HB2.out.size
  have HN : Hid (CellsAt (((w.alloc (.cells p.cs 38)).alloc (.cells q.cs 38)).alloc (.cells (p.cs.toList ++ q.cs.toList).toArray 38)) (w.heap.size + 1 + 1) (p.cs.toList ++ q.cs.toList).toArray 38) := by
    have h := CellsAt.new ((w.alloc (.cells p.cs 38)).alloc (.cells q.cs 38)) (p.cs.toList ++ q.cs.toList).toArray 38
    rwa [show ((w.alloc (.cells p.cs 38)).alloc (.cells q.cs 38)).heap.size = w.heap.size + 1 + 1 by simp] at h
  have HB3 : Hid (Below w.heap.size w (((w.alloc (.cells p.cs 38)).alloc (.cells q.cs 38)).alloc (.cells (p.cs.toList ++ q.cs.toList).toArray 38))) := HB2.out.alloc hbs _
  have HBE := Lib.hid (Best_any (some ⟨w.heap.size + 1 + 1, 0, none⟩) 2 [p, q] kv f _ (two_at HN.out (HP.out.below HB3.out (Nat.le_refl _)) (HQ.out.below HB3.out (Nat.le_refl _))) (HF.out.below HB3.out) (by simp))
  clear HN HB2 HF hbs hs1
  rw [Pt.v_cs, Pt.v_cs]
  go_enter Try.func15, Try.ntmps15
  go_wp2_with (with_reducible show wpList _ _ _ (_ :: _) _ _; first | refine wpList_load_path' rfl (.tmp 3) rfl w.heap.size 0 rfl p HC1.out.range ?_ | refine wpList_load_path' rfl (.tmp 4) rfl (w.heap.size + 1) 0 rfl q HC2.out.range ?_ | refine wpList_build_two rfl (.tmp 10) (.tmp 11) rfl p q rfl rfl ?_)

  refine HBE.out.mono ?_
  rintro e w1 ⟨rfl, hb⟩
  have HB4 : Hid (Below w.heap.size w w1) := HB3.out.trans (hb.mono HB3.out.size)
  clear hb HB3 HBE
  have HBT : Hid (betterF f p q = match bestF (openL f 0 [p, q]) with | none => false | some e => e.at_ == 0) := rfl
  cases hbf : bestF (openL f 0 [p, q]) with
  | none =>
    rw [hbf] at HBT
    have e1 : bestV none = .tuple #[.int .i64 0, .bool false] := rfl
    rw [e1]
    clear hbf
    go_wp2_with fail
    go_ret
    exact ⟨by rw [HBT.out]; rfl, HB4.out⟩
  | some x =>
    rw [hbf] at HBT
    have e1 : bestV (some x) = .tuple #[.int .i64 x.at_, .bool true] := rfl
    rw [e1]
    clear hbf
    go_wp2_with fail
    go_ret
    refine ⟨?_, HB4.out⟩
    rw [HBT.out]
    have e2 : (((x.at_ : Nat) : Int) == 0) = (x.at_ == 0) := by rw [Bool.eq_iff_iff]; simp
    rw [← e2]
    rfl
end Go.Proofs.Ytoamigfjpcniaaa
