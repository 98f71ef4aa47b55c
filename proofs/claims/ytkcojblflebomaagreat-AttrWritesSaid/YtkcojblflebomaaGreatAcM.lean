/-
  The document's raw attributes of attributes: heraldref06.Write walked, where they may be. Conditions: sizes.
-/
import Derived.Test.YtkcojblflebomaaGreatAcL
import Derived.Test.YtkcojblflebomaaGreatAaJ
import Derived.Test.YtkcojblflebomaaGreatAbC
import Derived.Deep.DeepCutAuto
import Derived.BigQuiet
import Derived.Deep.QuietTactic
set_option linter.unusedVariables false
set_option linter.unusedSimpArgs false
namespace Go.Proofs.YtkcojblflebomaaGreat
open Go.RowKit Go.MapKept Go.Shelf
open Go.Lib hiding intOf

/-- raw attributes that a call gathers -/
structure RawsO (w : World) (base : Nat) (A : Option Addr) (n c : Nat) (L : List Rw) : Prop where
  len : L.length = n
  own : OwnL w base 32 3 Rw.cs (.slice A n c) L
theorem RawsO.below {w w' : World} {base : Nat} {A : Option Addr} {n c : Nat} {L : List Rw} (h : RawsO w base A n c L) (hb : Below w.heap.size w w') : RawsO w' base A n c L := ⟨h.len, h.own.below hb (Nat.le_refl _)⟩
theorem OwnM.new {w : World} {base b n C : Nat} {T : TypeId} {cs : Array Value} (h : CellsAt w b cs T) (hb : base ≤ b) (hs : cs.size = n * C) (hm : n ≤ maxLen) : OwnM w base T C (.slice (some ⟨b, 0, none⟩) n n) n cs.toList := by
  refine ⟨by simpa using hs, .inr ⟨b, n, cs, (0, 0), rfl, hb, h, .inl (Nat.le_refl _), Nat.le_refl _, hm, hs, ?_⟩⟩
  rw [← hs]
  exact List.take_of_length_le (by simp)
theorem beq4 (n : Nat) : ((n : Int) == 4) = (n == 4) := by
  rw [Bool.eq_iff_iff]
  simp
  omega
theorem pos_dec (n : Nat) : decide ((0 : Int) < (n : Int)) = decide (0 < n) := by
  rw [decide_eq_decide]
  omega
section
variable {ops : Array Oper} {rest : List Oper} {op : Oper} {a : Act} {Q : Exit → Act → World → Prop}
theorem wpList_push_raw {W : World} (hgd : op.guard = none) (s p : Operand) (ho : op.op = .call { callee := .builtin .append, args := #[s, p], argTypes := #[22, 22] }) (A : Option Addr) (n c : Nat) (hs : a.eval s = .slice A n c) (b : Nat) (hp : a.eval p = .slice (some ⟨b, 0, none⟩) 1 1)
    (f t : UInt8) (fi ti : Int) (hf : ((f.toNat : Nat) : Int) = fi) (ht : ((t.toNat : Nat) : Int) = ti) (v : ByteArray) (base : Nat) (L : List Rw) (HO : Hid (RawsO W base A n c L)) (HC : Hid (CellsAt W b #[.int .u8 fi, .int .u8 ti, .string v] 32)) (hbase : base ≤ W.heap.size) (hl : n ≤ 100)
    (h : ∀ A' c' w', Hid (RawsO w' base A' (n + 1) c' (L ++ optR true f t v)) → Hid (Below base W w') → wpList Tryz.prog ops Q rest (a.put op.dst (.slice A' (n + 1) c')) w') : wpList Tryz.prog ops Q (op :: rest) a W := by
  obtain ⟨i0, hi, hz0, hz1, hz2⟩ := info_parts infoRaw
  subst hf
  subst ht
  have hL := HO.out.len
  have hown := HO.out.own
  unfold OwnL at hown
  rw [hL] at hown
  refine wpList_append_m hgd s p 22 22 ho base 32 i0 _ 3 24 Tryz.underlying22 hi hz0 hz1 hz2 rfl (by decide) (.slice A n c) n (L.flatMap Rw.cs) hs hown _ 1 _ hp (Src.block (P := Tryz.prog) (t2 := 22) (size := 3) (m := 1) (c := 1) Tryz.underlying22 HC.out rfl (by simp [Value.oneCell'])) (by unfold maxLen; omega) (by omega) hbase ?_
  intro v' w' hv hg hat
  obtain ⟨A', c', rfl⟩ := hv.form
  refine h A' c' w' ⟨by rw [List.length_append, hL]; rfl, ?_⟩ (OwnM.below_grown hown hg (Below.refl _ _) hbase (Nat.le_refl _))
  have h2 : OwnL w' base 32 3 Rw.cs (.slice A' (n + 1) c') (L ++ [⟨f, t, v⟩]) := OwnL.snoc (by rw [hL]; exact hv)
  exact h2
end
theorem optR_no (f t : UInt8) (v : ByteArray) (L : List Rw) : L ++ optR false f t v = L := by unfold optR; simp
set_option maxRecDepth 100000 in
set_option maxHeartbeats 64000000 in
theorem rwrite_ok (a : Atr) (four : Bool) (w : World) (h : AtrOk w a) (hok : atOk a.c = true) :
    Calls Tryz.prog 28 #[a.v, .bool four] w fun e w' => (∃ v, e = .returned (.tuple #[v, .int .i64 0]) ∧ OwnL w' w.heap.size 32 3 Rw.cs v (writeF a.c four)) ∧ Below w.heap.size w w' := by
  have HA := Lib.hid h
  have HOKC : Hid (∀ W, AtrOk W a → Calls Tryz.prog 29 #[.agg a.ar] W fun e w' => e = .returned (.int .i64 0) ∧ Below W.heap.size W w') := fun W h => by
    have h2 := rcheck_any a W h
    rwa [hok] at h2
  obtain ⟨hpk, ho0, ho1, hclu⟩ := atOk_path hok
  have hlists : a.comms.length ≤ 64 ∧ a.exts.length ≤ 64 ∧ a.larges.length ≤ 64 ∧ a.clus.length ≤ 32 := by
    unfold atOk at hok
    simp only [Bool.and_eq_true] at hok
    have hL := hok.2
    unfold listsOk at hL
    simp only [Bool.and_eq_true, decide_eq_true_eq] at hL
    obtain ⟨⟨⟨h1, _, h2⟩, _, h3⟩, _, h4⟩ := hL
    exact ⟨h2, h3, h4, h1⟩
  obtain ⟨lm, lx, ll, lk⟩ := hlists
  have HENC : Hid (∀ W, AtrOk W a → Calls Tryz.prog 62 #[.slice a.pA a.segs.length a.pC, .bool four] W fun e w' => e = .returned (.tuple #[.string (bts (pathB four a.c.path)), .int .i64 0]) ∧ Below W.heap.size W w') := fun W h => rencode_any a.pA a.pC a.segs four W h.path hpk
  have HNUM := Lib.hid rnum_any
  have HWD := Lib.hid rwords_any
  have hmed := h.nfit.1
  have hpref := h.nfit.2.1
  have hagas := h.nfit.2.2.1
  have hagid := h.nfit.2.2.2.1
  have horig := h.nfit.2.2.2.2
  have hnx : a.next.size ≤ 9223372036854775807 := h.next
  have ho0' : 0 ≤ a.origin := ho0
  have ho1' : a.origin ≤ 2 := ho1
  obtain ⟨og, hog⟩ := Int.eq_ofNat_of_zero_le ho0'
  have hog2 : og ≤ 2 := by omega
  have HOG : Hid (a.origin = (og : Nat)) := hog
  have zog : IntKind.u64.wrap ((og : Nat) : Int) = ((og : Nat) : Int) := IntWalk.u64_in _ (by omega)
  clear h hok hpk hclu ho0 ho1 ho0' ho1' hog
  unfold Atr.v
  obtain ⟨V, hV⟩ : ∃ V, V = w.alloc (.cells a.ar 40) := ⟨_, rfl⟩
  have HC : Hid (CellsAt V w.heap.size a.ar 40) := by rw [hV]; exact CellsAt.new _ _ _
  have HB : Hid (Below w.heap.size w V) := by rw [hV]; exact (Below.refl _ _).alloc (Nat.le_refl _) _
  go_enter Tryz.func28, Tryz.ntmps28
  go_upto_region 1 with fail
  rw [← hV]
  clear hV
  go_wp2_with (with_reducible show wpList _ _ _ (_ :: _) _ _; refine wpList_load_attrs rfl (.tmp 2) rfl w.heap.size rfl a HC.out ?_)
  refine (HOKC.out _ (HA.out.below HB.out (Nat.le_refl _))).mono ?_
  rintro e V1 ⟨rfl, hb⟩
  have HC1 : Hid (CellsAt V1 w.heap.size a.ar 40) := HC.out.below hb HC.out.lt
  have HB1 : Hid (Below w.heap.size w V1) := HB.out.trans (hb.mono HB.out.size)
  clear hb HC HB
  obtain ⟨c0, c1, c2, c3, c4, c5, c6, c7, c8, c9, c10, c11, c12, c13, c14, c15⟩ := atr_cells HC1.out
  go_wp2_with fail
  refine (HENC.out _ (HA.out.below HB1.out (Nat.le_refl _))).mono ?_
  rintro e V2 ⟨rfl, hb⟩
  have HC2 : Hid (CellsAt V2 w.heap.size a.ar 40) := HC1.out.below hb HC1.out.lt
  have HB2 : Hid (Below w.heap.size w V2) := HB1.out.trans (hb.mono HB1.out.size)
  clear hb HC1 HB1 c0 c1 c2 c3 c4 c5 c6 c7 c8 c9 c10 c11 c12 c13 c14 c15
  obtain ⟨c0, c1, c2, c3, c4, c5, c6, c7, c8, c9, c10, c11, c12, c13, c14, c15⟩ := atr_cells HC2.out
  rw [HOG.out] at c0
  obtain ⟨sp, hsp⟩ : ∃ s, s = bts (pathB four a.c.path) := ⟨_, rfl⟩
  rw [← hsp]
  have HN0 : Hid (∀ W, Calls Tryz.prog 31 #[.int .u64 (og : Nat), .int .i64 1] W fun e w' => e = .returned (.string (bts (beB og 1 1))) ∧ Below W.heap.size W w') := fun W => HNUM.out og 1 W (by decide) (by decide) (by omega) (by omega)
  obtain ⟨so, hso⟩ : ∃ s, s = bts (beB og 1 1) := ⟨_, rfl⟩
  rw [← hso] at HN0
  have HSP := Lib.hid hsp
  have HSO := Lib.hid hso
  clear hsp hso
  go_wp2_with fail
  refine (HN0.out _).mono ?_
  rintro e V3 ⟨rfl, hb⟩
  have HC3 : Hid (CellsAt V3 w.heap.size a.ar 40) := HC2.out.below hb HC2.out.lt
  have HB3 : Hid (Below w.heap.size w V3) := HB2.out.trans (hb.mono HB2.out.size)
  clear hb HC2 HB2 c0 c1 c2 c3 c4 c5 c6 c7 c8 c9 c10 c11 c12 c13 c14 c15 HN0 zog
  have hlt3 := HC3.out.lt
  have HCB : Hid (CellsAt (V3.alloc (.cells #[.int .u8 64, .int .u8 1, .string so, .int .u8 64, .int .u8 2, .string sp] 32)) V3.heap.size #[.int .u8 64, .int .u8 1, .string so, .int .u8 64, .int .u8 2, .string sp] 32) := CellsAt.new _ _ _
  have HC : Hid (CellsAt (V3.alloc (.cells #[.int .u8 64, .int .u8 1, .string so, .int .u8 64, .int .u8 2, .string sp] 32)) w.heap.size a.ar 40) := HC3.out.alloc _
  have HB : Hid (Below w.heap.size w (V3.alloc (.cells #[.int .u8 64, .int .u8 1, .string so, .int .u8 64, .int .u8 2, .string sp] 32))) := HB3.out.alloc HB3.out.size _
  obtain ⟨L0, hL0⟩ : ∃ L : List Rw, L = [⟨64, 1, so⟩, ⟨64, 2, sp⟩] := ⟨_, rfl⟩
  have HO : Hid (RawsO (V3.alloc (.cells #[.int .u8 64, .int .u8 1, .string so, .int .u8 64, .int .u8 2, .string sp] 32)) (w.heap.size + 1) (some ⟨V3.heap.size, 0, none⟩) 2 2 L0) := by
    show RawsO _ _ _ _ _ _
    rw [hL0]
    exact ⟨rfl, OwnM.new HCB.out hlt3 rfl (by decide)⟩
  have HL0 := Lib.hid hL0
  clear hL0 HC3 HB3 HCB
  obtain ⟨L, hL⟩ : ∃ L, L = L0 := ⟨_, rfl⟩
  rw [← hL] at HO
  have HL1 := Lib.hid hL
  clear hL
  go_upto_region 5 with fail
  generalize V3.alloc (.cells #[.int .u8 64, .int .u8 1, .string so, .int .u8 64, .int .u8 2, .string sp] 32) = wc at HO HC HB ⊢
  generalize hA0 : (some ⟨V3.heap.size, 0, none⟩ : Option Addr) = A at HO ⊢
  clear hA0 hlt3
  -- next
  obtain ⟨q, hq⟩ : ∃ q, q = (a.next.size == 4) := ⟨_, rfl⟩
  have zq : (((a.next.size : Nat) : Int) == 4) = q := by rw [hq]; exact beq4 _
  have HQ0 := Lib.hid hq
  obtain ⟨c0, c1, c2, c3, c4, c5, c6, c7, c8, c9, c10, c11, c12, c13, c14, c15⟩ := atr_cells HC.out
  clear hq
  go_upto_if 35 with fail
  go_cut [8] (fun v wx => ∃ (A2 : Option Addr) (n2 c2 : Nat), v = .slice A2 n2 c2 ∧ n2 ≤ 3 ∧ Hid (RawsO wx (w.heap.size + 1) A2 n2 c2 (L ++ optR q 64 3 (a.next))) ∧ Hid (CellsAt wx w.heap.size a.ar 40) ∧ Hid (Below w.heap.size w wx))
  case first =>
    as_aux_lemma =>
      cases q with
      | false =>
        go_wp2_with fail
        go_meet
        exact ⟨A, 2, 2, rfl, by omega, by rw [optR_no]; exact HO.out, HC.out, HB.out⟩
      | true =>
        have HCu := HC
        have HBu := HB
        have HOu := HO
        clear HC HB HO
        have HCP : Hid (CellsAt (wc.alloc (.cells #[.int .u8 64, .int .u8 3, .string (a.next)] 32)) wc.heap.size #[.int .u8 64, .int .u8 3, .string (a.next)] 32) := CellsAt.new _ _ _
        have HOP : Hid (RawsO (wc.alloc (.cells #[.int .u8 64, .int .u8 3, .string (a.next)] 32)) (w.heap.size + 1) A 2 2 L) := HOu.out.below ((Below.refl _ _).alloc (Nat.le_refl _) _)
        have HCQ : Hid (CellsAt (wc.alloc (.cells #[.int .u8 64, .int .u8 3, .string (a.next)] 32)) w.heap.size a.ar 40) := HCu.out.alloc _
        have HBQ : Hid (Below w.heap.size w (wc.alloc (.cells #[.int .u8 64, .int .u8 3, .string (a.next)] 32))) := HBu.out.alloc HBu.out.size _
        have hbq : w.heap.size + 1 ≤ (wc.alloc (.cells #[.int .u8 64, .int .u8 3, .string (a.next)] 32)).heap.size := by have := HCQ.out.lt; omega
        have HBS := Lib.hid hbq
        clear hbq HCu HBu HOu
        go_wp2_with (at_builtin; refine wpList_push_raw rfl (.tmp 36) (.tmp 40) rfl A 2 2 rfl wc.heap.size rfl 64 3 64 3 rfl rfl (a.next) (w.heap.size + 1) L HOP HCP HBS.out (by omega) ?_)
        intro A9 c9 U9 HO9 HB9
        have HC9 : Hid (CellsAt U9 w.heap.size a.ar 40) := HCQ.out.below HB9.out (by omega)
        have HB9b : Hid (Below w.heap.size w U9) := HBQ.out.trans (HB9.out.mono (by omega))
        clear HB9 HCP HOP HCQ HBQ HBS
        go_wp2_with fail
        go_meet
        exact ⟨A9, 2 + 1, c9, rfl, by omega, HO9.out, HC9.out, HB9b.out⟩
  case rest =>
  clear HO HC HB c0 c1 c2 c3 c4 c5 c6 c7 c8 c9 c10 c11 c12 c13 c14 c15 zq
  obtain ⟨A, n, c, rfl, hn, HO, HC, HB⟩ := hcut
  obtain ⟨L2, hL⟩ : ∃ MM, MM = L ++ optR q 64 3 (a.next) := ⟨_, rfl⟩
  rw [← hL] at HO
  have HL2 : Hid (L2 = L ++ optR ((a.next.size == 4)) 64 3 (a.next)) := by show _ = _; rw [hL, HQ0.out]
  have HLp0 : Hid (L = L) := rfl
  clear hL HQ0 HLp0
  -- med
  obtain ⟨q, hq⟩ : ∃ q, q = a.hasMed := ⟨_, rfl⟩
  have HQ1 := Lib.hid hq
  obtain ⟨c0, c1, c2, c3, c4, c5, c6, c7, c8, c9, c10, c11, c12, c13, c14, c15⟩ := atr_cells HC.out
  rw [← hq] at c3
  clear hq
  go_upto_if 43 with fail
  go_cut [8] (fun v wx => ∃ (A2 : Option Addr) (n2 c2 : Nat), v = .slice A2 n2 c2 ∧ n2 ≤ 4 ∧ Hid (RawsO wx (w.heap.size + 1) A2 n2 c2 (L2 ++ optR q 128 4 (bts (beB a.med 4 4)))) ∧ Hid (CellsAt wx w.heap.size a.ar 40) ∧ Hid (Below w.heap.size w wx))
  case first =>
    as_aux_lemma =>
      cases q with
      | false =>
        go_wp2_with fail
        go_meet
        exact ⟨A, n, c, rfl, by omega, by rw [optR_no]; exact HO.out, HC.out, HB.out⟩
      | true =>
        have HCu := HC
        have HBu := HB
        have HOu := HO
        clear HC HB HO
        have HNk : Hid (∀ W, Calls Tryz.prog 31 #[.int .u64 (a.med : Nat), .int .i64 4] W fun e w' => e = .returned (.string (bts (beB a.med 4 4))) ∧ Below W.heap.size W w') := fun W => HNUM.out a.med 4 W (by decide) (by decide) (by omega) (by omega)
        have zw : IntKind.u64.wrap ((a.med : Nat) : Int) = ((a.med : Nat) : Int) := IntWalk.u64_in _ (by omega)
        go_wp2_with fail
        refine (HNk.out _).mono ?_
        rintro e U ⟨rfl, hb⟩
        have HCn : Hid (CellsAt U w.heap.size a.ar 40) := HCu.out.below hb HCu.out.lt
        have HBn : Hid (Below w.heap.size w U) := HBu.out.trans (hb.mono HBu.out.size)
        have HOn : Hid (RawsO U (w.heap.size + 1) A n c L2) := HOu.out.below hb
        clear hb HCu HBu HOu
        have HCu := HCn
        have HBu := HBn
        have HOu := HOn
        clear HCn HBn HOn
        clear c0 c1 c2 c3 c4 c5 c6 c7 c8 c9 c10 c11 c12 c13 c14 c15 HNk zw
        have HCP : Hid (CellsAt (U.alloc (.cells #[.int .u8 128, .int .u8 4, .string (bts (beB a.med 4 4))] 32)) U.heap.size #[.int .u8 128, .int .u8 4, .string (bts (beB a.med 4 4))] 32) := CellsAt.new _ _ _
        have HOP : Hid (RawsO (U.alloc (.cells #[.int .u8 128, .int .u8 4, .string (bts (beB a.med 4 4))] 32)) (w.heap.size + 1) A n c L2) := HOu.out.below ((Below.refl _ _).alloc (Nat.le_refl _) _)
        have HCQ : Hid (CellsAt (U.alloc (.cells #[.int .u8 128, .int .u8 4, .string (bts (beB a.med 4 4))] 32)) w.heap.size a.ar 40) := HCu.out.alloc _
        have HBQ : Hid (Below w.heap.size w (U.alloc (.cells #[.int .u8 128, .int .u8 4, .string (bts (beB a.med 4 4))] 32))) := HBu.out.alloc HBu.out.size _
        have hbq : w.heap.size + 1 ≤ (U.alloc (.cells #[.int .u8 128, .int .u8 4, .string (bts (beB a.med 4 4))] 32)).heap.size := by have := HCQ.out.lt; omega
        have HBS := Lib.hid hbq
        clear hbq HCu HBu HOu
        go_wp2_with (at_builtin; refine wpList_push_raw rfl (.tmp 44) (.tmp 50) rfl A n c rfl U.heap.size rfl 128 4 128 4 rfl rfl (bts (beB a.med 4 4)) (w.heap.size + 1) L2 HOP HCP HBS.out (by omega) ?_)
        intro A9 c9 U9 HO9 HB9
        have HC9 : Hid (CellsAt U9 w.heap.size a.ar 40) := HCQ.out.below HB9.out (by omega)
        have HB9b : Hid (Below w.heap.size w U9) := HBQ.out.trans (HB9.out.mono (by omega))
        clear HB9 HCP HOP HCQ HBQ HBS
        go_wp2_with fail
        go_meet
        exact ⟨A9, n + 1, c9, rfl, by omega, HO9.out, HC9.out, HB9b.out⟩
  case rest =>
  clear HO HC HB c0 c1 c2 c3 c4 c5 c6 c7 c8 c9 c10 c11 c12 c13 c14 c15 hn
  obtain ⟨A, n, c, rfl, hn, HO, HC, HB⟩ := hcut
  obtain ⟨L3, hL⟩ : ∃ MM, MM = L2 ++ optR q 128 4 (bts (beB a.med 4 4)) := ⟨_, rfl⟩
  rw [← hL] at HO
  have HL3 : Hid (L3 = L2 ++ optR (a.hasMed) 128 4 (bts (beB a.med 4 4))) := by show _ = _; rw [hL, HQ1.out]
  have HLp1 : Hid (L2 = L2) := rfl
  clear hL HQ1 HLp1
  -- pref
  obtain ⟨q, hq⟩ : ∃ q, q = a.hasPref := ⟨_, rfl⟩
  have HQ2 := Lib.hid hq
  obtain ⟨c0, c1, c2, c3, c4, c5, c6, c7, c8, c9, c10, c11, c12, c13, c14, c15⟩ := atr_cells HC.out
  rw [← hq] at c5
  clear hq
  go_upto_if 53 with fail
  go_cut [8] (fun v wx => ∃ (A2 : Option Addr) (n2 c2 : Nat), v = .slice A2 n2 c2 ∧ n2 ≤ 5 ∧ Hid (RawsO wx (w.heap.size + 1) A2 n2 c2 (L3 ++ optR q 64 5 (bts (beB a.pref 4 4)))) ∧ Hid (CellsAt wx w.heap.size a.ar 40) ∧ Hid (Below w.heap.size w wx))
  case first =>
    as_aux_lemma =>
      cases q with
      | false =>
        go_wp2_with fail
        go_meet
        exact ⟨A, n, c, rfl, by omega, by rw [optR_no]; exact HO.out, HC.out, HB.out⟩
      | true =>
        have HCu := HC
        have HBu := HB
        have HOu := HO
        clear HC HB HO
        have HNk : Hid (∀ W, Calls Tryz.prog 31 #[.int .u64 (a.pref : Nat), .int .i64 4] W fun e w' => e = .returned (.string (bts (beB a.pref 4 4))) ∧ Below W.heap.size W w') := fun W => HNUM.out a.pref 4 W (by decide) (by decide) (by omega) (by omega)
        have zw : IntKind.u64.wrap ((a.pref : Nat) : Int) = ((a.pref : Nat) : Int) := IntWalk.u64_in _ (by omega)
        go_wp2_with fail
        refine (HNk.out _).mono ?_
        rintro e U ⟨rfl, hb⟩
        have HCn : Hid (CellsAt U w.heap.size a.ar 40) := HCu.out.below hb HCu.out.lt
        have HBn : Hid (Below w.heap.size w U) := HBu.out.trans (hb.mono HBu.out.size)
        have HOn : Hid (RawsO U (w.heap.size + 1) A n c L3) := HOu.out.below hb
        clear hb HCu HBu HOu
        have HCu := HCn
        have HBu := HBn
        have HOu := HOn
        clear HCn HBn HOn
        clear c0 c1 c2 c3 c4 c5 c6 c7 c8 c9 c10 c11 c12 c13 c14 c15 HNk zw
        have HCP : Hid (CellsAt (U.alloc (.cells #[.int .u8 64, .int .u8 5, .string (bts (beB a.pref 4 4))] 32)) U.heap.size #[.int .u8 64, .int .u8 5, .string (bts (beB a.pref 4 4))] 32) := CellsAt.new _ _ _
        have HOP : Hid (RawsO (U.alloc (.cells #[.int .u8 64, .int .u8 5, .string (bts (beB a.pref 4 4))] 32)) (w.heap.size + 1) A n c L3) := HOu.out.below ((Below.refl _ _).alloc (Nat.le_refl _) _)
        have HCQ : Hid (CellsAt (U.alloc (.cells #[.int .u8 64, .int .u8 5, .string (bts (beB a.pref 4 4))] 32)) w.heap.size a.ar 40) := HCu.out.alloc _
        have HBQ : Hid (Below w.heap.size w (U.alloc (.cells #[.int .u8 64, .int .u8 5, .string (bts (beB a.pref 4 4))] 32))) := HBu.out.alloc HBu.out.size _
        have hbq : w.heap.size + 1 ≤ (U.alloc (.cells #[.int .u8 64, .int .u8 5, .string (bts (beB a.pref 4 4))] 32)).heap.size := by have := HCQ.out.lt; omega
        have HBS := Lib.hid hbq
        clear hbq HCu HBu HOu
        go_wp2_with (at_builtin; refine wpList_push_raw rfl (.tmp 54) (.tmp 60) rfl A n c rfl U.heap.size rfl 64 5 64 5 rfl rfl (bts (beB a.pref 4 4)) (w.heap.size + 1) L3 HOP HCP HBS.out (by omega) ?_)
        intro A9 c9 U9 HO9 HB9
        have HC9 : Hid (CellsAt U9 w.heap.size a.ar 40) := HCQ.out.below HB9.out (by omega)
        have HB9b : Hid (Below w.heap.size w U9) := HBQ.out.trans (HB9.out.mono (by omega))
        clear HB9 HCP HOP HCQ HBQ HBS
        go_wp2_with fail
        go_meet
        exact ⟨A9, n + 1, c9, rfl, by omega, HO9.out, HC9.out, HB9b.out⟩
  case rest =>
  clear HO HC HB c0 c1 c2 c3 c4 c5 c6 c7 c8 c9 c10 c11 c12 c13 c14 c15 hn
  obtain ⟨A, n, c, rfl, hn, HO, HC, HB⟩ := hcut
  obtain ⟨L4, hL⟩ : ∃ MM, MM = L3 ++ optR q 64 5 (bts (beB a.pref 4 4)) := ⟨_, rfl⟩
  rw [← hL] at HO
  have HL4 : Hid (L4 = L3 ++ optR (a.hasPref) 64 5 (bts (beB a.pref 4 4))) := by show _ = _; rw [hL, HQ2.out]
  have HLp2 : Hid (L3 = L3) := rfl
  clear hL HQ2 HLp2
  -- atomic
  obtain ⟨q, hq⟩ : ∃ q, q = a.atomic := ⟨_, rfl⟩
  have HQ3 := Lib.hid hq
  obtain ⟨c0, c1, c2, c3, c4, c5, c6, c7, c8, c9, c10, c11, c12, c13, c14, c15⟩ := atr_cells HC.out
  rw [← hq] at c7
  clear hq
  go_upto_if 63 with fail
  go_cut [8] (fun v wx => ∃ (A2 : Option Addr) (n2 c2 : Nat), v = .slice A2 n2 c2 ∧ n2 ≤ 6 ∧ Hid (RawsO wx (w.heap.size + 1) A2 n2 c2 (L4 ++ optR q 64 6 (bts []))) ∧ Hid (CellsAt wx w.heap.size a.ar 40) ∧ Hid (Below w.heap.size w wx))
  case first =>
    as_aux_lemma =>
      cases q with
      | false =>
        go_wp2_with fail
        go_meet
        exact ⟨A, n, c, rfl, by omega, by rw [optR_no]; exact HO.out, HC.out, HB.out⟩
      | true =>
        have HCu := HC
        have HBu := HB
        have HOu := HO
        clear HC HB HO
        have HCP : Hid (CellsAt (wc.alloc (.cells #[.int .u8 64, .int .u8 6, .string (bts [])] 32)) wc.heap.size #[.int .u8 64, .int .u8 6, .string (bts [])] 32) := CellsAt.new _ _ _
        have HOP : Hid (RawsO (wc.alloc (.cells #[.int .u8 64, .int .u8 6, .string (bts [])] 32)) (w.heap.size + 1) A n c L4) := HOu.out.below ((Below.refl _ _).alloc (Nat.le_refl _) _)
        have HCQ : Hid (CellsAt (wc.alloc (.cells #[.int .u8 64, .int .u8 6, .string (bts [])] 32)) w.heap.size a.ar 40) := HCu.out.alloc _
        have HBQ : Hid (Below w.heap.size w (wc.alloc (.cells #[.int .u8 64, .int .u8 6, .string (bts [])] 32))) := HBu.out.alloc HBu.out.size _
        have hbq : w.heap.size + 1 ≤ (wc.alloc (.cells #[.int .u8 64, .int .u8 6, .string (bts [])] 32)).heap.size := by have := HCQ.out.lt; omega
        have HBS := Lib.hid hbq
        clear hbq HCu HBu HOu
        go_wp2_with (at_builtin; refine wpList_push_raw rfl (.tmp 64) (.tmp 66) rfl A n c rfl wc.heap.size rfl 64 6 64 6 rfl rfl (bts []) (w.heap.size + 1) L4 HOP HCP HBS.out (by omega) ?_)
        intro A9 c9 U9 HO9 HB9
        have HC9 : Hid (CellsAt U9 w.heap.size a.ar 40) := HCQ.out.below HB9.out (by omega)
        have HB9b : Hid (Below w.heap.size w U9) := HBQ.out.trans (HB9.out.mono (by omega))
        clear HB9 HCP HOP HCQ HBQ HBS
        go_wp2_with fail
        go_meet
        exact ⟨A9, n + 1, c9, rfl, by omega, HO9.out, HC9.out, HB9b.out⟩
  case rest =>
  clear HO HC HB c0 c1 c2 c3 c4 c5 c6 c7 c8 c9 c10 c11 c12 c13 c14 c15 hn
  obtain ⟨A, n, c, rfl, hn, HO, HC, HB⟩ := hcut
  obtain ⟨L5, hL⟩ : ∃ MM, MM = L4 ++ optR q 64 6 (bts []) := ⟨_, rfl⟩
  rw [← hL] at HO
  have HL5 : Hid (L5 = L4 ++ optR (a.atomic) 64 6 (bts [])) := by show _ = _; rw [hL, HQ3.out]
  have HLp3 : Hid (L4 = L4) := rfl
  clear hL HQ3 HLp3
  -- agg
  obtain ⟨q, hq⟩ : ∃ q, q = decide (0 < a.aggAs) := ⟨_, rfl⟩
  have zq : decide (0 < a.aggAs) = q := hq.symm
  have zq2 : decide ((0 : Int) < ((a.aggAs : Nat) : Int)) = q := by rw [hq]; exact pos_dec _
  have HQ4 := Lib.hid hq
  obtain ⟨c0, c1, c2, c3, c4, c5, c6, c7, c8, c9, c10, c11, c12, c13, c14, c15⟩ := atr_cells HC.out
  clear hq
  go_upto_if 70 with fail
  go_cut [8, 9] (fun v _u wx => ∃ (A2 : Option Addr) (n2 c2 : Nat), v = .slice A2 n2 c2 ∧ n2 ≤ 7 ∧ Hid (RawsO wx (w.heap.size + 1) A2 n2 c2 (L5 ++ optR q 192 7 (bts (aggB four a.aggAs ++ beB a.aggId 4 4)))) ∧ Hid (CellsAt wx w.heap.size a.ar 40) ∧ Hid (Below w.heap.size w wx))
  case first =>
    as_aux_lemma =>
      cases q with
      | false =>
        go_wp2_with fail
        go_meet
        exact ⟨A, n, c, rfl, by omega, by rw [optR_no]; exact HO.out, HC.out, HB.out⟩
      | true =>
        have HCu := HC
        have HBu := HB
        have HOu := HO
        clear HC HB HO
        have HNk : Hid (∀ W, Calls Tryz.prog 31 #[.int .u64 (a.aggAs : Nat), .int .i64 4] W fun e w' => e = .returned (.string (bts (beB a.aggAs 4 4))) ∧ Below W.heap.size W w') := fun W => HNUM.out a.aggAs 4 W (by decide) (by decide) (by omega) (by omega)
        have zw : IntKind.u64.wrap ((a.aggAs : Nat) : Int) = ((a.aggAs : Nat) : Int) := IntWalk.u64_in _ (by omega)
        go_wp2_with fail
        refine (HNk.out _).mono ?_
        rintro e U1 ⟨rfl, hb⟩
        have HCn : Hid (CellsAt U1 w.heap.size a.ar 40) := HCu.out.below hb HCu.out.lt
        have HBn : Hid (Below w.heap.size w U1) := HBu.out.trans (hb.mono HBu.out.size)
        have HOn : Hid (RawsO U1 (w.heap.size + 1) A n c L5) := HOu.out.below hb
        clear hb HCu HBu HOu
        have HCu := HCn
        have HBu := HBn
        have HOu := HOn
        clear HCn HBn HOn
        clear c0 c1 c2 c3 c4 c5 c6 c7 c8 c9 c10 c11 c12 c13 c14 c15 HNk zw
        obtain ⟨c0, c1, c2, c3, c4, c5, c6, c7, c8, c9, c10, c11, c12, c13, c14, c15⟩ := atr_cells HCu.out
        cases four with
        | true =>
          have HAB : Hid (aggB true a.aggAs = beB a.aggAs 4 4) := rfl
          obtain ⟨s1, hs1⟩ : ∃ s, s = bts (beB a.aggAs 4 4) := ⟨_, rfl⟩
          obtain ⟨s2, hs2⟩ : ∃ s, s = bts (beB a.aggId 4 4) := ⟨_, rfl⟩
          have HEQ : Hid (bts (aggB true a.aggAs ++ beB a.aggId 4 4) = s1 ++ s2) := by show _ = _; rw [HAB.out, hs1, hs2, bts_app]
          have HNk : Hid (∀ W, Calls Tryz.prog 31 #[.int .u64 (a.aggId : Nat), .int .i64 4] W fun e w' => e = .returned (.string s2) ∧ Below W.heap.size W w') := fun W => by rw [hs2]; exact HNUM.out a.aggId 4 W (by decide) (by decide) (by omega) (by omega)
          have zw : IntKind.u64.wrap ((a.aggId : Nat) : Int) = ((a.aggId : Nat) : Int) := IntWalk.u64_in _ (by omega)
          have g1 : ¬ (9223372036854775807 < s1.size + s2.size) := by rw [hs1, hs2, bts_size, bts_size, beB_len, beB_len]; omega
          rw [← hs1]
          clear hs1 hs2
          go_wp2_with fail
          refine (HNk.out _).mono ?_
          rintro e U ⟨rfl, hb⟩
          have HCn : Hid (CellsAt U w.heap.size a.ar 40) := HCu.out.below hb HCu.out.lt
          have HBn : Hid (Below w.heap.size w U) := HBu.out.trans (hb.mono HBu.out.size)
          have HOn : Hid (RawsO U (w.heap.size + 1) A n c L5) := HOu.out.below hb
          clear hb HCu HBu HOu
          have HCu := HCn
          have HBu := HBn
          have HOu := HOn
          clear HCn HBn HOn
          clear c0 c1 c2 c3 c4 c5 c6 c7 c8 c9 c10 c11 c12 c13 c14 c15 HNk
          have HCP : Hid (CellsAt (U.alloc (.cells #[.int .u8 192, .int .u8 7, .string ((s1 ++ s2))] 32)) U.heap.size #[.int .u8 192, .int .u8 7, .string ((s1 ++ s2))] 32) := CellsAt.new _ _ _
          have HOP : Hid (RawsO (U.alloc (.cells #[.int .u8 192, .int .u8 7, .string ((s1 ++ s2))] 32)) (w.heap.size + 1) A n c L5) := HOu.out.below ((Below.refl _ _).alloc (Nat.le_refl _) _)
          have HCQ : Hid (CellsAt (U.alloc (.cells #[.int .u8 192, .int .u8 7, .string ((s1 ++ s2))] 32)) w.heap.size a.ar 40) := HCu.out.alloc _
          have HBQ : Hid (Below w.heap.size w (U.alloc (.cells #[.int .u8 192, .int .u8 7, .string ((s1 ++ s2))] 32))) := HBu.out.alloc HBu.out.size _
          have hbq : w.heap.size + 1 ≤ (U.alloc (.cells #[.int .u8 192, .int .u8 7, .string ((s1 ++ s2))] 32)).heap.size := by have := HCQ.out.lt; omega
          have HBS := Lib.hid hbq
          clear hbq HCu HBu HOu
          go_wp2_with (at_builtin; refine wpList_push_raw rfl (.tmp 85) (.tmp 93) rfl A n c rfl U.heap.size rfl 192 7 192 7 rfl rfl ((s1 ++ s2)) (w.heap.size + 1) L5 HOP HCP HBS.out (by omega) ?_)
          intro A9 c9 U9 HO9 HB9
          have HC9 : Hid (CellsAt U9 w.heap.size a.ar 40) := HCQ.out.below HB9.out (by omega)
          have HB9b : Hid (Below w.heap.size w U9) := HBQ.out.trans (HB9.out.mono (by omega))
          clear HB9 HCP HOP HCQ HBQ HBS
          go_wp2_with fail
          go_meet
          rw [← HEQ.out] at HO9
          exact ⟨A9, n + 1, c9, rfl, by omega, HO9.out, HC9.out, HB9b.out⟩
        | false =>
          by_cases h5 : a.aggAs ≤ 65535
          · skip
            have HAB : Hid (aggB false a.aggAs = beB a.aggAs 2 2) := by show _ = _; unfold aggB; rw [if_neg (by simp), if_pos h5]
            obtain ⟨s1, hs1⟩ : ∃ s, s = bts (beB a.aggAs 2 2) := ⟨_, rfl⟩
            obtain ⟨s2, hs2⟩ : ∃ s, s = bts (beB a.aggId 4 4) := ⟨_, rfl⟩
            have HEQ : Hid (bts (aggB false a.aggAs ++ beB a.aggId 4 4) = s1 ++ s2) := by show _ = _; rw [HAB.out, hs1, hs2, bts_app]
            have HNk : Hid (∀ W, Calls Tryz.prog 31 #[.int .u64 (a.aggId : Nat), .int .i64 4] W fun e w' => e = .returned (.string s2) ∧ Below W.heap.size W w') := fun W => by rw [hs2]; exact HNUM.out a.aggId 4 W (by decide) (by decide) (by omega) (by omega)
            have zw : IntKind.u64.wrap ((a.aggId : Nat) : Int) = ((a.aggId : Nat) : Int) := IntWalk.u64_in _ (by omega)
            have g1 : ¬ (9223372036854775807 < s1.size + s2.size) := by rw [hs1, hs2, bts_size, bts_size, beB_len, beB_len]; omega
            have HN23 : Hid (∀ W, Calls Tryz.prog 31 #[.int .u64 23456, .int .i64 2] W fun e w' => e = .returned (.string (bts (beB 23456 2 2))) ∧ Below W.heap.size W w') := fun W => HNUM.out 23456 2 W (by decide) (by decide) (by decide) (by decide)
            have h5' : (a.aggAs : Int) ≤ 65535 := by omega
            have HN16 : Hid (∀ W, Calls Tryz.prog 31 #[.int .u64 (a.aggAs : Nat), .int .i64 2] W fun e w' => e = .returned (.string s1) ∧ Below W.heap.size W w') := fun W => by rw [hs1]; exact HNUM.out a.aggAs 2 W (by decide) (by decide) (Nat.lt_of_le_of_lt h5 (by decide)) (by omega)
            have zw2 : IntKind.u64.wrap ((a.aggAs : Nat) : Int) = ((a.aggAs : Nat) : Int) := IntWalk.u64_in _ (by omega)
            clear h5 hs1 hs2
            go_wp2_with fail
            refine (HN23.out _).mono ?_
            rintro e U2 ⟨rfl, hb⟩
            have HCn : Hid (CellsAt U2 w.heap.size a.ar 40) := HCu.out.below hb HCu.out.lt
            have HBn : Hid (Below w.heap.size w U2) := HBu.out.trans (hb.mono HBu.out.size)
            have HOn : Hid (RawsO U2 (w.heap.size + 1) A n c L5) := HOu.out.below hb
            clear hb HCu HBu HOu
            have HCu := HCn
            have HBu := HBn
            have HOu := HOn
            clear HCn HBn HOn
            clear c0 c1 c2 c3 c4 c5 c6 c7 c8 c9 c10 c11 c12 c13 c14 c15
            obtain ⟨c0, c1, c2, c3, c4, c5, c6, c7, c8, c9, c10, c11, c12, c13, c14, c15⟩ := atr_cells HCu.out
            go_wp2_with fail
            refine (HN16.out _).mono ?_
            rintro e U3 ⟨rfl, hb⟩
            have HCn : Hid (CellsAt U3 w.heap.size a.ar 40) := HCu.out.below hb HCu.out.lt
            have HBn : Hid (Below w.heap.size w U3) := HBu.out.trans (hb.mono HBu.out.size)
            have HOn : Hid (RawsO U3 (w.heap.size + 1) A n c L5) := HOu.out.below hb
            clear hb HCu HBu HOu
            have HCu := HCn
            have HBu := HBn
            have HOu := HOn
            clear HCn HBn HOn
            clear c0 c1 c2 c3 c4 c5 c6 c7 c8 c9 c10 c11 c12 c13 c14 c15
            obtain ⟨c0, c1, c2, c3, c4, c5, c6, c7, c8, c9, c10, c11, c12, c13, c14, c15⟩ := atr_cells HCu.out
            go_wp2_with fail
            refine (HNk.out _).mono ?_
            rintro e U ⟨rfl, hb⟩
            have HCn : Hid (CellsAt U w.heap.size a.ar 40) := HCu.out.below hb HCu.out.lt
            have HBn : Hid (Below w.heap.size w U) := HBu.out.trans (hb.mono HBu.out.size)
            have HOn : Hid (RawsO U (w.heap.size + 1) A n c L5) := HOu.out.below hb
            clear hb HCu HBu HOu
            have HCu := HCn
            have HBu := HBn
            have HOu := HOn
            clear HCn HBn HOn
            clear c0 c1 c2 c3 c4 c5 c6 c7 c8 c9 c10 c11 c12 c13 c14 c15 HNk
            have HCP : Hid (CellsAt (U.alloc (.cells #[.int .u8 192, .int .u8 7, .string ((s1 ++ s2))] 32)) U.heap.size #[.int .u8 192, .int .u8 7, .string ((s1 ++ s2))] 32) := CellsAt.new _ _ _
            have HOP : Hid (RawsO (U.alloc (.cells #[.int .u8 192, .int .u8 7, .string ((s1 ++ s2))] 32)) (w.heap.size + 1) A n c L5) := HOu.out.below ((Below.refl _ _).alloc (Nat.le_refl _) _)
            have HCQ : Hid (CellsAt (U.alloc (.cells #[.int .u8 192, .int .u8 7, .string ((s1 ++ s2))] 32)) w.heap.size a.ar 40) := HCu.out.alloc _
            have HBQ : Hid (Below w.heap.size w (U.alloc (.cells #[.int .u8 192, .int .u8 7, .string ((s1 ++ s2))] 32))) := HBu.out.alloc HBu.out.size _
            have hbq : w.heap.size + 1 ≤ (U.alloc (.cells #[.int .u8 192, .int .u8 7, .string ((s1 ++ s2))] 32)).heap.size := by have := HCQ.out.lt; omega
            have HBS := Lib.hid hbq
            clear hbq HCu HBu HOu
            go_wp2_with (at_builtin; refine wpList_push_raw rfl (.tmp 85) (.tmp 93) rfl A n c rfl U.heap.size rfl 192 7 192 7 rfl rfl ((s1 ++ s2)) (w.heap.size + 1) L5 HOP HCP HBS.out (by omega) ?_)
            intro A9 c9 U9 HO9 HB9
            have HC9 : Hid (CellsAt U9 w.heap.size a.ar 40) := HCQ.out.below HB9.out (by omega)
            have HB9b : Hid (Below w.heap.size w U9) := HBQ.out.trans (HB9.out.mono (by omega))
            clear HB9 HCP HOP HCQ HBQ HBS
            go_wp2_with fail
            go_meet
            rw [← HEQ.out] at HO9
            exact ⟨A9, n + 1, c9, rfl, by omega, HO9.out, HC9.out, HB9b.out⟩
          · skip
            have HAB : Hid (aggB false a.aggAs = beB 23456 2 2) := by show _ = _; unfold aggB; rw [if_neg (by simp), if_neg h5]
            obtain ⟨s1, hs1⟩ : ∃ s, s = bts (beB 23456 2 2) := ⟨_, rfl⟩
            obtain ⟨s2, hs2⟩ : ∃ s, s = bts (beB a.aggId 4 4) := ⟨_, rfl⟩
            have HEQ : Hid (bts (aggB false a.aggAs ++ beB a.aggId 4 4) = s1 ++ s2) := by show _ = _; rw [HAB.out, hs1, hs2, bts_app]
            have HNk : Hid (∀ W, Calls Tryz.prog 31 #[.int .u64 (a.aggId : Nat), .int .i64 4] W fun e w' => e = .returned (.string s2) ∧ Below W.heap.size W w') := fun W => by rw [hs2]; exact HNUM.out a.aggId 4 W (by decide) (by decide) (by omega) (by omega)
            have zw : IntKind.u64.wrap ((a.aggId : Nat) : Int) = ((a.aggId : Nat) : Int) := IntWalk.u64_in _ (by omega)
            have g1 : ¬ (9223372036854775807 < s1.size + s2.size) := by rw [hs1, hs2, bts_size, bts_size, beB_len, beB_len]; omega
            have HN23 : Hid (∀ W, Calls Tryz.prog 31 #[.int .u64 23456, .int .i64 2] W fun e w' => e = .returned (.string (bts (beB 23456 2 2))) ∧ Below W.heap.size W w') := fun W => HNUM.out 23456 2 W (by decide) (by decide) (by decide) (by decide)
            have h5' : ¬ (a.aggAs : Int) ≤ 65535 := by omega
            rw [← hs1] at HN23
            clear h5 hs1 hs2
            go_wp2_with fail
            refine (HN23.out _).mono ?_
            rintro e U2 ⟨rfl, hb⟩
            have HCn : Hid (CellsAt U2 w.heap.size a.ar 40) := HCu.out.below hb HCu.out.lt
            have HBn : Hid (Below w.heap.size w U2) := HBu.out.trans (hb.mono HBu.out.size)
            have HOn : Hid (RawsO U2 (w.heap.size + 1) A n c L5) := HOu.out.below hb
            clear hb HCu HBu HOu
            have HCu := HCn
            have HBu := HBn
            have HOu := HOn
            clear HCn HBn HOn
            clear c0 c1 c2 c3 c4 c5 c6 c7 c8 c9 c10 c11 c12 c13 c14 c15
            obtain ⟨c0, c1, c2, c3, c4, c5, c6, c7, c8, c9, c10, c11, c12, c13, c14, c15⟩ := atr_cells HCu.out
            go_wp2_with fail
            refine (HNk.out _).mono ?_
            rintro e U ⟨rfl, hb⟩
            have HCn : Hid (CellsAt U w.heap.size a.ar 40) := HCu.out.below hb HCu.out.lt
            have HBn : Hid (Below w.heap.size w U) := HBu.out.trans (hb.mono HBu.out.size)
            have HOn : Hid (RawsO U (w.heap.size + 1) A n c L5) := HOu.out.below hb
            clear hb HCu HBu HOu
            have HCu := HCn
            have HBu := HBn
            have HOu := HOn
            clear HCn HBn HOn
            clear c0 c1 c2 c3 c4 c5 c6 c7 c8 c9 c10 c11 c12 c13 c14 c15 HNk
            have HCP : Hid (CellsAt (U.alloc (.cells #[.int .u8 192, .int .u8 7, .string ((s1 ++ s2))] 32)) U.heap.size #[.int .u8 192, .int .u8 7, .string ((s1 ++ s2))] 32) := CellsAt.new _ _ _
            have HOP : Hid (RawsO (U.alloc (.cells #[.int .u8 192, .int .u8 7, .string ((s1 ++ s2))] 32)) (w.heap.size + 1) A n c L5) := HOu.out.below ((Below.refl _ _).alloc (Nat.le_refl _) _)
            have HCQ : Hid (CellsAt (U.alloc (.cells #[.int .u8 192, .int .u8 7, .string ((s1 ++ s2))] 32)) w.heap.size a.ar 40) := HCu.out.alloc _
            have HBQ : Hid (Below w.heap.size w (U.alloc (.cells #[.int .u8 192, .int .u8 7, .string ((s1 ++ s2))] 32))) := HBu.out.alloc HBu.out.size _
            have hbq : w.heap.size + 1 ≤ (U.alloc (.cells #[.int .u8 192, .int .u8 7, .string ((s1 ++ s2))] 32)).heap.size := by have := HCQ.out.lt; omega
            have HBS := Lib.hid hbq
            clear hbq HCu HBu HOu
            go_wp2_with (at_builtin; refine wpList_push_raw rfl (.tmp 85) (.tmp 93) rfl A n c rfl U.heap.size rfl 192 7 192 7 rfl rfl ((s1 ++ s2)) (w.heap.size + 1) L5 HOP HCP HBS.out (by omega) ?_)
            intro A9 c9 U9 HO9 HB9
            have HC9 : Hid (CellsAt U9 w.heap.size a.ar 40) := HCQ.out.below HB9.out (by omega)
            have HB9b : Hid (Below w.heap.size w U9) := HBQ.out.trans (HB9.out.mono (by omega))
            clear HB9 HCP HOP HCQ HBQ HBS
            go_wp2_with fail
            go_meet
            rw [← HEQ.out] at HO9
            exact ⟨A9, n + 1, c9, rfl, by omega, HO9.out, HC9.out, HB9b.out⟩
  case rest =>
  clear HO HC HB c0 c1 c2 c3 c4 c5 c6 c7 c8 c9 c10 c11 c12 c13 c14 c15 zq zq2 hn
  obtain ⟨A, n, c, rfl, hn, HO, HC, HB⟩ := hcut
  obtain ⟨L6, hL⟩ : ∃ MM, MM = L5 ++ optR q 192 7 (bts (aggB four a.aggAs ++ beB a.aggId 4 4)) := ⟨_, rfl⟩
  rw [← hL] at HO
  have HL6 : Hid (L6 = L5 ++ optR (decide (0 < a.aggAs)) 192 7 (bts (aggB four a.aggAs ++ beB a.aggId 4 4))) := by show _ = _; rw [hL, HQ4.out]
  have HLp4 : Hid (L5 = L5) := rfl
  clear hL HQ4 HLp4
  -- comms
  obtain ⟨q, hq⟩ : ∃ q, q = decide (0 < a.comms.length) := ⟨_, rfl⟩
  have zq : decide (0 < a.comms.length) = q := hq.symm
  have zq2 : decide ((0 : Int) < ((a.comms.length : Nat) : Int)) = q := by rw [hq]; exact pos_dec _
  have HQ5 := Lib.hid hq
  obtain ⟨c0, c1, c2, c3, c4, c5, c6, c7, c8, c9, c10, c11, c12, c13, c14, c15⟩ := atr_cells HC.out
  clear hq
  go_upto_if 98 with fail
  go_cut [8] (fun v wx => ∃ (A2 : Option Addr) (n2 c2 : Nat), v = .slice A2 n2 c2 ∧ n2 ≤ 8 ∧ Hid (RawsO wx (w.heap.size + 1) A2 n2 c2 (L6 ++ optR q 192 8 (bts (wordsB a.comms)))) ∧ Hid (CellsAt wx w.heap.size a.ar 40) ∧ Hid (Below w.heap.size w wx))
  case first =>
    as_aux_lemma =>
      cases q with
      | false =>
        go_wp2_with fail
        go_meet
        exact ⟨A, n, c, rfl, by omega, by rw [optR_no]; exact HO.out, HC.out, HB.out⟩
      | true =>
        have HCu := HC
        have HBu := HB
        have HOu := HO
        clear HC HB HO
        have HRa := Lib.hid (HA.out.below HBu.out (Nat.le_refl _))
        go_wp2_with fail
        refine (HWD.out a.mA a.mC a.comms _ HRa.out.mrd HRa.out.mlen HRa.out.mcap HRa.out.mfit (by omega)).mono ?_
        rintro e U ⟨rfl, hb⟩
        have HCn : Hid (CellsAt U w.heap.size a.ar 40) := HCu.out.below hb HCu.out.lt
        have HBn : Hid (Below w.heap.size w U) := HBu.out.trans (hb.mono HBu.out.size)
        have HOn : Hid (RawsO U (w.heap.size + 1) A n c L6) := HOu.out.below hb
        clear hb HCu HBu HOu
        have HCu := HCn
        have HBu := HBn
        have HOu := HOn
        clear HCn HBn HOn
        clear c0 c1 c2 c3 c4 c5 c6 c7 c8 c9 c10 c11 c12 c13 c14 c15 HRa
        have HCP : Hid (CellsAt (U.alloc (.cells #[.int .u8 192, .int .u8 8, .string (bts (wordsB a.comms))] 32)) U.heap.size #[.int .u8 192, .int .u8 8, .string (bts (wordsB a.comms))] 32) := CellsAt.new _ _ _
        have HOP : Hid (RawsO (U.alloc (.cells #[.int .u8 192, .int .u8 8, .string (bts (wordsB a.comms))] 32)) (w.heap.size + 1) A n c L6) := HOu.out.below ((Below.refl _ _).alloc (Nat.le_refl _) _)
        have HCQ : Hid (CellsAt (U.alloc (.cells #[.int .u8 192, .int .u8 8, .string (bts (wordsB a.comms))] 32)) w.heap.size a.ar 40) := HCu.out.alloc _
        have HBQ : Hid (Below w.heap.size w (U.alloc (.cells #[.int .u8 192, .int .u8 8, .string (bts (wordsB a.comms))] 32))) := HBu.out.alloc HBu.out.size _
        have hbq : w.heap.size + 1 ≤ (U.alloc (.cells #[.int .u8 192, .int .u8 8, .string (bts (wordsB a.comms))] 32)).heap.size := by have := HCQ.out.lt; omega
        have HBS := Lib.hid hbq
        clear hbq HCu HBu HOu
        go_wp2_with (at_builtin; refine wpList_push_raw rfl (.tmp 99) (.tmp 104) rfl A n c rfl U.heap.size rfl 192 8 192 8 rfl rfl (bts (wordsB a.comms)) (w.heap.size + 1) L6 HOP HCP HBS.out (by omega) ?_)
        intro A9 c9 U9 HO9 HB9
        have HC9 : Hid (CellsAt U9 w.heap.size a.ar 40) := HCQ.out.below HB9.out (by omega)
        have HB9b : Hid (Below w.heap.size w U9) := HBQ.out.trans (HB9.out.mono (by omega))
        clear HB9 HCP HOP HCQ HBQ HBS
        go_wp2_with fail
        go_meet
        exact ⟨A9, n + 1, c9, rfl, by omega, HO9.out, HC9.out, HB9b.out⟩
  case rest =>
  clear HO HC HB c0 c1 c2 c3 c4 c5 c6 c7 c8 c9 c10 c11 c12 c13 c14 c15 zq zq2 hn
  obtain ⟨A, n, c, rfl, hn, HO, HC, HB⟩ := hcut
  obtain ⟨L7, hL⟩ : ∃ MM, MM = L6 ++ optR q 192 8 (bts (wordsB a.comms)) := ⟨_, rfl⟩
  rw [← hL] at HO
  have HL7 : Hid (L7 = L6 ++ optR (decide (0 < a.comms.length)) 192 8 (bts (wordsB a.comms))) := by show _ = _; rw [hL, HQ5.out]
  have HLp5 : Hid (L6 = L6) := rfl
  clear hL HQ5 HLp5
  -- orig
  obtain ⟨q, hq⟩ : ∃ q, q = a.hasOrig := ⟨_, rfl⟩
  have HQ6 := Lib.hid hq
  obtain ⟨c0, c1, c2, c3, c4, c5, c6, c7, c8, c9, c10, c11, c12, c13, c14, c15⟩ := atr_cells HC.out
  rw [← hq] at c13
  clear hq
  go_upto_if 107 with fail
  go_cut [8] (fun v wx => ∃ (A2 : Option Addr) (n2 c2 : Nat), v = .slice A2 n2 c2 ∧ n2 ≤ 9 ∧ Hid (RawsO wx (w.heap.size + 1) A2 n2 c2 (L7 ++ optR q 128 9 (bts (beB a.orig 4 4)))) ∧ Hid (CellsAt wx w.heap.size a.ar 40) ∧ Hid (Below w.heap.size w wx))
  case first =>
    as_aux_lemma =>
      cases q with
      | false =>
        go_wp2_with fail
        go_meet
        exact ⟨A, n, c, rfl, by omega, by rw [optR_no]; exact HO.out, HC.out, HB.out⟩
      | true =>
        have HCu := HC
        have HBu := HB
        have HOu := HO
        clear HC HB HO
        have HNk : Hid (∀ W, Calls Tryz.prog 31 #[.int .u64 (a.orig : Nat), .int .i64 4] W fun e w' => e = .returned (.string (bts (beB a.orig 4 4))) ∧ Below W.heap.size W w') := fun W => HNUM.out a.orig 4 W (by decide) (by decide) (by omega) (by omega)
        have zw : IntKind.u64.wrap ((a.orig : Nat) : Int) = ((a.orig : Nat) : Int) := IntWalk.u64_in _ (by omega)
        go_wp2_with fail
        refine (HNk.out _).mono ?_
        rintro e U ⟨rfl, hb⟩
        have HCn : Hid (CellsAt U w.heap.size a.ar 40) := HCu.out.below hb HCu.out.lt
        have HBn : Hid (Below w.heap.size w U) := HBu.out.trans (hb.mono HBu.out.size)
        have HOn : Hid (RawsO U (w.heap.size + 1) A n c L7) := HOu.out.below hb
        clear hb HCu HBu HOu
        have HCu := HCn
        have HBu := HBn
        have HOu := HOn
        clear HCn HBn HOn
        clear c0 c1 c2 c3 c4 c5 c6 c7 c8 c9 c10 c11 c12 c13 c14 c15 HNk zw
        have HCP : Hid (CellsAt (U.alloc (.cells #[.int .u8 128, .int .u8 9, .string (bts (beB a.orig 4 4))] 32)) U.heap.size #[.int .u8 128, .int .u8 9, .string (bts (beB a.orig 4 4))] 32) := CellsAt.new _ _ _
        have HOP : Hid (RawsO (U.alloc (.cells #[.int .u8 128, .int .u8 9, .string (bts (beB a.orig 4 4))] 32)) (w.heap.size + 1) A n c L7) := HOu.out.below ((Below.refl _ _).alloc (Nat.le_refl _) _)
        have HCQ : Hid (CellsAt (U.alloc (.cells #[.int .u8 128, .int .u8 9, .string (bts (beB a.orig 4 4))] 32)) w.heap.size a.ar 40) := HCu.out.alloc _
        have HBQ : Hid (Below w.heap.size w (U.alloc (.cells #[.int .u8 128, .int .u8 9, .string (bts (beB a.orig 4 4))] 32))) := HBu.out.alloc HBu.out.size _
        have hbq : w.heap.size + 1 ≤ (U.alloc (.cells #[.int .u8 128, .int .u8 9, .string (bts (beB a.orig 4 4))] 32)).heap.size := by have := HCQ.out.lt; omega
        have HBS := Lib.hid hbq
        clear hbq HCu HBu HOu
        go_wp2_with (at_builtin; refine wpList_push_raw rfl (.tmp 108) (.tmp 114) rfl A n c rfl U.heap.size rfl 128 9 128 9 rfl rfl (bts (beB a.orig 4 4)) (w.heap.size + 1) L7 HOP HCP HBS.out (by omega) ?_)
        intro A9 c9 U9 HO9 HB9
        have HC9 : Hid (CellsAt U9 w.heap.size a.ar 40) := HCQ.out.below HB9.out (by omega)
        have HB9b : Hid (Below w.heap.size w U9) := HBQ.out.trans (HB9.out.mono (by omega))
        clear HB9 HCP HOP HCQ HBQ HBS
        go_wp2_with fail
        go_meet
        exact ⟨A9, n + 1, c9, rfl, by omega, HO9.out, HC9.out, HB9b.out⟩
  case rest =>
  clear HO HC HB c0 c1 c2 c3 c4 c5 c6 c7 c8 c9 c10 c11 c12 c13 c14 c15 hn
  obtain ⟨A, n, c, rfl, hn, HO, HC, HB⟩ := hcut
  obtain ⟨L8, hL⟩ : ∃ MM, MM = L7 ++ optR q 128 9 (bts (beB a.orig 4 4)) := ⟨_, rfl⟩
  rw [← hL] at HO
  have HL8 : Hid (L8 = L7 ++ optR (a.hasOrig) 128 9 (bts (beB a.orig 4 4))) := by show _ = _; rw [hL, HQ6.out]
  have HLp6 : Hid (L7 = L7) := rfl
  clear hL HQ6 HLp6
  -- clus
  obtain ⟨q, hq⟩ : ∃ q, q = decide (0 < a.clus.length) := ⟨_, rfl⟩
  have zq : decide (0 < a.clus.length) = q := hq.symm
  have zq2 : decide ((0 : Int) < ((a.clus.length : Nat) : Int)) = q := by rw [hq]; exact pos_dec _
  have HQ7 := Lib.hid hq
  obtain ⟨c0, c1, c2, c3, c4, c5, c6, c7, c8, c9, c10, c11, c12, c13, c14, c15⟩ := atr_cells HC.out
  clear hq
  go_upto_if 119 with fail
  go_cut [8] (fun v wx => ∃ (A2 : Option Addr) (n2 c2 : Nat), v = .slice A2 n2 c2 ∧ n2 ≤ 10 ∧ Hid (RawsO wx (w.heap.size + 1) A2 n2 c2 (L8 ++ optR q 128 10 (bts (wordsB a.clus)))) ∧ Hid (CellsAt wx w.heap.size a.ar 40) ∧ Hid (Below w.heap.size w wx))
  case first =>
    as_aux_lemma =>
      cases q with
      | false =>
        go_wp2_with fail
        go_meet
        exact ⟨A, n, c, rfl, by omega, by rw [optR_no]; exact HO.out, HC.out, HB.out⟩
      | true =>
        have HCu := HC
        have HBu := HB
        have HOu := HO
        clear HC HB HO
        have HRa := Lib.hid (HA.out.below HBu.out (Nat.le_refl _))
        go_wp2_with fail
        refine (HWD.out a.kA a.kC a.clus _ HRa.out.krd HRa.out.klen HRa.out.kcap HRa.out.kfit (by omega)).mono ?_
        rintro e U ⟨rfl, hb⟩
        have HCn : Hid (CellsAt U w.heap.size a.ar 40) := HCu.out.below hb HCu.out.lt
        have HBn : Hid (Below w.heap.size w U) := HBu.out.trans (hb.mono HBu.out.size)
        have HOn : Hid (RawsO U (w.heap.size + 1) A n c L8) := HOu.out.below hb
        clear hb HCu HBu HOu
        have HCu := HCn
        have HBu := HBn
        have HOu := HOn
        clear HCn HBn HOn
        clear c0 c1 c2 c3 c4 c5 c6 c7 c8 c9 c10 c11 c12 c13 c14 c15 HRa
        have HCP : Hid (CellsAt (U.alloc (.cells #[.int .u8 128, .int .u8 10, .string (bts (wordsB a.clus))] 32)) U.heap.size #[.int .u8 128, .int .u8 10, .string (bts (wordsB a.clus))] 32) := CellsAt.new _ _ _
        have HOP : Hid (RawsO (U.alloc (.cells #[.int .u8 128, .int .u8 10, .string (bts (wordsB a.clus))] 32)) (w.heap.size + 1) A n c L8) := HOu.out.below ((Below.refl _ _).alloc (Nat.le_refl _) _)
        have HCQ : Hid (CellsAt (U.alloc (.cells #[.int .u8 128, .int .u8 10, .string (bts (wordsB a.clus))] 32)) w.heap.size a.ar 40) := HCu.out.alloc _
        have HBQ : Hid (Below w.heap.size w (U.alloc (.cells #[.int .u8 128, .int .u8 10, .string (bts (wordsB a.clus))] 32))) := HBu.out.alloc HBu.out.size _
        have hbq : w.heap.size + 1 ≤ (U.alloc (.cells #[.int .u8 128, .int .u8 10, .string (bts (wordsB a.clus))] 32)).heap.size := by have := HCQ.out.lt; omega
        have HBS := Lib.hid hbq
        clear hbq HCu HBu HOu
        go_wp2_with (at_builtin; refine wpList_push_raw rfl (.tmp 120) (.tmp 125) rfl A n c rfl U.heap.size rfl 128 10 128 10 rfl rfl (bts (wordsB a.clus)) (w.heap.size + 1) L8 HOP HCP HBS.out (by omega) ?_)
        intro A9 c9 U9 HO9 HB9
        have HC9 : Hid (CellsAt U9 w.heap.size a.ar 40) := HCQ.out.below HB9.out (by omega)
        have HB9b : Hid (Below w.heap.size w U9) := HBQ.out.trans (HB9.out.mono (by omega))
        clear HB9 HCP HOP HCQ HBQ HBS
        go_wp2_with fail
        go_meet
        exact ⟨A9, n + 1, c9, rfl, by omega, HO9.out, HC9.out, HB9b.out⟩
  case rest =>
  clear HO HC HB c0 c1 c2 c3 c4 c5 c6 c7 c8 c9 c10 c11 c12 c13 c14 c15 zq zq2 hn
  obtain ⟨A, n, c, rfl, hn, HO, HC, HB⟩ := hcut
  obtain ⟨L9, hL⟩ : ∃ MM, MM = L8 ++ optR q 128 10 (bts (wordsB a.clus)) := ⟨_, rfl⟩
  rw [← hL] at HO
  have HL9 : Hid (L9 = L8 ++ optR (decide (0 < a.clus.length)) 128 10 (bts (wordsB a.clus))) := by show _ = _; rw [hL, HQ7.out]
  have HLp7 : Hid (L8 = L8) := rfl
  clear hL HQ7 HLp7
  -- exts
  obtain ⟨q, hq⟩ : ∃ q, q = decide (0 < a.exts.length) := ⟨_, rfl⟩
  have zq : decide (0 < a.exts.length) = q := hq.symm
  have zq2 : decide ((0 : Int) < ((a.exts.length : Nat) : Int)) = q := by rw [hq]; exact pos_dec _
  have HQ8 := Lib.hid hq
  obtain ⟨c0, c1, c2, c3, c4, c5, c6, c7, c8, c9, c10, c11, c12, c13, c14, c15⟩ := atr_cells HC.out
  clear hq
  go_upto_if 130 with fail
  go_cut [8, 10, 11] (fun v _u _v wx => ∃ (A2 : Option Addr) (n2 c2 : Nat), v = .slice A2 n2 c2 ∧ n2 ≤ 11 ∧ Hid (RawsO wx (w.heap.size + 1) A2 n2 c2 (L9 ++ optR q 192 16 (bts (extsB a.exts)))) ∧ Hid (CellsAt wx w.heap.size a.ar 40) ∧ Hid (Below w.heap.size w wx))
  case first =>
    as_aux_lemma =>
      cases q with
      | false =>
        go_wp2_with fail
        go_meet
        exact ⟨A, n, c, rfl, by omega, by rw [optR_no]; exact HO.out, HC.out, HB.out⟩
      | true =>
        have HCu := HC
        have HBu := HB
        have HOu := HO
        clear HC HB HO
        have HO0 := HOu
        have HC0 := HCu
        have HB0 := HBu
        have hsw := HBu.out.size
        have hll := (HA.out.xlen)
        have hlc : a.xC ≤ 9223372036854775807 := HA.out.xcap
        clear HCu HBu HOu
        go_wp2_with fail
        clear c0 c1 c2 c3 c4 c5 c6 c7 c8 c9 c10 c11 c12 c13 c14 c15
        go_loopw [10, 11] (fun sv i wr => ∃ k : Nat, k ≤ a.exts.length ∧ sv = .string (bts (extsB (a.exts.take k))) ∧ i = .int .i64 k ∧ Hid (Below wc.heap.size wc wr)) (fun _ i _ => a.exts.length + 1 - (intOf i).toNat)
        case atStart => exact ⟨0, by omega, rfl, rfl, Below.refl _ _⟩
        case round =>
          obtain ⟨k, hk, rfl, rfl, HBk⟩ := hrel
          have HCu : Hid (CellsAt wr w.heap.size a.ar 40) := HC0.out.below HBk.out HC0.out.lt
          have HBu : Hid (Below w.heap.size w wr) := HB0.out.trans (HBk.out.mono hsw)
          have HOu : Hid (RawsO wr (w.heap.size + 1) A n c L9) := HO0.out.below HBk.out
          obtain ⟨c0, c1, c2, c3, c4, c5, c6, c7, c8, c9, c10, c11, c12, c13, c14, c15⟩ := atr_cells HCu.out
          by_cases hlt : k < a.exts.length
          · obtain ⟨x, hx⟩ : ∃ x, a.exts[k]? = some x := ⟨a.exts[k], List.getElem?_eq_getElem hlt⟩
            obtain ⟨b, off, hA1, hb1, q0⟩ := num_at ((HA.out.below HBu.out (Nat.le_refl _)).xrd) hx
            have hxf := HA.out.xfit x (List.mem_of_getElem? hx)
            rw [hA1] at c11
            have HT := Lib.hid (exts_take hx)
            have hbl : (extsB (a.exts.take k)).length = 8 * k := by rw [exts_len, List.length_take]; omega
            obtain ⟨s1, hs1⟩ : ∃ s, s = bts (extsB (a.exts.take k)) := ⟨_, rfl⟩
            obtain ⟨s2, hs2⟩ : ∃ s, s = bts (beB x 8 8) := ⟨_, rfl⟩
            have HEQ : Hid (s1 ++ s2 = bts (extsB (a.exts.take (k + 1)))) := by show _ = _; rw [hs1, hs2, bts_app, HT.out]
            have g1 : ¬ (9223372036854775807 < s1.size + s2.size) := by rw [hs1, hs2, bts_size, bts_size, beB_len, hbl]; omega
            have HNk : Hid (∀ W, Calls Tryz.prog 31 #[.int .u64 (x : Nat), .int .i64 8] W fun e w' => e = .returned (.string s2) ∧ Below W.heap.size W w') := fun W => by rw [hs2]; exact HNUM.out x 8 W (by decide) (by decide) (by omega) (by omega)
            rw [← hs1]
            clear hs1 hs2 hbl hx hA1 HNUM
            go_wp2_with fail
            refine (HNk.out _).mono ?_
            rintro e U ⟨rfl, hb⟩
            have HBn : Hid (Below wc.heap.size wc U) := HBk.out.trans (hb.mono HBk.out.size)
            clear hb c0 c1 c2 c3 c4 c5 c6 c7 c8 c9 c10 c11 c12 c13 c14 c15 q0
            go_wp2_with fail
            exact ⟨⟨k + 1, by omega, by rw [← HEQ.out], by go_num, HBn.out⟩, by simp [intOf]; omega⟩
          · obtain rfl : k = a.exts.length := by omega
            rw [List.take_length]
            have HCP : Hid (CellsAt (wr.alloc (.cells #[.int .u8 192, .int .u8 16, .string (bts (extsB a.exts))] 32)) wr.heap.size #[.int .u8 192, .int .u8 16, .string (bts (extsB a.exts))] 32) := CellsAt.new _ _ _
            have HOP : Hid (RawsO (wr.alloc (.cells #[.int .u8 192, .int .u8 16, .string (bts (extsB a.exts))] 32)) (w.heap.size + 1) A n c L9) := HOu.out.below ((Below.refl _ _).alloc (Nat.le_refl _) _)
            have HCQ : Hid (CellsAt (wr.alloc (.cells #[.int .u8 192, .int .u8 16, .string (bts (extsB a.exts))] 32)) w.heap.size a.ar 40) := HCu.out.alloc _
            have HBQ : Hid (Below w.heap.size w (wr.alloc (.cells #[.int .u8 192, .int .u8 16, .string (bts (extsB a.exts))] 32))) := HBu.out.alloc HBu.out.size _
            have hbq : w.heap.size + 1 ≤ (wr.alloc (.cells #[.int .u8 192, .int .u8 16, .string (bts (extsB a.exts))] 32)).heap.size := by have := HCQ.out.lt; omega
            have HBS := Lib.hid hbq
            clear hbq HCu HBu HOu
            go_wp2_with (at_builtin; refine wpList_push_raw rfl (.tmp 146) (.tmp 149) rfl A n c rfl wr.heap.size rfl 192 16 192 16 rfl rfl (bts (extsB a.exts)) (w.heap.size + 1) L9 HOP HCP HBS.out (by omega) ?_)
            intro A9 c9 U9 HO9 HB9
            have HC9 : Hid (CellsAt U9 w.heap.size a.ar 40) := HCQ.out.below HB9.out (by omega)
            have HB9b : Hid (Below w.heap.size w U9) := HBQ.out.trans (HB9.out.mono (by omega))
            clear HB9 HCP HOP HCQ HBQ HBS
            go_wp2_with fail
            go_meet
            exact ⟨A9, n + 1, c9, rfl, by omega, HO9.out, HC9.out, HB9b.out⟩
  case rest =>
  clear HO HC HB c0 c1 c2 c3 c4 c5 c6 c7 c8 c9 c10 c11 c12 c13 c14 c15 zq zq2 hn
  obtain ⟨A, n, c, rfl, hn, HO, HC, HB⟩ := hcut
  obtain ⟨L10, hL⟩ : ∃ MM, MM = L9 ++ optR q 192 16 (bts (extsB a.exts)) := ⟨_, rfl⟩
  rw [← hL] at HO
  have HL10 : Hid (L10 = L9 ++ optR (decide (0 < a.exts.length)) 192 16 (bts (extsB a.exts))) := by show _ = _; rw [hL, HQ8.out]
  have HLp8 : Hid (L9 = L9) := rfl
  clear hL HQ8 HLp8
  -- larges
  obtain ⟨q, hq⟩ : ∃ q, q = decide (0 < a.larges.length) := ⟨_, rfl⟩
  have zq : decide (0 < a.larges.length) = q := hq.symm
  have zq2 : decide ((0 : Int) < ((a.larges.length : Nat) : Int)) = q := by rw [hq]; exact pos_dec _
  have HQ9 := Lib.hid hq
  obtain ⟨c0, c1, c2, c3, c4, c5, c6, c7, c8, c9, c10, c11, c12, c13, c14, c15⟩ := atr_cells HC.out
  clear hq
  go_upto_if 154 with fail
  go_cut [8, 12, 13] (fun v _u _v wx => ∃ (A2 : Option Addr) (n2 c2 : Nat), v = .slice A2 n2 c2 ∧ n2 ≤ 12 ∧ Hid (RawsO wx (w.heap.size + 1) A2 n2 c2 (L10 ++ optR q 192 32 (bts (largesB a.larges)))) ∧ Hid (CellsAt wx w.heap.size a.ar 40) ∧ Hid (Below w.heap.size w wx))
  case first =>
    as_aux_lemma =>
      cases q with
      | false =>
        go_wp2_with fail
        go_meet
        exact ⟨A, n, c, rfl, by omega, by rw [optR_no]; exact HO.out, HC.out, HB.out⟩
      | true =>
        have HCu := HC
        have HBu := HB
        have HOu := HO
        clear HC HB HO
        have HO0 := HOu
        have HC0 := HCu
        have HB0 := HBu
        have hsw := HBu.out.size
        have hll := (HA.out.llen)
        have hlc : a.lC ≤ 9223372036854775807 := HA.out.lcap
        clear HCu HBu HOu
        go_wp2_with fail
        clear c0 c1 c2 c3 c4 c5 c6 c7 c8 c9 c10 c11 c12 c13 c14 c15
        go_loopw [12, 13] (fun sv i wr => ∃ k : Nat, k ≤ a.larges.length ∧ sv = .string (bts (largesB (a.larges.take k))) ∧ i = .int .i64 k ∧ Hid (Below wc.heap.size wc wr)) (fun _ i _ => a.larges.length + 1 - (intOf i).toNat)
        case atStart => exact ⟨0, by omega, rfl, rfl, Below.refl _ _⟩
        case round =>
          obtain ⟨k, hk, rfl, rfl, HBk⟩ := hrel
          have HCu : Hid (CellsAt wr w.heap.size a.ar 40) := HC0.out.below HBk.out HC0.out.lt
          have HBu : Hid (Below w.heap.size w wr) := HB0.out.trans (HBk.out.mono hsw)
          have HOu : Hid (RawsO wr (w.heap.size + 1) A n c L10) := HO0.out.below HBk.out
          obtain ⟨c0, c1, c2, c3, c4, c5, c6, c7, c8, c9, c10, c11, c12, c13, c14, c15⟩ := atr_cells HCu.out
          by_cases hlt : k < a.larges.length
          · obtain ⟨x, hx⟩ : ∃ x, a.larges[k]? = some x := ⟨a.larges[k], List.getElem?_eq_getElem hlt⟩
            obtain ⟨b, off, hA1, hb1, p0, p1, p2⟩ := lg_at ((HA.out.below HBu.out (Nat.le_refl _)).lrd) hx
            have hxf := HA.out.lfit x (List.mem_of_getElem? hx)
            have HT := Lib.hid (lgs_take hx)
            have HAL := Lib.hid hA1
            clear hA1
            have hbl : (largesB (a.larges.take k)).length = 12 * k := by rw [lgs_len, List.length_take]; omega
            obtain ⟨s1, hs1⟩ : ∃ s, s = bts (largesB (a.larges.take k)) := ⟨_, rfl⟩
            obtain ⟨s2, hs2⟩ : ∃ s, s = bts (wordsB [x.g, x.a, x.b]) := ⟨_, rfl⟩
            have HEQ : Hid (s1 ++ s2 = bts (largesB (a.larges.take (k + 1)))) := by show _ = _; rw [hs1, hs2, bts_app, HT.out]; simp [wordsB]
            have g1 : ¬ (9223372036854775807 < s1.size + s2.size) := by rw [hs1, hs2, bts_size, bts_size, words_len, hbl]; simp; omega
            have HWk : Hid (∀ (W : World) (b : Nat), CellsAt W b #[.int .u32 (x.g : Nat), .int .u32 (x.a : Nat), .int .u32 (x.b : Nat)] 35 → Calls Tryz.prog 63 #[.slice (some ⟨b, 0, none⟩) 3 3] W fun e w' => e = .returned (.string s2) ∧ Below W.heap.size W w') := fun W b hc => by
              rw [hs2]
              exact HWD.out (some ⟨b, 0, none⟩) 3 [x.g, x.a, x.b] W (rd_nums [x.g, x.a, x.b] hc) (Nat.le_refl _) (by decide) (fun n hn => by
                simp only [List.mem_cons, List.not_mem_nil, or_false] at hn
                omega) (by simp)
            rw [← hs1]
            have HSS : Hid (CellsAt (wr.drew) w.heap.size a.ar 40 ∧ LgAt wr.drew b (off + k * 3) x ∧ b < wr.drew.heap.size ∧ Below wc.heap.size wc wr.drew) := ⟨HCu.out.drew 1, LgAt.below ⟨p0, p1, p2⟩ (below_drewN (Below.refl _ _) 1) hb1, hb1, below_drewN HBk.out 1⟩
            have HS2 : Hid (CellsAt (wr.drew.alloc (.cells #[.int .u32 (x.g : Nat), .int .u32 (x.a : Nat), .int .u32 (x.b : Nat)] 35)) w.heap.size a.ar 40 ∧ LgAt (wr.drew.alloc (.cells #[.int .u32 (x.g : Nat), .int .u32 (x.a : Nat), .int .u32 (x.b : Nat)] 35)) b (off + k * 3) x ∧ b < (wr.drew.alloc (.cells #[.int .u32 (x.g : Nat), .int .u32 (x.a : Nat), .int .u32 (x.b : Nat)] 35)).heap.size ∧ Below wc.heap.size wc (wr.drew.alloc (.cells #[.int .u32 (x.g : Nat), .int .u32 (x.a : Nat), .int .u32 (x.b : Nat)] 35))) := ⟨HSS.out.1.alloc _, HSS.out.2.1.below ((Below.refl _ _).alloc (Nat.le_refl _) _) HSS.out.2.2.1, Nat.lt_of_lt_of_le HSS.out.2.2.1 ((Below.refl wr.drew.heap.size wr.drew).alloc (Nat.le_refl _) _).size, HSS.out.2.2.2.alloc HSS.out.2.2.2.size _⟩
            have HCB : Hid (CellsAt (wr.drew.alloc (.cells #[.int .u32 (x.g : Nat), .int .u32 (x.a : Nat), .int .u32 (x.b : Nat)] 35)) wr.heap.size #[.int .u32 (x.g : Nat), .int .u32 (x.a : Nat), .int .u32 (x.b : Nat)] 35) := CellsAt.new wr.drew _ _
            have hk0 : 0 ≤ (k : Int) := by omega
            clear hs1 hs2 hbl hx HNUM HWD
            go_upto_region 38 with fail
            clear c0 c1 c2 c3 c4 c5 c6 c7 c8 c9 c10 c11 c12 c13 c14 c15 p0 p1 p2
            refine wp_region_held_drew (S := fun w' => CellsAt w' w.heap.size a.ar 40 ∧ LgAt w' b (off + k * 3) x ∧ b < w'.heap.size ∧ Below wc.heap.size wc w') (by kernel_rfl) (HSS.out) (fun hHeld => ?_)
            refine wpAnyH_take (i := 0) (oi := { dst := some 162, op := Op.move (Operand.tmp 12), type := 9, pos := "ref.go:151", after := #[], guard := none }) (v := ?_) rfl (by kernel_rfl) (by kernel_rfl) (by kernel_rfl) (fun _ _ _ h => h) (Or.inl ⟨by rfl, ?_⟩) hHeld ?_
            rotate_left
            · intro w hSw
              clear hSw
              go_simp
              try with_reducible rfl
            try simp only [Act.put, List.setIfInBounds_toArray, List.set_cons_zero, List.set_cons_succ]
            refine wpAnyH_take (i := 1) (oi := { dst := some 163, op := Op.fieldAddr 40 (Operand.tmp 2) 12, type := 0, pos := "ref.go:151", after := #[], guard := none }) (v := ?_) rfl (by kernel_rfl) (by kernel_rfl) (by kernel_rfl) (fun _ _ _ h => h) (Or.inl ⟨by rfl, ?_⟩) hHeld ?_
            rotate_left
            · intro w hSw
              clear hSw
              go_simp
              try with_reducible rfl
            try simp only [Act.put, List.setIfInBounds_toArray, List.set_cons_zero, List.set_cons_succ]
            refine wpAnyH_take (i := 2) (oi := { dst := some 164, op := Op.load 38 (Operand.tmp 163), type := 38, pos := "ref.go:151", after := #[{ on := 1, ground := Ground.data }], guard := none }) (v := ?_) rfl (by kernel_rfl) (by kernel_rfl) (by kernel_rfl) (fun _ _ _ h => h) (Or.inl ⟨by rfl, ?_⟩) hHeld ?_
            rotate_left
            · intro w hSw
              obtain ⟨hca, ⟨p0, p1, p2⟩, _, _⟩ := hSw
              obtain ⟨c0, c1, c2, c3, c4, c5, c6, c7, c8, c9, c10, c11, c12, c13, c14, c15⟩ := atr_cells hca
              rw [HAL.out] at c12
              go_simp
              try with_reducible rfl
            try simp only [Act.put, List.setIfInBounds_toArray, List.set_cons_zero, List.set_cons_succ]
            refine wpAnyH_take (i := 3) (oi := { dst := some 165, op := Op.move (Operand.tmp 13), type := 3, pos := "ref.go:151", after := #[], guard := none }) (v := ?_) rfl (by kernel_rfl) (by kernel_rfl) (by kernel_rfl) (fun _ _ _ h => h) (Or.inl ⟨by rfl, ?_⟩) hHeld ?_
            rotate_left
            · intro w hSw
              clear hSw
              go_simp
              try with_reducible rfl
            try simp only [Act.put, List.setIfInBounds_toArray, List.set_cons_zero, List.set_cons_succ]
            refine wpAnyH_take (i := 4) (oi := { dst := some 166, op := Op.indexAddr 38 (Operand.tmp 164) (Operand.tmp 165), type := 0, pos := "ref.go:151", after := #[{ on := 2, ground := Ground.data }, { on := 3, ground := Ground.data }], guard := none }) (v := ?_) rfl (by kernel_rfl) (by kernel_rfl) (by kernel_rfl) (fun _ _ _ h => h) (Or.inl ⟨by rfl, ?_⟩) hHeld ?_
            rotate_left
            · intro w hSw
              clear hSw
              go_simp
              try with_reducible rfl
            try simp only [Act.put, List.setIfInBounds_toArray, List.set_cons_zero, List.set_cons_succ]
            refine wpAnyH_take (i := 5) (oi := { dst := some 167, op := Op.fieldAddr 59 (Operand.tmp 166) 0, type := 0, pos := "ref.go:151", after := #[{ on := 4, ground := Ground.data }], guard := none }) (v := ?_) rfl (by kernel_rfl) (by kernel_rfl) (by kernel_rfl) (fun _ _ _ h => h) (Or.inl ⟨by rfl, ?_⟩) hHeld ?_
            rotate_left
            · intro w hSw
              clear hSw
              go_simp
              try with_reducible rfl
            try simp only [Act.put, List.setIfInBounds_toArray, List.set_cons_zero, List.set_cons_succ]
            refine wpAnyH_take (i := 6) (oi := { dst := some 168, op := Op.load 35 (Operand.tmp 167), type := 35, pos := "ref.go:151", after := #[{ on := 5, ground := Ground.data }], guard := none }) (v := ?_) rfl (by kernel_rfl) (by kernel_rfl) (by kernel_rfl) (fun _ _ _ h => h) (Or.inl ⟨by rfl, ?_⟩) hHeld ?_
            rotate_left
            · intro w hSw
              obtain ⟨hca, ⟨p0, p1, p2⟩, _, _⟩ := hSw
              obtain ⟨c0, c1, c2, c3, c4, c5, c6, c7, c8, c9, c10, c11, c12, c13, c14, c15⟩ := atr_cells hca
              rw [HAL.out] at c12
              go_simp
              try with_reducible rfl
            try simp only [Act.put, List.setIfInBounds_toArray, List.set_cons_zero, List.set_cons_succ]
            refine wpAnyH_take (i := 7) (oi := { dst := some 169, op := Op.fieldAddr 40 (Operand.tmp 2) 12, type := 0, pos := "ref.go:151", after := #[], guard := none }) (v := ?_) rfl (by kernel_rfl) (by kernel_rfl) (by kernel_rfl) (fun _ _ _ h => h) (Or.inl ⟨by rfl, ?_⟩) hHeld ?_
            rotate_left
            · intro w hSw
              clear hSw
              go_simp
              try with_reducible rfl
            try simp only [Act.put, List.setIfInBounds_toArray, List.set_cons_zero, List.set_cons_succ]
            refine wpAnyH_take (i := 8) (oi := { dst := some 170, op := Op.load 38 (Operand.tmp 169), type := 38, pos := "ref.go:151", after := #[{ on := 7, ground := Ground.data }], guard := none }) (v := ?_) rfl (by kernel_rfl) (by kernel_rfl) (by kernel_rfl) (fun _ _ _ h => h) (Or.inl ⟨by rfl, ?_⟩) hHeld ?_
            rotate_left
            · intro w hSw
              obtain ⟨hca, ⟨p0, p1, p2⟩, _, _⟩ := hSw
              obtain ⟨c0, c1, c2, c3, c4, c5, c6, c7, c8, c9, c10, c11, c12, c13, c14, c15⟩ := atr_cells hca
              rw [HAL.out] at c12
              go_simp
              try with_reducible rfl
            try simp only [Act.put, List.setIfInBounds_toArray, List.set_cons_zero, List.set_cons_succ]
            refine wpAnyH_take (i := 9) (oi := { dst := some 171, op := Op.move (Operand.tmp 13), type := 3, pos := "ref.go:151", after := #[], guard := none }) (v := ?_) rfl (by kernel_rfl) (by kernel_rfl) (by kernel_rfl) (fun _ _ _ h => h) (Or.inl ⟨by rfl, ?_⟩) hHeld ?_
            rotate_left
            · intro w hSw
              clear hSw
              go_simp
              try with_reducible rfl
            try simp only [Act.put, List.setIfInBounds_toArray, List.set_cons_zero, List.set_cons_succ]
            refine wpAnyH_take (i := 10) (oi := { dst := some 172, op := Op.indexAddr 38 (Operand.tmp 170) (Operand.tmp 171), type := 0, pos := "ref.go:151", after := #[{ on := 8, ground := Ground.data }, { on := 9, ground := Ground.data }], guard := none }) (v := ?_) rfl (by kernel_rfl) (by kernel_rfl) (by kernel_rfl) (fun _ _ _ h => h) (Or.inl ⟨by rfl, ?_⟩) hHeld ?_
            rotate_left
            · intro w hSw
              clear hSw
              go_simp
              try with_reducible rfl
            try simp only [Act.put, List.setIfInBounds_toArray, List.set_cons_zero, List.set_cons_succ]
            refine wpAnyH_take (i := 11) (oi := { dst := some 173, op := Op.fieldAddr 59 (Operand.tmp 172) 1, type := 0, pos := "ref.go:151", after := #[{ on := 10, ground := Ground.data }], guard := none }) (v := ?_) rfl (by kernel_rfl) (by kernel_rfl) (by kernel_rfl) (fun _ _ _ h => h) (Or.inl ⟨by rfl, ?_⟩) hHeld ?_
            rotate_left
            · intro w hSw
              clear hSw
              go_simp
              try with_reducible rfl
            try simp only [Act.put, List.setIfInBounds_toArray, List.set_cons_zero, List.set_cons_succ]
            refine wpAnyH_take (i := 12) (oi := { dst := some 174, op := Op.load 35 (Operand.tmp 173), type := 35, pos := "ref.go:151", after := #[{ on := 11, ground := Ground.data }], guard := none }) (v := ?_) rfl (by kernel_rfl) (by kernel_rfl) (by kernel_rfl) (fun _ _ _ h => h) (Or.inl ⟨by rfl, ?_⟩) hHeld ?_
            rotate_left
            · intro w hSw
              obtain ⟨hca, ⟨p0, p1, p2⟩, _, _⟩ := hSw
              obtain ⟨c0, c1, c2, c3, c4, c5, c6, c7, c8, c9, c10, c11, c12, c13, c14, c15⟩ := atr_cells hca
              rw [HAL.out] at c12
              go_simp
              try with_reducible rfl
            try simp only [Act.put, List.setIfInBounds_toArray, List.set_cons_zero, List.set_cons_succ]
            refine wpAnyH_take (i := 13) (oi := { dst := some 175, op := Op.fieldAddr 40 (Operand.tmp 2) 12, type := 0, pos := "ref.go:151", after := #[], guard := none }) (v := ?_) rfl (by kernel_rfl) (by kernel_rfl) (by kernel_rfl) (fun _ _ _ h => h) (Or.inl ⟨by rfl, ?_⟩) hHeld ?_
            rotate_left
            · intro w hSw
              clear hSw
              go_simp
              try with_reducible rfl
            try simp only [Act.put, List.setIfInBounds_toArray, List.set_cons_zero, List.set_cons_succ]
            refine wpAnyH_take (i := 14) (oi := { dst := some 176, op := Op.load 38 (Operand.tmp 175), type := 38, pos := "ref.go:151", after := #[{ on := 13, ground := Ground.data }], guard := none }) (v := ?_) rfl (by kernel_rfl) (by kernel_rfl) (by kernel_rfl) (fun _ _ _ h => h) (Or.inl ⟨by rfl, ?_⟩) hHeld ?_
            rotate_left
            · intro w hSw
              obtain ⟨hca, ⟨p0, p1, p2⟩, _, _⟩ := hSw
              obtain ⟨c0, c1, c2, c3, c4, c5, c6, c7, c8, c9, c10, c11, c12, c13, c14, c15⟩ := atr_cells hca
              rw [HAL.out] at c12
              go_simp
              try with_reducible rfl
            try simp only [Act.put, List.setIfInBounds_toArray, List.set_cons_zero, List.set_cons_succ]
            refine wpAnyH_take (i := 15) (oi := { dst := some 177, op := Op.move (Operand.tmp 13), type := 3, pos := "ref.go:151", after := #[], guard := none }) (v := ?_) rfl (by kernel_rfl) (by kernel_rfl) (by kernel_rfl) (fun _ _ _ h => h) (Or.inl ⟨by rfl, ?_⟩) hHeld ?_
            rotate_left
            · intro w hSw
              clear hSw
              go_simp
              try with_reducible rfl
            try simp only [Act.put, List.setIfInBounds_toArray, List.set_cons_zero, List.set_cons_succ]
            refine wpAnyH_take (i := 16) (oi := { dst := some 178, op := Op.indexAddr 38 (Operand.tmp 176) (Operand.tmp 177), type := 0, pos := "ref.go:151", after := #[{ on := 14, ground := Ground.data }, { on := 15, ground := Ground.data }], guard := none }) (v := ?_) rfl (by kernel_rfl) (by kernel_rfl) (by kernel_rfl) (fun _ _ _ h => h) (Or.inl ⟨by rfl, ?_⟩) hHeld ?_
            rotate_left
            · intro w hSw
              clear hSw
              go_simp
              try with_reducible rfl
            try simp only [Act.put, List.setIfInBounds_toArray, List.set_cons_zero, List.set_cons_succ]
            refine wpAnyH_take (i := 17) (oi := { dst := some 179, op := Op.fieldAddr 59 (Operand.tmp 178) 2, type := 0, pos := "ref.go:151", after := #[{ on := 16, ground := Ground.data }], guard := none }) (v := ?_) rfl (by kernel_rfl) (by kernel_rfl) (by kernel_rfl) (fun _ _ _ h => h) (Or.inl ⟨by rfl, ?_⟩) hHeld ?_
            rotate_left
            · intro w hSw
              clear hSw
              go_simp
              try with_reducible rfl
            try simp only [Act.put, List.setIfInBounds_toArray, List.set_cons_zero, List.set_cons_succ]
            refine wpAnyH_take (i := 18) (oi := { dst := some 180, op := Op.load 35 (Operand.tmp 179), type := 35, pos := "ref.go:151", after := #[{ on := 17, ground := Ground.data }], guard := none }) (v := ?_) rfl (by kernel_rfl) (by kernel_rfl) (by kernel_rfl) (fun _ _ _ h => h) (Or.inl ⟨by rfl, ?_⟩) hHeld ?_
            rotate_left
            · intro w hSw
              obtain ⟨hca, ⟨p0, p1, p2⟩, _, _⟩ := hSw
              obtain ⟨c0, c1, c2, c3, c4, c5, c6, c7, c8, c9, c10, c11, c12, c13, c14, c15⟩ := atr_cells hca
              rw [HAL.out] at c12
              go_simp
              try with_reducible rfl
            try simp only [Act.put, List.setIfInBounds_toArray, List.set_cons_zero, List.set_cons_succ]
            refine wpAnyH_ready (rs := [19]) (by kernel_rfl) (by simp) ?_
            refine AllReadyH.cons (o := { dst := some 181, op := Op.buildSlice 36 3 #[(0, Operand.tmp 168), (1, Operand.tmp 174), (2, Operand.tmp 180)], type := 36, pos := "ref.go:151", after := #[{ on := 6, ground := Ground.data }, { on := 12, ground := Ground.data }, { on := 18, ground := Ground.data }], guard := none }) rfl (fun K hK => ?_) AllReadyH.nil
            go_simp
            clear hHeld
            refine hK.out _ _ (HS2.out) (fun hHeld => ?_)
            clear hK K
            try simp only [Act.put, List.setIfInBounds_toArray, List.set_cons_zero, List.set_cons_succ]
            refine wpAnyH_ready (rs := [20]) (by kernel_rfl) (by simp) ?_
            refine AllReadyH.cons (o := { dst := some 182, op := Op.call { callee := Callee.value (Operand.func 63), args := #[Operand.tmp 181], argTypes := #[36] }, type := 9, pos := "ref.go:151", after := #[{ on := 19, ground := Ground.data }], guard := none }) rfl (fun K hK => ?_) AllReadyH.nil
            go_simp
            refine (HWk.out _ _ HCB.out).mono ?_
            rintro e U ⟨rfl, hb⟩
            have HS1 := Lib.hid hHeld
            refine hK.out _ _ (⟨HS1.out.1.below hb HS1.out.1.lt, HS1.out.2.1.below hb HS1.out.2.2.1, Nat.lt_of_lt_of_le HS1.out.2.2.1 hb.size, HS1.out.2.2.2.trans (hb.mono HS1.out.2.2.2.size)⟩) (fun hHeld => ?_)
            clear hK K
            try simp only [Act.put, List.setIfInBounds_toArray, List.set_cons_zero, List.set_cons_succ]
            refine wpAnyH_take (i := 21) (oi := { dst := some 183, op := Op.binOp BinOp.add 9 (Operand.tmp 162) (Operand.tmp 182) 9, type := 9, pos := "ref.go:151", after := #[{ on := 0, ground := Ground.data }, { on := 20, ground := Ground.data }], guard := none }) (v := ?_) rfl (by kernel_rfl) (by kernel_rfl) (by kernel_rfl) (fun _ _ _ h => h) (Or.inl ⟨by rfl, ?_⟩) hHeld ?_
            rotate_left
            · intro w hSw
              clear hSw
              go_simp
              try with_reducible rfl
            try simp only [Act.put, List.setIfInBounds_toArray, List.set_cons_zero, List.set_cons_succ]
            refine wpAnyH_take (i := 22) (oi := { dst := some 12, op := Op.assign (Operand.tmp 183), type := 9, pos := "ref.go:151", after := #[{ on := 21, ground := Ground.data }, { on := 20, ground := Ground.chain }, { on := 0, ground := Ground.phase }, { on := 1, ground := Ground.phase }, { on := 2, ground := Ground.phase }, { on := 3, ground := Ground.phase }, { on := 4, ground := Ground.phase }, { on := 5, ground := Ground.phase }, { on := 6, ground := Ground.phase }, { on := 7, ground := Ground.phase }, { on := 8, ground := Ground.phase }, { on := 9, ground := Ground.phase }, { on := 10, ground := Ground.phase }, { on := 11, ground := Ground.phase }, { on := 12, ground := Ground.phase }, { on := 13, ground := Ground.phase }, { on := 14, ground := Ground.phase }, { on := 15, ground := Ground.phase }, { on := 16, ground := Ground.phase }, { on := 17, ground := Ground.phase }, { on := 18, ground := Ground.phase }, { on := 19, ground := Ground.phase }, { on := 20, ground := Ground.phase }, { on := 21, ground := Ground.phase }], guard := none }) (v := ?_) rfl (by kernel_rfl) (by kernel_rfl) (by kernel_rfl) (fun _ _ _ h => h) (Or.inl ⟨by rfl, ?_⟩) hHeld ?_
            rotate_left
            · intro w hSw
              clear hSw
              go_simp
              try with_reducible rfl
            try simp only [Act.put, List.setIfInBounds_toArray, List.set_cons_zero, List.set_cons_succ]
            refine wpAnyH_done (by kernel_rfl) ?_ _
            have HE := Lib.hid hHeld
            clear hHeld
            go_wp2_with fail
            exact ⟨⟨k + 1, by omega, by rw [← HEQ.out], by go_num, HE.out.2.2.2⟩, by simp [intOf]; omega⟩
          · obtain rfl : k = a.larges.length := by omega
            rw [List.take_length]
            have HCP : Hid (CellsAt (wr.alloc (.cells #[.int .u8 192, .int .u8 32, .string (bts (largesB a.larges))] 32)) wr.heap.size #[.int .u8 192, .int .u8 32, .string (bts (largesB a.larges))] 32) := CellsAt.new _ _ _
            have HOP : Hid (RawsO (wr.alloc (.cells #[.int .u8 192, .int .u8 32, .string (bts (largesB a.larges))] 32)) (w.heap.size + 1) A n c L10) := HOu.out.below ((Below.refl _ _).alloc (Nat.le_refl _) _)
            have HCQ : Hid (CellsAt (wr.alloc (.cells #[.int .u8 192, .int .u8 32, .string (bts (largesB a.larges))] 32)) w.heap.size a.ar 40) := HCu.out.alloc _
            have HBQ : Hid (Below w.heap.size w (wr.alloc (.cells #[.int .u8 192, .int .u8 32, .string (bts (largesB a.larges))] 32))) := HBu.out.alloc HBu.out.size _
            have hbq : w.heap.size + 1 ≤ (wr.alloc (.cells #[.int .u8 192, .int .u8 32, .string (bts (largesB a.larges))] 32)).heap.size := by have := HCQ.out.lt; omega
            have HBS := Lib.hid hbq
            clear hbq HCu HBu HOu
            go_wp2_with (at_builtin; refine wpList_push_raw rfl (.tmp 184) (.tmp 187) rfl A n c rfl wr.heap.size rfl 192 32 192 32 rfl rfl (bts (largesB a.larges)) (w.heap.size + 1) L10 HOP HCP HBS.out (by omega) ?_)
            intro A9 c9 U9 HO9 HB9
            have HC9 : Hid (CellsAt U9 w.heap.size a.ar 40) := HCQ.out.below HB9.out (by omega)
            have HB9b : Hid (Below w.heap.size w U9) := HBQ.out.trans (HB9.out.mono (by omega))
            clear HB9 HCP HOP HCQ HBQ HBS
            go_wp2_with fail
            go_meet
            exact ⟨A9, n + 1, c9, rfl, by omega, HO9.out, HC9.out, HB9b.out⟩
  case rest =>
  clear HO HC HB c0 c1 c2 c3 c4 c5 c6 c7 c8 c9 c10 c11 c12 c13 c14 c15 zq zq2 hn
  obtain ⟨A, n, c, rfl, hn, HO, HC, HB⟩ := hcut
  obtain ⟨L11, hL⟩ : ∃ MM, MM = L10 ++ optR q 192 32 (bts (largesB a.larges)) := ⟨_, rfl⟩
  rw [← hL] at HO
  have HL11 : Hid (L11 = L10 ++ optR (decide (0 < a.larges.length)) 192 32 (bts (largesB a.larges))) := by show _ = _; rw [hL, HQ9.out]
  have HLp9 : Hid (L10 = L10) := rfl
  clear hL HQ9 HLp9
  go_wp2_with fail
  go_ret2
  refine ⟨⟨.slice A n c, rfl, ?_⟩, HB.out⟩
  have hw : L11 = writeF a.c four := by
    rw [HL11.out, HL10.out, HL9.out, HL8.out, HL7.out, HL6.out, HL5.out, HL4.out, HL3.out, HL2.out, HL1.out, HL0.out, HSO.out, HSP.out]
    unfold writeF W1 W2 W3 W4
    simp only [optR, if_true, List.append_assoc, List.cons_append, List.nil_append]
    have : a.c.origin.toNat = og := by
      show a.origin.toNat = og
      rw [HOG.out]
      simp
    rw [this]
    rfl
  rw [← hw]
  exact OwnM.lower HO.out.own (by omega)
end Go.Proofs.YtkcojblflebomaaGreat
