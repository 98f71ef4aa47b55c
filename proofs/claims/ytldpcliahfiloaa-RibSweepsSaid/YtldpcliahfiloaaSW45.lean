/-
  Several texts in one.
-/
import Derived.Test.YtldpcliahfiloaaSW43
import Derived.Test.YtldpcliahfiloaaSW44
import Derived.Maps.RangeWalk
import Derived.WalkSpells
import Derived.WalkLawsBesides
import Derived.LoopTactic
set_option linter.unusedVariables false
set_option linter.unusedSimpArgs false
namespace Go.Proofs.Ytldpcliahfiloaa
open Go.RowKit Go.MapKept Go.Shelf
open Go.Lib hiding intOf
open Go.Sort hiding Below
open Go.Maps (Keyed)

theorem RangeAt.left_eq {P : Program} {K : TypeId} {w : World} {b r : Nat} {L left : List (Value × Value)} (h : RangeAt P K w b r L left) : w.rangeLeft b r = left.length := by
  obtain ⟨es, clock, since, seen, c0, hb, hs, hk, rfl, hr, h1, h2, h3, rfl⟩ := h
  simp only [World.rangeLeft, hb, hr, leftP, List.length_map]
  unfold leftOf
  rw [← Array.length_toList, Array.toList_filter]
theorem perm_eraseIdx {α : Type} : ∀ (l : List α) (i : Nat) (x : α), l[i]? = some x → (x :: l.eraseIdx i).Perm l
  | [], _, _, h => by simp at h
  | a :: r, 0, x, h => by
    simp at h
    subst h
    exact List.Perm.refl _
  | a :: r, i + 1, x, h => by
    have ih := perm_eraseIdx r i x (by simpa using h)
    rw [List.eraseIdx_cons_succ]
    exact (List.Perm.swap a x _).trans (ih.cons a)
theorem rb_store_told {ops : Array Oper} {rest : List Oper} {op : Oper} {a : Act} {w : World} {Q : Exit → Act → World → Prop} (hgd : op.guard = none) (x y : Operand) (ho : op.op = .store 67 x y) (b : Nat) (hx : a.eval x = .pointer (some ⟨b, 0, none⟩)) (p : Td) (hy : a.eval y = .agg p.ar) (q : Td) (hc : CellsAt w b q.ar 67)
    (h : wpList Try.prog ops Q rest (a.put op.dst undef) (w.setRow b p.ar)) : wpList Try.prog ops Q (op :: rest) a w :=
  wpList_store_row hgd 67 x y ho b p.ar hx hy 67 q.ar hc (by rw [told_size]; rfl) rfl (told_ones p) h
theorem rb_load_told_g {ops : Array Oper} {rest : List Oper} {op : Oper} {a : Act} {w : World} {Q : Exit → Act → World → Prop} (hw : Region.wanted op (yielded ops a.tmps) = true) (src : Operand) (ho : op.op = .load 67 src) (b : Nat) (hx : a.eval src = .pointer (some ⟨b, 0, none⟩)) (p : Td) (hc : CellsAt w b p.ar 67)
    (h : wpList Try.prog ops Q rest (a.put op.dst (.agg p.ar)) w) : wpList Try.prog ops Q (op :: rest) a w := by
  obtain ⟨fs, hu⟩ := told_under
  refine wpList_step fun K hK => ?_
  rw [if_pos hw]
  exact wp_load_mid 67 src ho b 0 hx p.ar.toList _ hc.range hu rfl (by rw [told_size]; rfl) (hK _ _ h)
def allQ (t : Td) : Bool := true
def famF (fam : Int) (Q : Td → Bool) (t : Td) : Bool := decide (t.k.fam = fam) && Q t
/-- the places of a family that are asked for -/
def PlcPost (w : World) (S : List Td) (F : Td → Bool) (e : Ending) (w' : World) : Prop :=
  ∃ v O, e = .returned v ∧ OrdP O ∧ O.Perm ((S.filter F).map Td.k) ∧ PlsAt w' w.heap.size v O
theorem famF_no {fam : Int} {Q : Td → Bool} {t : Td} (h : ¬ t.k.fam = fam) : famF fam Q t = false := by unfold famF; rw [decide_eq_false h]; rfl
theorem famF_yes {fam : Int} {Q : Td → Bool} {t : Td} (h : t.k.fam = fam) : famF fam Q t = Q t := by unfold famF; rw [decide_eq_true h]; rfl
theorem filter_no {F : Td → Bool} {D : List Td} {p : Td} (h : F p = false) : ((D ++ [p]).filter F).map Td.k = (D.filter F).map Td.k := by rw [List.filter_append, List.filter_cons_of_neg (by rw [h]; simp)]; simp
theorem filter_yes {F : Td → Bool} {D : List Td} {p : Td} (h : F p = true) : ((D ++ [p]).filter F).map Td.k = (D.filter F).map Td.k ++ [p.k] := by rw [List.filter_append, List.filter_cons_of_pos h]; simp
theorem all_any (x : Td) (W : World) : Calls Try.prog 30 #[.agg x.ar] W fun e w' => e = .returned (.bool (allQ x)) ∧ Below W.heap.size W w' := by
  have HB := Lib.hid (fun cs => (Below.refl W.heap.size W).alloc (Nat.le_refl _) (.cells cs 67))
  go_enter Try.func30, Try.ntmps30
  go_wp2_with fail
  go_ret
  exact ⟨rfl, HB.out _⟩
set_option maxRecDepth 100000 in
set_option maxHeartbeats 16000000 in
theorem places_all (w : World) (base b m : Nat) (most : Int) (S : List Td) (h : RibAt w base b m most S) (fam : Int) :
    Calls Try.prog 29 #[.pointer (some ⟨b, 0, none⟩), .int .i64 fam, .func (.func 30) #[] #[]] w fun e w' => PlcPost w S (famF fam allQ) e w' ∧ Below w.heap.size w w' := by
  have N1 := h.ne
  obtain ⟨l0, l1⟩ := h.lt
  obtain ⟨i0, hi0, hz0, hz1, hz2⟩ := info_parts infoPk
  have hkeys := Lib.hid h.keys
  have HLEN := Lib.hid h.len
  have HTH : Hid (∀ (x : Td) (W : World), Calls Try.prog 30 #[.agg x.ar] W fun e w' => e = .returned (.bool (allQ x)) ∧ Below W.heap.size W w') := all_any
  obtain ⟨c0, c1⟩ := h.blk.c2
  have HNO := Lib.hid h.blk
  obtain ⟨w0, hr, hra, hb0, hz⟩ := h.map.range (t := 61) Try.underlying61
  have HR0 := Lib.hid hra
  have HB0 : Hid (Below w.heap.size w w0) := hb0
  have HFN : Hid (∀ t : Td, ¬ t.k.fam = fam → famF fam allQ t = false) := fun t h => famF_no h
  have HFY : Hid (∀ t : Td, t.k.fam = fam → famF fam allQ t = allQ t) := fun t h => famF_yes h
  clear h hra hb0
  generalize famF fam allQ = F at HFN HFY ⊢
  go_enter Try.func29, Try.ntmps29
  go_wp2_with fail
  refine (rnone_any b m most _ HNO.out).mono ?_
  rintro e w1 ⟨rfl, hw⟩
  have hw := hw.symm
  subst hw
  go_wp2_with fail
  clear hr c0 c1
  go_loopw [7] (fun u7 wr => ∃ (D SL : List Td), Hid (RangeAt Try.prog 65 wr m w.heap.size (tdL S) (tdL SL)) ∧ Hid ((D ++ SL).Perm S) ∧ Hid (PlsAt wr (w.heap.size + 1) u7 ((D.filter F).map Td.k)) ∧ Hid (Below w.heap.size w wr)) (fun _ wr => wr.rangeLeft m w.heap.size)
  case atStart => exact ⟨[], S, HR0.out, List.Perm.refl _, by show OwnM _ _ _ _ _ _ _; exact OwnM.nil _ _ _ _, HB0.out⟩
  case round =>
    obtain ⟨D, SL, HR, HP, HO, HB⟩ := hrel
    clear HR0 HB0
    have hrz := HR.out.lt.2
    have hbz := HB.out.size
    rcases HR.out.next (by omega) 0 with ⟨hnil, hrun⟩ | ⟨i, key, v, wq, hi, hrun, hrg, hgr, hzq, hent⟩
    · have hsl : SL = [] := by unfold tdL at hnil; exact List.map_eq_nil_iff.1 hnil
      subst hsl
      have hpm : D.Perm S := by have := HP.out; rwa [List.append_nil] at this
      have hpk : Hid (((D.filter F).map Td.k).Pairwise (fun p q => p ≠ q)) := by
        show List.Pairwise _ _
        rw [List.pairwise_map]
        exact ((hpm.pairwise_iff (fun a => fun e => a e.symm)).2 hkeys.out).filter _
      have hper : Hid (((D.filter F).map Td.k).Perm ((S.filter F).map Td.k)) := (hpm.filter F).map _
      have hOl : ((D.filter F).map Td.k).length ≤ 1000000 := by
        rw [List.length_map]
        have h1 := List.length_filter_le F D
        have h2 := hpm.length_eq
        have h3 := HLEN.out
        omega
      generalize (D.filter F).map Td.k = O at HO hpk hper hOl
      obtain ⟨A2, cp2, rfl⟩ := OwnM.form HO.out
      clear hpm
      go_wp2_with fail
      refine (psort_any _ _ O _ HO.out hOl).mono ?_
      rintro e w2 ⟨rfl, M, hM1, hM2, hM3, hM4⟩
      have HM := Lib.hid (And.intro hM1 (And.intro hM2 (And.intro hM3 hM4)))
      clear hM1 hM2 hM3 hM4
      go_wp2_with fail
      go_ret
      obtain ⟨hM1, hM2, hM3, hM4⟩ := HM.out
      have hne : ∀ g, (Value.slice A2 O.length cp2).ownBlock = some g → w.heap.size + 1 ≤ g := fun g hg => (HO.out.lt g hg).1
      exact ⟨⟨_, M, rfl, hM2 hpk.out, hM1.trans hper.out, hM3.lower (by omega)⟩, HB.out.grown hM4 HB.out.size (fun q hq => by have := hne q hq; omega)⟩
    · obtain ⟨p, hi2, rfl, rfl⟩ := tdL_back hi
      have hpe := perm_eraseIdx SL i _ hi2
      have HMID : Hid (((D ++ [p]) ++ SL.eraseIdx i).Perm S) := by
        show List.Perm _ _
        rw [List.append_assoc]
        exact (List.Perm.append_left D hpe).trans HP.out
      rw [tdL_erase] at hrg
      have hmeas : Hid ((SL.eraseIdx i).length < SL.length) := by
        show _ < _
        obtain ⟨hil, _⟩ := List.getElem?_eq_some_iff.1 hi2
        rw [List.length_eraseIdx_of_lt hil]
        omega
      have hml : Hid (wr.rangeLeft m w.heap.size = SL.length) := by
        show _ = _
        rw [HR.out.left_eq]
        simp [tdL]
      have HBq : Hid (Below w.heap.size w wq) := HB.out.grown hgr HB.out.size (fun q hq => by cases hq; exact Nat.le_refl _)
      have HOq : Hid (PlsAt wq (w.heap.size + 1) u7 ((D.filter F).map Td.k)) := OwnM.keep HO.out (fun g hg => hgr.block g (HO.out.lt g hg).2 (fun e => by injection e with e; have := (HO.out.lt g hg).1; omega))
      have HRq := Lib.hid hrg
      have HOLT : Hid (∀ g, u7.ownBlock = some g → w.heap.size + 1 ≤ g ∧ g < wq.heap.size) := fun g hg => HOq.out.lt g hg
      have HN9 : Hid (∀ a c, CellsAt ((wq.alloc (.cells a 65)).alloc (.cells c 67)) (wr.heap.size + 1) c 67) := fun a c => by
        have h := CellsAt.new (wq.alloc (.cells a 65)) c 67
        rw [World.size_alloc, hzq] at h
        exact h
      have HZQ := Lib.hid hzq
      clear hi hi2 hpe hrg hgr HB HO HP
      unfold Pk.v at hrun hent
      go_upto_region 7 with (with_reducible show wpList _ _ _ (_ :: _) _ _; refine rb_store_told rfl (.tmp 9) (.tmp 21) rfl (wr.heap.size + 1) rfl p rfl (Td.mk noPk 0 noAtr false) (HN9.out _ _) ?_)
      refine rb_name fun V hV => ?_
      have HBW : Hid (Below wq.heap.size wq V) := by
        rw [hV]
        have h1 : Below wq.heap.size wq ((wq.alloc (.cells #[.int .i64 p.k.fam, .int .u64 p.k.rd, .string p.k.addr, .int .i64 p.k.len, .int .u32 (p.k.id : Nat)] 65)).alloc (.cells (Td.mk noPk 0 noAtr false).ar 67)) := ((Below.refl _ _).alloc (Nat.le_refl _) _).alloc (by simp) _
        exact h1.grown (grown_setRow' _ _ _) h1.size (fun q hq => by cases hq; have := HZQ.out; omega)
      have HTV : Hid (CellsAt V (wr.heap.size + 1) p.ar 67) := by rw [hV]; exact (HN9.out _ _).setRow' _
      have HKV : Hid (CellsAt V wr.heap.size #[.int .i64 p.k.fam, .int .u64 p.k.rd, .string p.k.addr, .int .i64 p.k.len, .int .u32 (p.k.id : Nat)] 65) := by
        rw [hV, ← HZQ.out]
        exact ((CellsAt.new _ _ _).alloc _).row (grown_setRow' _ _ _) (by omega)
      clear hV HN9 hrun hent
      have HBV : Hid (Below w.heap.size w V) := HBq.out.trans (HBW.out.mono HBq.out.size)
      have HRV : Hid (RangeAt Try.prog 65 V m w.heap.size (tdL S) (tdL (SL.eraseIdx i))) := HRq.out.grownX (X := fun _ => False) (GrownX.of_below HBW.out) (fun h => h) (fun h => h)
      have HOV : Hid (PlsAt V (w.heap.size + 1) u7 ((D.filter F).map Td.k)) := OwnM.below HOq.out HBW.out (Nat.le_refl _)
      obtain ⟨gq, hgq⟩ : ∃ gq, gq = wr.heap.size := ⟨_, rfl⟩
      rw [← hgq] at HTV HKV ⊢
      clear hgq HBq HOq HRq HBW HZQ HOLT
      obtain ⟨k0, k1, k2, k3, k4⟩ := HKV.out.c5
      by_cases hf : p.k.fam = fam
      · have zf : (p.k.fam == fam) = true := beq_iff_eq.2 hf
        have HF := Lib.hid (HFY.out p hf)
        clear hf
        go_wp2_with (with_reducible show wpList _ _ _ (_ :: _) _ _; refine rb_load_told_g (by kernel_rfl) (.tmp 9) rfl (gq + 1) rfl p HTV.out ?_)
        refine (HTH.out p _).mono ?_
        rintro e w3 ⟨rfl, hb3⟩
        have HB3 : Hid (Below w.heap.size w w3) := HBV.out.trans (hb3.mono HBV.out.size)
        have HK3 : Hid (CellsAt w3 gq #[.int .i64 p.k.fam, .int .u64 p.k.rd, .string p.k.addr, .int .i64 p.k.len, .int .u32 (p.k.id : Nat)] 65) := HKV.out.below hb3 HKV.out.lt
        have HR3 := Lib.hid (HRV.out.grownX (X := fun _ => False) (GrownX.of_below hb3) (fun h => h) (fun h => h))
        have HO3 : Hid (PlsAt w3 (w.heap.size + 1) u7 ((D.filter F).map Td.k)) := OwnM.below HOV.out hb3 (Nat.le_refl _)
        clear hb3 HBV HKV HRV HOV HTV k0 k1 k2 k3 k4
        rw [← HF.out]
        clear HF
        cases hq : F p with
        | false =>
          have HQ := Lib.hid (filter_no (D := D) hq)
          clear hq
          go_wp2_with fail
          refine ⟨⟨D ++ [p], SL.eraseIdx i, HR3.out, HMID.out, by show PlsAt _ _ _ _; rw [HQ.out]; exact HO3.out, HB3.out⟩, ?_⟩
          rw [hml.out, HR3.out.left_eq]
          simpa [tdL] using hmeas.out
        | true =>
          have HQ := Lib.hid (filter_yes (D := D) hq)
          clear hq
          have hOl : Hid (((D.filter F).map Td.k).length ≤ 1000) := by
            show _ ≤ _
            rw [List.length_map]
            have h1 := List.length_filter_le F D
            have h2 := HMID.out.length_eq
            have h3 := HLEN.out
            simp only [List.length_append] at h2
            omega
          generalize (D.filter F).map Td.k = O at HO3 HQ hOl
          obtain ⟨A2, cp2, rfl⟩ := OwnM.form HO3.out
          obtain ⟨k0, k1, k2, k3, k4⟩ := HK3.out.c5
          go_wp2_with (at_builtin; refine wpList_append_m rfl (.tmp 32) (.tmp 34) 74 74 rfl (w.heap.size + 1) 65 i0 _ 5 48 Try.underlying74 hi0 hz0 hz1 hz2 rfl ?b0 _ O.length (flatPk O) rfl ?b1 _ 1 (flatPk [p.k]) rfl ?b2 ?b3 ?b4 ?b5 ?b6)
          case b0 => omega
          case b1 => exact OwnM.alloc HO3.out _
          case b2 => exact Src.new (w := w3) _ _ Try.underlying74 rfl (fun u hu => flatPk_one [p.k] u hu)
          case b3 => (have := hOl.out; unfold maxLen; omega)
          case b4 => (have := hOl.out; omega)
          case b5 =>
            simp
            have := HB3.out.size
            have := HK3.out.lt
            have := (HR3.out.lt).2
            omega
          intro v' w5 hown hgr hat
          have hnb5 : ∀ g, (Value.slice A2 O.length cp2).ownBlock = some g → w.heap.size + 1 ≤ g := fun g hg => (HO3.out.lt g hg).1
          have hX5 : GrownX (fun i => (Value.slice A2 O.length cp2).ownBlock = some i) (w3.alloc (.cells #[.int .i64 p.k.fam, .int .u64 p.k.rd, .string p.k.addr, .int .i64 p.k.len, .int .u32 (p.k.id : Nat)] 65)) w5 := ⟨hgr.os, hgr.tape, hgr.output, hgr.size, fun i hi hx => hgr.block i hi (fun e => hx e.symm)⟩
          have hX6 : GrownX (fun i => (Value.slice A2 O.length cp2).ownBlock = some i) w3 w5 := (GrownX.of_below ((Below.refl _ _).alloc (Nat.le_refl _) _)).trans hX5
          have HR7 := Lib.hid (HR3.out.grownX hX6 (fun e => by have := hnb5 _ e; omega) (fun e => by have := hnb5 _ e; omega))
          have HB7 : Hid (Below w.heap.size w w5) := hX6.below HB3.out (fun i hi => by have := hnb5 i hi; omega) HB3.out.size
          have HO7 : Hid (PlsAt w5 (w.heap.size + 1) v' (O ++ [p.k])) := by
            show OwnM _ _ _ _ _ _ _
            rw [flatPk_append, List.length_append]
            exact hown
          clear hown hgr hat hnb5 hX5 hX6 HR3 HB3 HO3 HK3 k0 k1 k2 k3 k4
          go_wp2_with fail
          refine ⟨⟨D ++ [p], SL.eraseIdx i, HR7.out, HMID.out, by show PlsAt _ _ _ _; rw [HQ.out]; exact HO7.out, HB7.out⟩, ?_⟩
          rw [hml.out, HR7.out.left_eq]
          simpa [tdL] using hmeas.out
      · have zf : (p.k.fam == fam) = false := beq_eq_false_iff_ne.2 hf
        have HQ := Lib.hid (filter_no (D := D) (HFN.out p hf))
        clear hf
        go_wp2_with fail
        refine ⟨⟨D ++ [p], SL.eraseIdx i, HRV.out, HMID.out, by show PlsAt _ _ _ _; rw [HQ.out]; exact HOV.out, HBV.out⟩, ?_⟩
        rw [hml.out, HRV.out.left_eq]
        simpa [tdL] using hmeas.out
theorem rcount_any (w : World) (base b m : Nat) (most : Int) (S : List Td) (h : RibAt w base b m most S) (fam : Int) :
    Calls Try.prog 14 #[.pointer (some ⟨b, 0, none⟩), .int .i64 fam] w fun e w' => e = .returned (.int .i64 (cntC (S.map Td.c) fam : Nat)) ∧ Below w.heap.size w w' := by
  have H := Lib.hid (places_all w base b m most S h fam)
  have HC : Hid (∀ O : List Pk, O.Perm ((S.filter (famF fam allQ)).map Td.k) → O.length = cntC (S.map Td.c) fam) := fun O hp => by
    rw [hp.length_eq, List.length_map]
    unfold cntC
    rw [List.filter_map, List.length_map]
    congr 2
    funext t
    unfold famF allQ
    rw [Bool.and_true]
    rfl
  generalize cntC (S.map Td.c) fam = N at HC ⊢
  clear h
  go_enter Try.func14, Try.ntmps14
  go_wp2_with fail
  refine H.out.mono ?_
  rintro e w1 ⟨⟨v, O, rfl, h1, h2, h3⟩, hb⟩
  obtain ⟨A2, c2, rfl⟩ := OwnM.form h3
  have HP := Lib.hid (And.intro (HC.out O h2) hb)
  clear h1 h2 h3 hb
  go_wp2_with fail
  go_ret
  exact ⟨ret_int (by rw [HP.out.1]), HP.out.2⟩
theorem rnew_any (most : Int) (w : World) : Calls Try.prog 8 #[.int .i64 most] w fun e w' => e = .returned (.pointer (some ⟨w.heap.size + 1, 0, none⟩)) ∧ RibAt w' w.heap.size (w.heap.size + 1) w.heap.size most [] ∧ Below w.heap.size w w' := by
  have hmm := @run_makeMap Try.prog
  go_enter Try.func8, Try.ntmps8
  go_wp2_with fail
  go_ret
  refine ⟨rfl, ⟨?_, ?_, by omega, (fun p hp => by cases hp), (fun p hp => by cases hp), (fun p hp => by cases hp), by simp, ⟨by omega, by omega⟩⟩, ?_⟩
  · have := CellsAt.new (w.alloc (.map #[] 0)) #[.int .i64 most, .map (some w.heap.size)] 63
    simpa using this
  · exact (MapAt.new w).alloc _
  · exact ((Below.refl _ _).alloc (Nat.le_refl _) _).alloc (by simp) _
end Go.Proofs.Ytldpcliahfiloaa
