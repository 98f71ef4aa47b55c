/-
  Several texts in one.
-/
import Derived.Test.YtldpcliahfiloaaGreatPW28
import Derived.Test.YtldpcliahfiloaaGreatPW29
import Derived.Maps.RangeWalk
import Derived.WalkSpells
import Derived.WalkLawsBesides
import Derived.LoopTactic
set_option linter.unusedVariables false
set_option linter.unusedSimpArgs false
namespace Go.Proofs.YtldpcliahfiloaaGreat
open Go.RowKit Go.MapKept Go.Shelf
open Go.Lib hiding intOf
open Go.Sort hiding Below
open Go.Maps (Keyed)

theorem RangeAt.left_eq {P : Program} {K : TypeId} {w : World} {b r : Nat} {L left : List (Value × Value)} (h : RangeAt P K w b r L left) : w.rangeLeft b r = left.length := by
  obtain ⟨es, clock, since, seen, c0, hb, hs, hk, rfl, hr, h1, h2, h3, rfl⟩ := h
  simp only [World.rangeLeft, hb, hr, leftP, List.length_map]
  unfold leftOf
  rw [← Array.length_toList, Array.toList_filter]
theorem perm_eraseIdx {α : Type} : ∀ (l : List α) (i : Nat) (x : α), l[i]? = some x → (x :: l.eraseIdx i).Perm l
  | [], _, _, h => by simp at h
  | a :: r, 0, x, h => by
    simp at h
    subst h
    exact List.Perm.refl _
  | a :: r, i + 1, x, h => by
    have ih := perm_eraseIdx r i x (by simpa using h)
    rw [List.eraseIdx_cons_succ]
    exact (List.Perm.swap a x _).trans (ih.cons a)
theorem rb_store_told {ops : Array Oper} {rest : List Oper} {op : Oper} {a : Act} {w : World} {Q : Exit → Act → World → Prop} (hgd : op.guard = none) (x y : Operand) (ho : op.op = .store 86 x y) (b : Nat) (hx : a.eval x = .pointer (some ⟨b, 0, none⟩)) (p : Td) (hy : a.eval y = .agg p.ar) (q : Td) (hc : CellsAt w b q.ar 86)
    (h : wpList Tryz.prog ops Q rest (a.put op.dst undef) (w.setRow b p.ar)) : wpList Tryz.prog ops Q (op :: rest) a w :=
  wpList_store_row hgd 86 x y ho b p.ar hx hy 86 q.ar hc (by rw [told_size]; rfl) rfl (told_ones p) h
theorem rb_load_told_g {ops : Array Oper} {rest : List Oper} {op : Oper} {a : Act} {w : World} {Q : Exit → Act → World → Prop} (hw : Region.wanted op (yielded ops a.tmps) = true) (src : Operand) (ho : op.op = .load 86 src) (b : Nat) (hx : a.eval src = .pointer (some ⟨b, 0, none⟩)) (p : Td) (hc : CellsAt w b p.ar 86)
    (h : wpList Tryz.prog ops Q rest (a.put op.dst (.agg p.ar)) w) : wpList Tryz.prog ops Q (op :: rest) a w := by
  obtain ⟨fs, hu⟩ := told_under
  refine wpList_step fun K hK => ?_
  rw [if_pos hw]
  exact wp_load_mid 86 src ho b 0 hx p.ar.toList _ hc.range hu rfl (by rw [told_size]; rfl) (hK _ _ h)
def allQ (t : Td) : Bool := true
def famF (fam : Int) (Q : Td → Bool) (t : Td) : Bool := decide (t.k.fam = fam) && Q t
/-- the places of a family that are asked for -/
def PlcPost (w : World) (S : List Td) (F : Td → Bool) (e : Ending) (w' : World) : Prop :=
  ∃ v O, e = .returned v ∧ OrdP O ∧ O.Perm ((S.filter F).map Td.k) ∧ PlsAt w' w.heap.size v O
theorem famF_no {fam : Int} {Q : Td → Bool} {t : Td} (h : ¬ t.k.fam = fam) : famF fam Q t = false := by unfold famF; rw [decide_eq_false h]; rfl
theorem famF_yes {fam : Int} {Q : Td → Bool} {t : Td} (h : t.k.fam = fam) : famF fam Q t = Q t := by unfold famF; rw [decide_eq_true h]; rfl
theorem filter_no {F : Td → Bool} {D : List Td} {p : Td} (h : F p = false) : ((D ++ [p]).filter F).map Td.k = (D.filter F).map Td.k := by rw [List.filter_append, List.filter_cons_of_neg (by rw [h]; simp)]; simp
theorem filter_yes {F : Td → Bool} {D : List Td} {p : Td} (h : F p = true) : ((D ++ [p]).filter F).map Td.k = (D.filter F).map Td.k ++ [p.k] := by rw [List.filter_append, List.filter_cons_of_pos h]; simp
theorem all_any (x : Td) (W : World) : Calls Tryz.prog 29 #[.agg x.ar] W fun e w' => e = .returned (.bool (allQ x)) ∧ Below W.heap.size W w' := by
  have HB := Lib.hid (fun cs => (Below.refl W.heap.size W).alloc (Nat.le_refl _) (.cells cs 86))
  go_enter Tryz.func29, Tryz.ntmps29
  go_wp2_with fail
  go_ret
  exact ⟨rfl, HB.out _⟩
set_option maxRecDepth 100000 in
set_option maxHeartbeats 16000000 in
theorem places_all (w : World) (base b m : Nat) (most : Int) (S : List Td) (h : RibAt w base b m most S) (fam : Int) :
    Calls Tryz.prog 28 #[.pointer (some ⟨b, 0, none⟩), .int .i64 fam, .func (.func 29) #[] #[]] w fun e w' => PlcPost w S (famF fam allQ) e w' ∧ Below w.heap.size w w' := by
  have N1 := h.ne
  obtain ⟨l0, l1⟩ := h.lt
  obtain ⟨i0, hi0, hz0, hz1, hz2⟩ := info_parts infoPk
  have hkeys := Lib.hid h.keys
  have HLEN := Lib.hid h.len
  have HTH : Hid (∀ (x : Td) (W : World), Calls Tryz.prog 29 #[.agg x.ar] W fun e w' => e = .returned (.bool (allQ x)) ∧ Below W.heap.size W w') := all_any
  obtain ⟨c0, c1⟩ := h.blk.c2
  have HNO := Lib.hid h.blk
  obtain ⟨w0, hr, hra, hb0, hz⟩ := h.map.range (t := 51) Tryz.underlying51
  have HR0 := Lib.hid hra
  have HB0 : Hid (Below w.heap.size w w0) := hb0
  have HFN : Hid (∀ t : Td, ¬ t.k.fam = fam → famF fam allQ t = false) := fun t h => famF_no h
  have HFY : Hid (∀ t : Td, t.k.fam = fam → famF fam allQ t = allQ t) := fun t h => famF_yes h
  clear h hra hb0
  generalize famF fam allQ = F at HFN HFY ⊢
  go_enter Tryz.func28, Tryz.ntmps28
  go_wp2_with fail
  refine (rnone_any b m most _ HNO.out).mono ?_
  rintro e w1 ⟨rfl, hw⟩
  have hw := hw.symm
  subst hw
  go_wp2_with fail
  clear hr c0 c1
  go_loopw [7] (fun u7 wr => ∃ (D SL : List Td), Hid (RangeAt Tryz.prog 83 wr m w.heap.size (tdL S) (tdL SL)) ∧ Hid ((D ++ SL).Perm S) ∧ Hid (PlsAt wr (w.heap.size + 1) u7 ((D.filter F).map Td.k)) ∧ Hid (Below w.heap.size w wr)) (fun _ wr => wr.rangeLeft m w.heap.size)
  case atStart => exact ⟨[], S, HR0.out, List.Perm.refl _, by show OwnM _ _ _ _ _ _ _; exact OwnM.nil _ _ _ _, HB0.out⟩
  case round =>
    obtain ⟨D, SL, HR, HP, HO, HB⟩ := hrel
    clear HR0 HB0
    have hrz := HR.out.lt.2
    have hbz := HB.out.size
    rcases HR.out.next (by omega) 0 with ⟨hnil, hrun⟩ | ⟨i, key, v, wq, hi, hrun, hrg, hgr, hzq, hent⟩
    · have hsl : SL = [] := by unfold tdL at hnil; exact List.map_eq_nil_iff.1 hnil
      subst hsl
      have hpm : D.Perm S := by have := HP.out; rwa [List.append_nil] at this
      have hpk : Hid (((D.filter F).map Td.k).Pairwise (fun p q => p ≠ q)) := by
        show List.Pairwise _ _
        rw [List.pairwise_map]
        exact ((hpm.pairwise_iff (fun a => fun e => a e.symm)).2 hkeys.out).filter _
      have hper : Hid (((D.filter F).map Td.k).Perm ((S.filter F).map Td.k)) := (hpm.filter F).map _
      have hOl : ((D.filter F).map Td.k).length ≤ 1000000 := by
        rw [List.length_map]
        have h1 := List.length_filter_le F D
        have h2 := hpm.length_eq
        have h3 := HLEN.out
        omega
      generalize (D.filter F).map Td.k = O at HO hpk hper hOl
      obtain ⟨A2, cp2, rfl⟩ := OwnM.form HO.out
      clear hpm
      go_wp2_with fail
      refine (psort_any _ _ O _ HO.out hOl).mono ?_
      rintro e w2 ⟨rfl, M, hM1, hM2, hM3, hM4⟩
      have HM := Lib.hid (And.intro hM1 (And.intro hM2 (And.intro hM3 hM4)))
      clear hM1 hM2 hM3 hM4
      go_wp2_with fail
      go_ret
      obtain ⟨hM1, hM2, hM3, hM4⟩ := HM.out
      have hne : ∀ g, (Value.slice A2 O.length cp2).ownBlock = some g → w.heap.size + 1 ≤ g := fun g hg => (HO.out.lt g hg).1
      exact ⟨⟨_, M, rfl, hM2 hpk.out, hM1.trans hper.out, hM3.lower (by omega)⟩, HB.out.grown hM4 HB.out.size (fun q hq => by have := hne q hq; omega)⟩
    · obtain ⟨p, hi2, rfl, rfl⟩ := tdL_back hi
      have hpe := perm_eraseIdx SL i _ hi2
      have HMID : Hid (((D ++ [p]) ++ SL.eraseIdx i).Perm S) := by
        show List.Perm _ _
        rw [List.append_assoc]
        exact (List.Perm.append_left D hpe).trans HP.out
      rw [tdL_erase] at hrg
      have hmeas : Hid ((SL.eraseIdx i).length < SL.length) := by
        show _ < _
        obtain ⟨hil, _⟩ := List.getElem?_eq_some_iff.1 hi2
        rw [List.length_eraseIdx_of_lt hil]
        omega
      have hml : Hid (wr.rangeLeft m w.heap.size = SL.length) := by
        show _ = _
        rw [HR.out.left_eq]
        simp [tdL]
      have HBq : Hid (Below w.heap.size w wq) := HB.out.grown hgr HB.out.size (fun q hq => by cases hq; exact Nat.le_refl _)
      have HOq : Hid (PlsAt wq (w.heap.size + 1) u7 ((D.filter F).map Td.k)) := OwnM.keep HO.out (fun g hg => hgr.block g (HO.out.lt g hg).2 (fun e => by injection e with e; have := (HO.out.lt g hg).1; omega))
      have HRq := Lib.hid hrg
      have HOLT : Hid (∀ g, u7.ownBlock = some g → w.heap.size + 1 ≤ g ∧ g < wq.heap.size) := fun g hg => HOq.out.lt g hg
      have HN9 : Hid (∀ a c, CellsAt ((wq.alloc (.cells a 83)).alloc (.cells c 86)) (wr.heap.size + 1) c 86) := fun a c => by
        have h := CellsAt.new (wq.alloc (.cells a 83)) c 86
        rw [World.size_alloc, hzq] at h
        exact h
      have HZQ := Lib.hid hzq
      clear hi hi2 hpe hrg hgr HB HO HP
      unfold Pk.v at hrun hent
      go_upto_region 7 with (with_reducible show wpList _ _ _ (_ :: _) _ _; refine rb_store_told rfl (.tmp 9) (.tmp 21) rfl (wr.heap.size + 1) rfl p rfl (Td.mk noPk 0 noAtr false) (HN9.out _ _) ?_)
      refine rb_name fun V hV => ?_
      have HBW : Hid (Below wq.heap.size wq V) := by
        rw [hV]
        have h1 : Below wq.heap.size wq ((wq.alloc (.cells #[.int .i64 p.k.fam, .int .u64 p.k.rd, .string p.k.addr, .int .i64 p.k.len, .int .u32 (p.k.id : Nat)] 83)).alloc (.cells (Td.mk noPk 0 noAtr false).ar 86)) := ((Below.refl _ _).alloc (Nat.le_refl _) _).alloc (by simp) _
        exact h1.grown (grown_setRow' _ _ _) h1.size (fun q hq => by cases hq; have := HZQ.out; omega)
      have HTV : Hid (CellsAt V (wr.heap.size + 1) p.ar 86) := by rw [hV]; exact (HN9.out _ _).setRow' _
      have HKV : Hid (CellsAt V wr.heap.size #[.int .i64 p.k.fam, .int .u64 p.k.rd, .string p.k.addr, .int .i64 p.k.len, .int .u32 (p.k.id : Nat)] 83) := by
        rw [hV, ← HZQ.out]
        exact ((CellsAt.new _ _ _).alloc _).row (grown_setRow' _ _ _) (by omega)
      clear hV HN9 hrun hent
      have HBV : Hid (Below w.heap.size w V) := HBq.out.trans (HBW.out.mono HBq.out.size)
      have HRV : Hid (RangeAt Tryz.prog 83 V m w.heap.size (tdL S) (tdL (SL.eraseIdx i))) := HRq.out.grownX (X := fun _ => False) (GrownX.of_below HBW.out) (fun h => h) (fun h => h)
      have HOV : Hid (PlsAt V (w.heap.size + 1) u7 ((D.filter F).map Td.k)) := OwnM.below HOq.out HBW.out (Nat.le_refl _)
      obtain ⟨gq, hgq⟩ : ∃ gq, gq = wr.heap.size := ⟨_, rfl⟩
      rw [← hgq] at HTV HKV ⊢
      clear hgq HBq HOq HRq HBW HZQ HOLT
      obtain ⟨k0, k1, k2, k3, k4⟩ := HKV.out.c5
      by_cases hf : p.k.fam = fam
      · have zf : (p.k.fam == fam) = true := beq_iff_eq.2 hf
        have HF := Lib.hid (HFY.out p hf)
        clear hf
        go_wp2_with (with_reducible show wpList _ _ _ (_ :: _) _ _; refine rb_load_told_g (by kernel_rfl) (.tmp 9) rfl (gq + 1) rfl p HTV.out ?_)
        refine (HTH.out p _).mono ?_
        rintro e w3 ⟨rfl, hb3⟩
        have HB3 : Hid (Below w.heap.size w w3) := HBV.out.trans (hb3.mono HBV.out.size)
        have HK3 : Hid (CellsAt w3 gq #[.int .i64 p.k.fam, .int .u64 p.k.rd, .string p.k.addr, .int .i64 p.k.len, .int .u32 (p.k.id : Nat)] 83) := HKV.out.below hb3 HKV.out.lt
        have HR3 := Lib.hid (HRV.out.grownX (X := fun _ => False) (GrownX.of_below hb3) (fun h => h) (fun h => h))
        have HO3 : Hid (PlsAt w3 (w.heap.size + 1) u7 ((D.filter F).map Td.k)) := OwnM.below HOV.out hb3 (Nat.le_refl _)
        clear hb3 HBV HKV HRV HOV HTV k0 k1 k2 k3 k4
        rw [← HF.out]
        clear HF
        cases hq : F p with
        | false =>
          have HQ := Lib.hid (filter_no (D := D) hq)
          clear hq
          go_wp2_with fail
          refine ⟨⟨D ++ [p], SL.eraseIdx i, HR3.out, HMID.out, by show PlsAt _ _ _ _; rw [HQ.out]; exact HO3.out, HB3.out⟩, ?_⟩
          rw [hml.out, HR3.out.left_eq]
          simpa [tdL] using hmeas.out
        | true =>
          have HQ := Lib.hid (filter_yes (D := D) hq)
          clear hq
          have hOl : Hid (((D.filter F).map Td.k).length ≤ 1000) := by
            show _ ≤ _
            rw [List.length_map]
            have h1 := List.length_filter_le F D
            have h2 := HMID.out.length_eq
            have h3 := HLEN.out
            simp only [List.length_append] at h2
            omega
          generalize (D.filter F).map Td.k = O at HO3 HQ hOl
          obtain ⟨A2, cp2, rfl⟩ := OwnM.form HO3.out
          obtain ⟨k0, k1, k2, k3, k4⟩ := HK3.out.c5
          go_wp2_with (at_builtin; refine wpList_append_m rfl (.tmp 32) (.tmp 34) 79 79 rfl (w.heap.size + 1) 83 i0 _ 5 48 Tryz.underlying79 hi0 hz0 hz1 hz2 rfl ?b0 _ O.length (flatPk O) rfl ?b1 _ 1 (flatPk [p.k]) rfl ?b2 ?b3 ?b4 ?b5 ?b6)
          case b0 => omega
          case b1 => exact OwnM.alloc HO3.out _
          case b2 => exact Src.new (w := w3) _ _ Tryz.underlying79 rfl (fun u hu => flatPk_one [p.k] u hu)
          case b3 => (have := hOl.out; unfold maxLen; omega)
          case b4 => (have := hOl.out; omega)
          case b5 =>
            simp
            have := HB3.out.size
            have := HK3.out.lt
            have := (HR3.out.lt).2
            omega
          intro v' w5 hown hgr hat
          have hnb5 : ∀ g, (Value.slice A2 O.length cp2).ownBlock = some g → w.heap.size + 1 ≤ g := fun g hg => (HO3.out.lt g hg).1
          have hX5 : GrownX (fun i => (Value.slice A2 O.length cp2).ownBlock = some i) (w3.alloc (.cells #[.int .i64 p.k.fam, .int .u64 p.k.rd, .string p.k.addr, .int .i64 p.k.len, .int .u32 (p.k.id : Nat)] 83)) w5 := ⟨hgr.os, hgr.tape, hgr.output, hgr.size, fun i hi hx => hgr.block i hi (fun e => hx e.symm)⟩
          have hX6 : GrownX (fun i => (Value.slice A2 O.length cp2).ownBlock = some i) w3 w5 := (GrownX.of_below ((Below.refl _ _).alloc (Nat.le_refl _) _)).trans hX5
          have HR7 := Lib.hid (HR3.out.grownX hX6 (fun e => by have := hnb5 _ e; omega) (fun e => by have := hnb5 _ e; omega))
          have HB7 : Hid (Below w.heap.size w w5) := hX6.below HB3.out (fun i hi => by have := hnb5 i hi; omega) HB3.out.size
          have HO7 : Hid (PlsAt w5 (w.heap.size + 1) v' (O ++ [p.k])) := by
            show OwnM _ _ _ _ _ _ _
            rw [flatPk_append, List.length_append]
            exact hown
          clear hown hgr hat hnb5 hX5 hX6 HR3 HB3 HO3 HK3 k0 k1 k2 k3 k4
          go_wp2_with fail
          refine ⟨⟨D ++ [p], SL.eraseIdx i, HR7.out, HMID.out, by show PlsAt _ _ _ _; rw [HQ.out]; exact HO7.out, HB7.out⟩, ?_⟩
          rw [hml.out, HR7.out.left_eq]
          simpa [tdL] using hmeas.out
      · have zf : (p.k.fam == fam) = false := beq_eq_false_iff_ne.2 hf
        have HQ := Lib.hid (filter_no (D := D) (HFN.out p hf))
        clear hf
        go_wp2_with fail
        refine ⟨⟨D ++ [p], SL.eraseIdx i, HRV.out, HMID.out, by show PlsAt _ _ _ _; rw [HQ.out]; exact HOV.out, HBV.out⟩, ?_⟩
        rw [hml.out, HRV.out.left_eq]
        simpa [tdL] using hmeas.out
theorem rcount_any (w : World) (base b m : Nat) (most : Int) (S : List Td) (h : RibAt w base b m most S) (fam : Int) :
    Calls Tryz.prog 9 #[.pointer (some ⟨b, 0, none⟩), .int .i64 fam] w fun e w' => e = .returned (.int .i64 (cntC (S.map Td.c) fam : Nat)) ∧ Below w.heap.size w w' := by
  have H := Lib.hid (places_all w base b m most S h fam)
  have HC : Hid (∀ O : List Pk, O.Perm ((S.filter (famF fam allQ)).map Td.k) → O.length = cntC (S.map Td.c) fam) := fun O hp => by
    rw [hp.length_eq, List.length_map]
    unfold cntC
    rw [List.filter_map, List.length_map]
    congr 2
    funext t
    unfold famF allQ
    rw [Bool.and_true]
    rfl
  generalize cntC (S.map Td.c) fam = N at HC ⊢
  clear h
  go_enter Tryz.func9, Tryz.ntmps9
  go_wp2_with fail
  refine H.out.mono ?_
  rintro e w1 ⟨⟨v, O, rfl, h1, h2, h3⟩, hb⟩
  obtain ⟨A2, c2, rfl⟩ := OwnM.form h3
  have HP := Lib.hid (And.intro (HC.out O h2) hb)
  clear h1 h2 h3 hb
  go_wp2_with fail
  go_ret
  exact ⟨ret_int (by rw [HP.out.1]), HP.out.2⟩
theorem rnew_any (most : Int) (w : World) : Calls Tryz.prog 4 #[.int .i64 most] w fun e w' => e = .returned (.pointer (some ⟨w.heap.size + 1, 0, none⟩)) ∧ RibAt w' w.heap.size (w.heap.size + 1) w.heap.size most [] ∧ Below w.heap.size w w' := by
  have hmm := @run_makeMap Tryz.prog
  go_enter Tryz.func4, Tryz.ntmps4
  go_wp2_with fail
  go_ret
  refine ⟨rfl, ⟨?_, ?_, by omega, (fun p hp => by cases hp), (fun p hp => by cases hp), (fun p hp => by cases hp), by simp, ⟨by omega, by omega⟩⟩, ?_⟩
  · have := CellsAt.new (w.alloc (.map #[] 0)) #[.int .i64 most, .map (some w.heap.size)] 53
    simpa using this
  · exact (MapAt.new w).alloc _
  · exact ((Below.refl _ _).alloc (Nat.le_refl _) _).alloc (by simp) _
end Go.Proofs.YtldpcliahfiloaaGreat
set_option linter.unusedVariables false
set_option linter.unusedSimpArgs false
namespace Go.Proofs.YtldpcliahfiloaaGreat
open Go.RowKit Go.MapKept Go.Shelf
open Go.Lib hiding intOf
open Go.Sort hiding Below
open Go.Maps (Keyed)

def nlA (k : Pk) (label : Nat) : Array Value := #[.int .i64 k.fam, .int .u64 k.rd, .string k.addr, .int .i64 k.len, .int .u32 (k.id : Nat), .int .u32 (label : Nat)]
theorem rnewM_any (most : Int) (w : World) : Calls Tryz.prog 4 #[.int .i64 most] w fun e w' => ∃ b m, e = .returned (.pointer (some ⟨b, 0, none⟩)) ∧ RibM w' w.heap.size b m most [] ∧ Below w.heap.size w w' ∧ w.heap.size ≤ m ∧ w.heap.size ≤ b :=
  (rnew_any most w).mono fun e w' ⟨h1, h2, h3⟩ => ⟨_, _, h1, ⟨[], h2, rfl⟩, h3, Nat.le_refl _, by omega⟩
theorem rputM_any {w : World} {base b m : Nat} {most : Int} {M : List TdC} (h : RibM w base b m most M) (k : Pk) (label : Nat) (hk : k.Ok) (hlab : label < 4294967296) (a : Atr) (ha : AtrOk w a) (hz : AtrSz a.c) (hlen : M.length < 1000) :
    Calls Tryz.prog 13 #[.pointer (some ⟨b, 0, none⟩), .agg (nlA k label), .agg a.ar] w fun e w' => PutPost base b m most M (nlk k label) a.c w' e ∧ GrownX (fun i => i = m) w w' := by
  obtain ⟨S, h1, rfl⟩ := h
  exact rput_any w base b m most S h1 k label hk hlab a ha hz (by rwa [List.length_map] at hlen)
theorem rgetM_any {w : World} {base b m : Nat} {most : Int} {M : List TdC} (h : RibM w base b m most M) (k : Pk) (hk : k.Ok) :
    Calls Tryz.prog 18 #[.pointer (some ⟨b, 0, none⟩), .agg k.pf, .int .u32 (k.id : Nat)] w fun e w' => GetPost w.heap.size M k w' e ∧ Below w.heap.size w w' := by
  obtain ⟨S, h1, rfl⟩ := h
  exact rget_any w base b m most S h1 k hk
theorem rgoneM_any {w : World} {base b m : Nat} {most : Int} {M : List TdC} (h : RibM w base b m most M) (k : Pk) (label : Nat) (hk : k.Ok) :
    Calls Tryz.prog 17 #[.pointer (some ⟨b, 0, none⟩), .agg (nlA k label)] w fun e w' => e = .returned (.bool (getC M k).isSome) ∧ RibM w' base b m most (delC M k) ∧ GrownX (fun i => i = m) w w' := by
  obtain ⟨S, h1, rfl⟩ := h
  exact rgone_any w base b m most S h1 k label hk
theorem rcountM_any {w : World} {base b m : Nat} {most : Int} {M : List TdC} (h : RibM w base b m most M) (fam : Int) :
    Calls Tryz.prog 9 #[.pointer (some ⟨b, 0, none⟩), .int .i64 fam] w fun e w' => e = .returned (.int .i64 (cntC M fam : Nat)) ∧ Below w.heap.size w w' := by
  obtain ⟨S, h1, rfl⟩ := h
  exact rcount_any w base b m most S h1 fam
theorem GrownX.toBelow {w w' : World} {m B : Nat} (h : GrownX (fun i => i = m) w w') (hm : B ≤ m) (hB : B ≤ w.heap.size) : Below B w w' :=
  h.below (Below.refl B w) (fun i hi => by rw [hi]; exact hm) hB
theorem of_any (n : Nat) (w : World) : Calls Tryz.prog 32 #[.int .u32 (n : Nat)] w fun e w' => e = .returned (.agg (medA n).ar) ∧ Below w.heap.size w w' := by
  have HZ : Hid (∀ cs : Array Value, CellsAt (w.alloc (.cells cs 41)) w.heap.size cs 41) := fun cs => CellsAt.new _ _ _
  go_enter Tryz.func32, Tryz.ntmps32
  go_wp2_with (with_reducible show wpList _ _ _ (_ :: _) _ _; refine wpList_store_attrs rfl (.tmp 2) (.tmp 4) rfl w.heap.size rfl (medA n) rfl noAtr (HZ.out _) ?_)
  have HF : Hid (CellsAt ((w.alloc (.cells noAtr.ar 41)).setRow w.heap.size (medA n).ar) w.heap.size (medA n).ar 41) := (HZ.out _).setRow' _
  have HB : Hid (Below w.heap.size w ((w.alloc (.cells noAtr.ar 41)).setRow w.heap.size (medA n).ar)) := ((Below.refl _ _).alloc (Nat.le_refl _) _).grown (grown_setRow' _ _ _) (by simp) (fun q hq => by cases hq; exact Nat.le_refl _)
  exact bodyPost_ret (results_attrs rfl _ _ w.heap.size (medA n) rfl HF.out) rfl ⟨rfl, HB.out⟩
def atK (c : UInt8) (id : Nat) : Pk := ⟨1, 0, ⟨#[c, 0, 0, 0]⟩, 8, id⟩
theorem rconv4 {W : World} {b : Nat} {T : TypeId} (x : UInt8) (h : CellsAt W b #[.int .u8 (x.toNat : Nat), .int .u8 0, .int .u8 0, .int .u8 0] T) : (convert 104 9 (.slice (some ⟨b, 0, none⟩) 4 4)).run Tryz.prog W = .ok (.string ⟨#[x, 0, 0, 0]⟩) W := by
  refine run_convert_bytes_back (P := Tryz.prog) W 104 9 5 ⟨b, 0, none⟩ 4 [x, 0, 0, 0] Tryz.underlying104 Tryz.underlying5 Tryz.underlying9 (fun j hj => ?_)
  rw [add_flat, h.c j]
  have hj4 : j < 4 := hj
  rcases (show j = 0 ∨ j = 1 ∨ j = 2 ∨ j = 3 by omega) with rfl | rfl | rfl | rfl <;> rfl
set_option maxRecDepth 100000 in
set_option maxHeartbeats 4000000 in
theorem at_any (c : UInt8) (id : Nat) (w : World) : Calls Tryz.prog 31 #[.int .u8 (c.toNat : Nat), .int .u32 (id : Nat)] w fun e w' => e = .returned (.agg (nlA (atK c id) 0)) ∧ Below w.heap.size w w' := by
  have hC : CellsAt ((w.alloc (.cells #[.int .i64 0, .int .u64 0, .string ⟨#[]⟩, .int .i64 0, .int .u32 0, .int .u32 0] 35)).alloc (.cells #[.int .u8 (c.toNat : Nat), .int .u8 0, .int .u8 0, .int .u8 0] 5)) (w.heap.size + 1) #[.int .u8 (c.toNat : Nat), .int .u8 0, .int .u8 0, .int .u8 0] 5 := by
    have h := CellsAt.new (w.alloc (.cells #[.int .i64 0, .int .u64 0, .string ⟨#[]⟩, .int .i64 0, .int .u32 0, .int .u32 0] 35)) #[.int .u8 (c.toNat : Nat), .int .u8 0, .int .u8 0, .int .u8 0] 5
    rwa [World.size_alloc] at h
  have hcv := rconv4 c hC
  have HB : Hid (Below w.heap.size w ((w.alloc (.cells #[.int .i64 0, .int .u64 0, .string ⟨#[]⟩, .int .i64 0, .int .u32 0, .int .u32 0] 35)).alloc (.cells #[.int .u8 (c.toNat : Nat), .int .u8 0, .int .u8 0, .int .u8 0] 5))) := by
    show Below _ _ _
    exact ((Below.refl _ _).alloc (Nat.le_refl _) _).alloc (by simp) _
  clear hC
  go_enter Tryz.func31, Tryz.ntmps31
  go_wp2_with fail
  try simp only [Exit.inBlock, Exit.then]
  refine bodyPost_ret (v := .agg (nlA (atK c id) 0)) (by rw [rb_results1 rfl]; unfold nlA atK; go_simp) rfl ⟨rfl, ?_⟩
  clear hcv
  repeat' (first | with_reducible exact HB.out | with_reducible exact Below.refl _ _ | with_reducible refine Below.setCell ?_ (by simp) _ | with_reducible refine Below.alloc ?_ (by simp <;> omega) _)
theorem at_ok (c : UInt8) (id : Nat) (h : id < 4294967296) : (atK c id).Ok := ⟨by show (-9223372036854775808 : Int) ≤ 1 ∧ (1 : Int) ≤ 9223372036854775807; decide, by show (0 : Int) ≤ 0 ∧ (0 : Int) < 18446744073709551616; decide, by show (4 : Nat) ≤ 9223372036854775807; decide, by show (-9223372036854775808 : Int) ≤ 8 ∧ (8 : Int) ≤ 9223372036854775807; decide, h⟩
end Go.Proofs.YtldpcliahfiloaaGreat
