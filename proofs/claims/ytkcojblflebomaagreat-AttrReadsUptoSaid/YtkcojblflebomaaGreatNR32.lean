/-
  Several texts in one.
-/
import Derived.Test.YtkcojblflebomaaGreatNR31
import Derived.Test.YtkcojblflebomaaGreatNR25
set_option linter.unusedVariables false
set_option linter.unusedSimpArgs false
namespace Go.Proofs.YtkcojblflebomaaGreat
open Go.RowKit Go.MapKept Go.Shelf
open Go.Lib hiding intOf
open Go.Sort hiding Below

theorem hd_u64 (v : ByteArray) : hd v 8 < 18446744073709551616 := Nat.lt_of_lt_of_le (hd_lt v 8) (by decide)
set_option maxHeartbeats 4000000 in
theorem cdec_8 (s : ByteArray) (w : World) (hm : (s.size : Int) ≤ 140737488351232) :
    Calls Tryz.prog 83 #[.string s] w fun e w' => RcPost (w.heap.size + 1) 35 1 u1 (readC 4 (fun s => hd s 4) ltN s) w' e ∧ Below w.heap.size w w' := by
  have HC := Lib.hid (cread_u32 s w hm)
  generalize readC 4 (fun s => hd s 4) ltN s = RES at HC ⊢
  go_enter Tryz.func83, Tryz.ntmps83
  go_wp2_with fail
  refine HC.out.mono ?_
  rintro e w1 ⟨hp, hb⟩
  have HB := Lib.hid hb
  clear hb HC
  cases RES with
  | none =>
    obtain ⟨n, rfl, hn⟩ := hp
    go_wp2_with fail
    go_ret2
    exact ⟨⟨n, rfl, hn⟩, HB.out⟩
  | some l =>
    obtain ⟨v, rfl, ho⟩ := hp
    have HO := Lib.hid ho
    clear ho
    go_wp2_with fail
    go_ret2
    exact ⟨⟨v, rfl, HO.out⟩, HB.out⟩
set_option maxHeartbeats 8000000 in
theorem take8s : Takes 82 (fun v _ c => take8 v c) := by
  intro b c v four w h hm
  have HDEC := Lib.hid (cdec_8 v w hm)
  obtain ⟨a, hc, ho, hac⟩ := h.x
  have HC := Lib.hid hc
  have HO := Lib.hid ho
  have HAC := Lib.hid hac
  have hlt := hc.lt
  have HT : Hid (take8 v c = match readC 4 (fun s => hd s 4) ltN v with
    | none => ({ c with comms := [] }, false)
    | some l => ({ c with comms := l }, true)) := rfl
  have HFT : Hid (∀ l, readC 4 (fun s => hd s 4) ltN v = some l → ∀ x ∈ l, (fun n : Nat => n < 4294967296) x) := fun l hl => readC_all (p := (fun n : Nat => n < 4294967296)) (fun s => hd_u32 s) hl
  clear hc ho hac h
  generalize readC 4 (fun s => hd s 4) ltN v = RES at HDEC HT HFT
  show Calls _ _ _ _ fun e w' => e = .returned (.bool (take8 v c).2) ∧ AtVar w' b (take8 v c).1 ∧ Tk w w' b
  generalize take8 v c = res at HT ⊢
  go_enter Tryz.func82, Tryz.ntmps82
  go_wp2_with fail
  refine HDEC.out.mono ?_
  rintro e w1 ⟨hpost, hb⟩
  have HC1 : Hid (CellsAt w1 b a.ar 40) := HC.out.below hb hlt
  have HO1 : Hid (AtO w1 (b + 1) a) := HO.out.below hb
  have HB1 := Lib.hid hb
  obtain ⟨c0, c1, c2, c3, c4, c5, c6, c7, c8, c9, c10, c11, c12, c13, c14, c15⟩ := atr_cells HC1.out
  have cf := HC1.out.unfrozen 10
  clear c0 c1 c2 c3 c4 c5 c6 c7 c8 c9 c11 c12 c13 c14 c15
  clear hb HDEC
  cases RES with
  | none =>
    obtain ⟨n, rfl, hn⟩ := hpost
    have hn0 : (n == 0) = false := beq_eq_false_iff_ne.2 (by omega)
    clear hn
    go_wp2_with fail
    go_ret
    refine ⟨by rw [HT.out]; rfl, ?_, Tk.below_set _ HB1.out hlt⟩
    rw [HT.out]
    exact ⟨⟨{ a with mA := none, comms := [], mC := 0 }, HC1.out.setAt 10 _, { HO1.out.setc with comms := OwnL.nil _ _ _ _ _, mfit := fun x hx => by cases hx }, ⟨by rw [← HAC.out.1]; rfl, HAC.out.2⟩⟩⟩
  | some l =>
    obtain ⟨pv, rfl, hso⟩ := hpost
    obtain ⟨A, cc, rfl⟩ := hso.form
    have HSG : Hid (OwnL w1 (b + 1) 35 1 u1 (.slice A l.length cc) l) := OwnM.lower hso (by omega)
    clear hso
    go_wp2_with fail
    go_ret
    refine ⟨by rw [HT.out]; rfl, ?_, Tk.below_set _ HB1.out hlt⟩
    rw [HT.out]
    exact ⟨⟨{ a with mA := A, comms := l, mC := cc }, HC1.out.setAt 10 _, { HO1.out.setc with comms := HSG.out.keep (fun k h1 _ => Below.heap_setCell w1 _ _ k (by show k ≠ b; omega)), mfit := HFT.out l rfl }, ⟨by rw [← HAC.out.1]; rfl, HAC.out.2⟩⟩⟩
set_option maxHeartbeats 4000000 in
theorem cdec_16 (s : ByteArray) (w : World) (hm : (s.size : Int) ≤ 140737488351232) :
    Calls Tryz.prog 87 #[.string s] w fun e w' => RcPost (w.heap.size + 1) 57 1 x1 (readC 8 (fun s => hd s 8) ltN s) w' e ∧ Below w.heap.size w w' := by
  have HC := Lib.hid (cread_u64 s w hm)
  generalize readC 8 (fun s => hd s 8) ltN s = RES at HC ⊢
  go_enter Tryz.func87, Tryz.ntmps87
  go_wp2_with fail
  refine HC.out.mono ?_
  rintro e w1 ⟨hp, hb⟩
  have HB := Lib.hid hb
  clear hb HC
  cases RES with
  | none =>
    obtain ⟨n, rfl, hn⟩ := hp
    go_wp2_with fail
    go_ret2
    exact ⟨⟨n, rfl, hn⟩, HB.out⟩
  | some l =>
    obtain ⟨v, rfl, ho⟩ := hp
    have HO := Lib.hid ho
    clear ho
    go_wp2_with fail
    go_ret2
    exact ⟨⟨v, rfl, HO.out⟩, HB.out⟩
set_option maxHeartbeats 8000000 in
theorem take16s : Takes 86 (fun v _ c => take16 v c) := by
  intro b c v four w h hm
  have HDEC := Lib.hid (cdec_16 v w hm)
  obtain ⟨a, hc, ho, hac⟩ := h.x
  have HC := Lib.hid hc
  have HO := Lib.hid ho
  have HAC := Lib.hid hac
  have hlt := hc.lt
  have HT : Hid (take16 v c = match readC 8 (fun s => hd s 8) ltN v with
    | none => ({ c with exts := [] }, false)
    | some l => ({ c with exts := l }, true)) := rfl
  have HFT : Hid (∀ l, readC 8 (fun s => hd s 8) ltN v = some l → ∀ x ∈ l, (fun n : Nat => n < 18446744073709551616) x) := fun l hl => readC_all (p := (fun n : Nat => n < 18446744073709551616)) (fun s => hd_u64 s) hl
  clear hc ho hac h
  generalize readC 8 (fun s => hd s 8) ltN v = RES at HDEC HT HFT
  show Calls _ _ _ _ fun e w' => e = .returned (.bool (take16 v c).2) ∧ AtVar w' b (take16 v c).1 ∧ Tk w w' b
  generalize take16 v c = res at HT ⊢
  go_enter Tryz.func86, Tryz.ntmps86
  go_wp2_with fail
  refine HDEC.out.mono ?_
  rintro e w1 ⟨hpost, hb⟩
  have HC1 : Hid (CellsAt w1 b a.ar 40) := HC.out.below hb hlt
  have HO1 : Hid (AtO w1 (b + 1) a) := HO.out.below hb
  have HB1 := Lib.hid hb
  obtain ⟨c0, c1, c2, c3, c4, c5, c6, c7, c8, c9, c10, c11, c12, c13, c14, c15⟩ := atr_cells HC1.out
  have cf := HC1.out.unfrozen 11
  clear c0 c1 c2 c3 c4 c5 c6 c7 c8 c9 c10 c12 c13 c14 c15
  clear hb HDEC
  cases RES with
  | none =>
    obtain ⟨n, rfl, hn⟩ := hpost
    have hn0 : (n == 0) = false := beq_eq_false_iff_ne.2 (by omega)
    clear hn
    go_wp2_with fail
    go_ret
    refine ⟨by rw [HT.out]; rfl, ?_, Tk.below_set _ HB1.out hlt⟩
    rw [HT.out]
    exact ⟨⟨{ a with xA := none, exts := [], xC := 0 }, HC1.out.setAt 11 _, { HO1.out.setc with exts := OwnL.nil _ _ _ _ _, xfit := fun x hx => by cases hx }, ⟨by rw [← HAC.out.1]; rfl, HAC.out.2⟩⟩⟩
  | some l =>
    obtain ⟨pv, rfl, hso⟩ := hpost
    obtain ⟨A, cc, rfl⟩ := hso.form
    have HSG : Hid (OwnL w1 (b + 1) 57 1 x1 (.slice A l.length cc) l) := OwnM.lower hso (by omega)
    clear hso
    go_wp2_with fail
    go_ret
    refine ⟨by rw [HT.out]; rfl, ?_, Tk.below_set _ HB1.out hlt⟩
    rw [HT.out]
    exact ⟨⟨{ a with xA := A, exts := l, xC := cc }, HC1.out.setAt 11 _, { HO1.out.setc with exts := HSG.out.keep (fun k h1 _ => Below.heap_setCell w1 _ _ k (by show k ≠ b; omega)), xfit := HFT.out l rfl }, ⟨by rw [← HAC.out.1]; rfl, HAC.out.2⟩⟩⟩
set_option maxHeartbeats 4000000 in
theorem cdec_32 (s : ByteArray) (w : World) (hm : (s.size : Int) ≤ 140737488351232) :
    Calls Tryz.prog 89 #[.string s] w fun e w' => RcPost (w.heap.size + 1) 59 3 Lg.cs (readC 12 lg12 ltL s) w' e ∧ Below w.heap.size w w' := by
  have HC := Lib.hid (cread_L s w hm)
  generalize readC 12 lg12 ltL s = RES at HC ⊢
  go_enter Tryz.func89, Tryz.ntmps89
  go_wp2_with fail
  refine HC.out.mono ?_
  rintro e w1 ⟨hp, hb⟩
  have HB := Lib.hid hb
  clear hb HC
  cases RES with
  | none =>
    obtain ⟨n, rfl, hn⟩ := hp
    go_wp2_with fail
    go_ret2
    exact ⟨⟨n, rfl, hn⟩, HB.out⟩
  | some l =>
    obtain ⟨v, rfl, ho⟩ := hp
    have HO := Lib.hid ho
    clear ho
    go_wp2_with fail
    go_ret2
    exact ⟨⟨v, rfl, HO.out⟩, HB.out⟩
set_option maxHeartbeats 8000000 in
theorem take32s : Takes 88 (fun v _ c => take32 v c) := by
  intro b c v four w h hm
  have HDEC := Lib.hid (cdec_32 v w hm)
  obtain ⟨a, hc, ho, hac⟩ := h.x
  have HC := Lib.hid hc
  have HO := Lib.hid ho
  have HAC := Lib.hid hac
  have hlt := hc.lt
  have HT : Hid (take32 v c = match readC 12 lg12 ltL v with
    | none => ({ c with larges := [] }, false)
    | some l => ({ c with larges := l }, true)) := rfl
  have HFT : Hid (∀ l, readC 12 lg12 ltL v = some l → ∀ x ∈ l, (fun x : Lg => x.g < 4294967296 ∧ x.a < 4294967296 ∧ x.b < 4294967296) x) := fun l hl => readC_all (p := (fun x : Lg => x.g < 4294967296 ∧ x.a < 4294967296 ∧ x.b < 4294967296)) (fun s => ⟨hd_u32 _, hd_u32 _, hd_u32 _⟩) hl
  clear hc ho hac h
  generalize readC 12 lg12 ltL v = RES at HDEC HT HFT
  show Calls _ _ _ _ fun e w' => e = .returned (.bool (take32 v c).2) ∧ AtVar w' b (take32 v c).1 ∧ Tk w w' b
  generalize take32 v c = res at HT ⊢
  go_enter Tryz.func88, Tryz.ntmps88
  go_wp2_with fail
  refine HDEC.out.mono ?_
  rintro e w1 ⟨hpost, hb⟩
  have HC1 : Hid (CellsAt w1 b a.ar 40) := HC.out.below hb hlt
  have HO1 : Hid (AtO w1 (b + 1) a) := HO.out.below hb
  have HB1 := Lib.hid hb
  obtain ⟨c0, c1, c2, c3, c4, c5, c6, c7, c8, c9, c10, c11, c12, c13, c14, c15⟩ := atr_cells HC1.out
  have cf := HC1.out.unfrozen 12
  clear c0 c1 c2 c3 c4 c5 c6 c7 c8 c9 c10 c11 c13 c14 c15
  clear hb HDEC
  cases RES with
  | none =>
    obtain ⟨n, rfl, hn⟩ := hpost
    have hn0 : (n == 0) = false := beq_eq_false_iff_ne.2 (by omega)
    clear hn
    go_wp2_with fail
    go_ret
    refine ⟨by rw [HT.out]; rfl, ?_, Tk.below_set _ HB1.out hlt⟩
    rw [HT.out]
    exact ⟨⟨{ a with lA := none, larges := [], lC := 0 }, HC1.out.setAt 12 _, { HO1.out.setc with larges := OwnL.nil _ _ _ _ _, lfit := fun x hx => by cases hx }, ⟨by rw [← HAC.out.1]; rfl, HAC.out.2⟩⟩⟩
  | some l =>
    obtain ⟨pv, rfl, hso⟩ := hpost
    obtain ⟨A, cc, rfl⟩ := hso.form
    have HSG : Hid (OwnL w1 (b + 1) 59 3 Lg.cs (.slice A l.length cc) l) := OwnM.lower hso (by omega)
    clear hso
    go_wp2_with fail
    go_ret
    refine ⟨by rw [HT.out]; rfl, ?_, Tk.below_set _ HB1.out hlt⟩
    rw [HT.out]
    exact ⟨⟨{ a with lA := A, larges := l, lC := cc }, HC1.out.setAt 12 _, { HO1.out.setc with larges := HSG.out.keep (fun k h1 _ => Below.heap_setCell w1 _ _ k (by show k ≠ b; omega)), lfit := HFT.out l rfl }, ⟨by rw [← HAC.out.1]; rfl, HAC.out.2⟩⟩⟩
theorem row_is {t : Nat} {b wr b' wr' : Int} {i i' : Bool} {f f' : FuncId} (h : rowF t = some (b, wr, i, f)) (h' : rowF t = some (b', wr', i', f')) : f = f' := by
  rw [h] at h'
  injection h' with h'
  simp only [Prod.mk.injEq] at h'
  exact h'.2.2.2
/-- each type is taken so -/
theorem tab_takes (n : Nat) (b wr : Int) (i : Bool) (f : FuncId) (h : rowF n = some (b, wr, i, f)) : TakesT tab n f := by
  have hk := row_known h
  unfold TakesT
  rcases hk with rfl | rfl | rfl | rfl | rfl | rfl | rfl | rfl | rfl | rfl | rfl | rfl
  · rw [if_neg (by decide), row_is h (show rowF 1 = some (_, _, _, _) from rfl)]
    exact ⟨takes1, fun v four c => by show (take1 v c).1.clus = c.clus; unfold take1; split <;> rfl⟩
  · rw [if_neg (by decide), row_is h (show rowF 2 = some (_, _, _, _) from rfl)]
    exact ⟨takes2, fun v four c => by show (take2 v four c).1.clus = c.clus; unfold take2; split <;> rfl⟩
  · rw [if_neg (by decide), row_is h (show rowF 3 = some (_, _, _, _) from rfl)]
    exact ⟨takes3, fun v four c => rfl⟩
  · rw [if_neg (by decide), row_is h (show rowF 4 = some (_, _, _, _) from rfl)]
    exact ⟨take4s, fun v four c => by show (take4 v c).1.clus = c.clus; unfold take4; split <;> rfl⟩
  · rw [if_neg (by decide), row_is h (show rowF 5 = some (_, _, _, _) from rfl)]
    exact ⟨take5s, fun v four c => by show (take5 v c).1.clus = c.clus; unfold take5; split <;> rfl⟩
  · rw [if_neg (by decide), row_is h (show rowF 6 = some (_, _, _, _) from rfl)]
    exact ⟨take6s, fun v four c => rfl⟩
  · rw [if_neg (by decide), row_is h (show rowF 7 = some (_, _, _, _) from rfl)]
    exact ⟨take7s, fun v four c => by show (take7 v four c).1.clus = c.clus; unfold take7; split <;> rfl⟩
  · rw [if_neg (by decide), row_is h (show rowF 8 = some (_, _, _, _) from rfl)]
    exact ⟨take8s, fun v four c => by show (take8 v c).1.clus = c.clus; unfold take8; split <;> rfl⟩
  · rw [if_neg (by decide), row_is h (show rowF 9 = some (_, _, _, _) from rfl)]
    exact ⟨take9s, fun v four c => by show (take9 v c).1.clus = c.clus; unfold take9; split <;> rfl⟩
  · rw [if_pos rfl, row_is h (show rowF 10 = some (_, _, _, _) from rfl)]
    exact take10s
  · rw [if_neg (by decide), row_is h (show rowF 16 = some (_, _, _, _) from rfl)]
    exact ⟨take16s, fun v four c => by show (take16 v c).1.clus = c.clus; unfold take16; split <;> rfl⟩
  · rw [if_neg (by decide), row_is h (show rowF 32 = some (_, _, _, _) from rfl)]
    exact ⟨take32s, fun v four c => by show (take32 v c).1.clus = c.clus; unfold take32; split <;> rfl⟩
end Go.Proofs.YtkcojblflebomaaGreat
