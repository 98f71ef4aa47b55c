/-
  Several texts in one.
-/
import Derived.Test.YtojiieghjhjoaaaGreatMY14
import Derived.Test.YtojiieghjhjoaaaGreatMY8
set_option linter.unusedVariables false
set_option linter.unusedSimpArgs false
namespace Go.Proofs.YtojiieghjhjoaaaGreat
open Go.RowKit Go.MapKept Go.Shelf
open Go.Lib hiding intOf

theorem seg_size : (Tryz.prog.info? 67).map (·.size) = some 2 := by kernel_rfl
theorem seg_under : ∃ fs, Tryz.prog.underlying 67 = some (.struct fs) := ⟨_, Tryz.underlying67⟩
theorem grown_row (w : World) (b : Nat) (ds : Array Value) : w.grownBy (w.setRow b ds) (some b) :=
  ⟨rfl, rfl, rfl, by rw [setRow_size]; exact Nat.le_refl _, fun i h1 h2 => setRow_other w b i ds (fun e => h2 (by rw [e]))⟩
theorem wpList_store_seg {ops : Array Oper} {rest : List Oper} {op : Oper} {a : Act} {w : World} {Q : Exit → Act → World → Prop} (hgd : op.guard = none) (x y : Operand) (ho : op.op = .store 67 x y) (b : Nat) (hx : a.eval x = .pointer (some ⟨b, 0, none⟩)) (k : Int) (A : Option Addr) (n c : Nat) (hy : a.eval y = .agg #[.int .i64 k, .slice A n c]) (q q2 : Value) (hc : CellsAt w b #[q, q2] 67)
    (h : wpList Tryz.prog ops Q rest (a.put op.dst undef) (w.setRow b #[.int .i64 k, .slice A n c])) : wpList Tryz.prog ops Q (op :: rest) a w :=
  wpList_store_row hgd 67 x y ho b #[.int .i64 k, .slice A n c] hx hy 67 #[q, q2] hc (by rw [seg_size]; rfl) rfl (by simp [Value.oneCell']) h
theorem results_seg {fn : Func} {p : Tmp} (h : fn.results = #[.cell p 67]) (tmps : Array Value) (w : World) (g : Nat) (x y : Value) (hp : tmps.getD p undef = .pointer (some ⟨g, 0, none⟩)) (hg : CellsAt w g #[x, y] 67) :
    (results fn tmps).run Tryz.prog w = .ok (.agg #[x, y]) w := by
  obtain ⟨fs, hu⟩ := seg_under
  exact results_cell_row h tmps w g 67 #[x, y] (0, 0) _ hp hg hu rfl (by rw [seg_size]; rfl)
theorem take_snoc {α : Type} {l : List α} {k : Nat} {x : α} (h : l[k]? = some x) : l.take (k + 1) = l.take k ++ [x] := by
  rw [List.take_add_one, h]
  rfl
set_option maxRecDepth 100000 in
set_option maxHeartbeats 8000000 in
theorem rown_seg (s : Sg) (w : World) (h : SgOk w s) (hsz : s.as_.length * 4 ≤ 140737488351232) :
    Calls Tryz.prog 86 #[.agg #[.int .i64 s.kind, .slice s.A s.as_.length s.cap]] w fun e w' => (∃ A c, e = .returned (.agg #[.int .i64 s.kind, .slice A s.as_.length c]) ∧ OwnL w' w.heap.size 22 1 u1 (.slice A s.as_.length c) s.as_) ∧ Below w.heap.size w w' := by
  obtain ⟨i0, hi, hz0, hz1, hz2⟩ := info_parts infoU32
  have HI := Lib.hid hi
  have HZ0 := Lib.hid hz0
  have HZ1 := Lib.hid hz1
  have HZ2 := Lib.hid hz2
  clear hi hz0 hz1 hz2
  have HR := Lib.hid h
  have hl := h.len
  have hc : s.cap ≤ 9223372036854775807 := h.cap
  clear h
  obtain ⟨V, hV⟩ : ∃ V, V = ((w.alloc (.cells #[.int .i64 s.kind, .slice s.A s.as_.length s.cap] 67)).alloc (.cells #[.int .i64 0, .slice none 0 0] 67)) := ⟨_, rfl⟩
  have HS0 : Hid (CellsAt V w.heap.size #[.int .i64 s.kind, .slice s.A s.as_.length s.cap] 67) := by rw [hV]; exact (CellsAt.new _ _ _).alloc _
  have HS1 : Hid (CellsAt V (w.heap.size + 1) #[.int .i64 0, .slice none 0 0] 67) := by
    rw [hV]
    have h := CellsAt.new (w.alloc (.cells #[.int .i64 s.kind, .slice s.A s.as_.length s.cap] 67)) #[.int .i64 0, .slice none 0 0] 67
    rwa [show (w.alloc (.cells #[.int .i64 s.kind, .slice s.A s.as_.length s.cap] 67)).heap.size = w.heap.size + 1 by simp] at h
  have HBV : Hid (Below w.heap.size w V) := by rw [hV]; exact ((Below.refl _ _).alloc (Nat.le_refl _) _).alloc (by simp) _
  have hVs : V.heap.size = w.heap.size + 1 + 1 := by rw [hV]; simp
  have HVS := Lib.hid hVs
  clear hVs
  go_enter Tryz.func86, Tryz.ntmps86
  go_upto_region 1 with fail
  rw [← hV]
  clear hV
  go_wp2_with fail
  go_loopw [3, 4] (fun v i wr => ∃ (k : Nat) (A : Option Addr) (c : Nat), v = .slice A k c ∧ i = .int .i64 k ∧ k ≤ s.as_.length ∧ Hid (OwnL wr (w.heap.size + 1 + 1) 22 1 u1 (.slice A k c) (s.as_.take k)) ∧ Hid (Below V.heap.size V wr)) (fun _ i _ => s.as_.length + 1 - (intOf i).toNat)
  case atStart => exact ⟨0, none, 0, rfl, rfl, by omega, OwnL.nil _ _ _ _ _, Below.refl _ _⟩
  case round =>
    obtain ⟨k, A, c, rfl, rfl, hk, HO, HB⟩ := hrel
    have HC0 : Hid (CellsAt wr w.heap.size #[.int .i64 s.kind, .slice s.A s.as_.length s.cap] 67) := HS0.out.below HB.out HS0.out.lt
    have HC1 : Hid (CellsAt wr (w.heap.size + 1) #[.int .i64 0, .slice none 0 0] 67) := HS1.out.below HB.out HS1.out.lt
    have HBW : Hid (Below w.heap.size w wr) := HBV.out.trans (HB.out.mono HBV.out.size)
    obtain ⟨c0, c1⟩ := HC0.out.c2
    by_cases hlt : k < s.as_.length
    · obtain ⟨n, hn⟩ : ∃ n, s.as_[k]? = some n := ⟨s.as_[k], List.getElem?_eq_getElem hlt⟩
      obtain ⟨b1, o1, hA, hb1, q0⟩ := num_at (HR.out.below HBW.out (Nat.le_refl _)).rd hn
      rw [hA] at c1
      have HTK := Lib.hid (take_snoc hn)
      have hs2 : w.heap.size + 1 + 1 ≤ wr.heap.size := by rw [← HVS.out]; exact HB.out.size
      clear hn hA
      have HCB : Hid (CellsAt (wr.alloc (.cells #[.int .u32 (n : Nat)] 22)) wr.heap.size #[.int .u32 (n : Nat)] 22) := CellsAt.new _ _ _
      have HS := Lib.hid (Src.block (P := Tryz.prog) (t2 := 29) (size := 1) (m := 1) (c := 1) Tryz.underlying29 HCB.out rfl (by simp [Value.oneCell']))
      have HOa := Lib.hid (HO.out.alloc (.cells #[.int .u32 (n : Nat)] 22))
      have HBa : Hid (Below V.heap.size V (wr.alloc (.cells #[.int .u32 (n : Nat)] 22))) := HB.out.alloc HB.out.size _
      have HBS : Hid (w.heap.size + 1 + 1 ≤ (wr.alloc (.cells #[.int .u32 (n : Nat)] 22)).heap.size) := by show _ ≤ _; simp; omega
      have HM : Hid (k + 1 ≤ maxLen) := by show _ ≤ _; unfold maxLen; omega
      have HY : Hid ((k + 1) * 4 ≤ 140737488355328) := by show _ ≤ _; omega
      have HL1 : Hid ((s.as_.take k).length = k) := by show _ = _; rw [List.length_take]; omega
      go_wp2_with (at_builtin; refine wpList_append_m rfl (.tmp 12) (.tmp 18) 29 29 rfl (w.heap.size + 1 + 1) 22 i0 _ 1 4 Tryz.underlying29 HI.out HZ0.out HZ1.out HZ2.out rfl (by decide) (.slice A k c) k ((s.as_.take k).flatMap u1) rfl (by have h := HOa.out; unfold OwnL at h; rwa [HL1.out] at h) _ 1 _ rfl HS.out HM.out HY.out HBS.out ?_)
      intro v' w5 hown hgr hat
      obtain ⟨A6, c6, rfl⟩ := hown.form
      have HN5 : Hid (OwnL w5 (w.heap.size + 1 + 1) 22 1 u1 (.slice A6 (k + 1) c6) (s.as_.take (k + 1))) := by
        show OwnL _ _ _ _ _ _ _
        rw [HTK.out]
        refine OwnL.snoc ?_
        rw [HL1.out]
        exact hown
      have HB5 : Hid (Below V.heap.size V w5) := HBa.out.grown hgr (by have := HBa.out.size; exact this) (fun k2 hk2 => by
        have h3 := (OwnM.lt HOa.out k2 hk2).1
        rw [HVS.out]
        exact h3)
      clear hown hgr hat HCB HS HOa HBa HBS HM HY
      go_wp2_with fail
      exact ⟨⟨k + 1, A6, c6, rfl, by go_num, by omega, HN5.out, HB5.out⟩, by simp [intOf]; omega⟩
    · obtain rfl : k = s.as_.length := by omega
      have HOF : Hid (OwnL wr (w.heap.size + 1 + 1) 22 1 u1 (.slice A s.as_.length c) s.as_) := by
        have h := HO.out
        rwa [List.take_length] at h
      clear HO
      go_wp2_with (with_reducible show wpList _ _ _ (_ :: _) _ _; refine wpList_store_seg rfl (.tmp 2) (.tmp 23) rfl (w.heap.size + 1) rfl s.kind A s.as_.length c rfl _ _ HC1.out ?_)
      try simp only [Exit.inBlock, Exit.then]
      have HG := Lib.hid (grown_row wr (w.heap.size + 1) #[.int .i64 s.kind, .slice A s.as_.length c])
      refine bodyPost_ret (results_seg rfl _ _ (w.heap.size + 1) (.int .i64 s.kind) (.slice A s.as_.length c) rfl (setRow_heap wr (w.heap.size + 1) _ _ _ _ HC1.out)) rfl ⟨⟨A, c, rfl, ?_⟩, ?_⟩
      · exact (HOF.out.grown HG.out (fun q hq => by cases hq; omega)).lower (by omega)
      · exact HBW.out.grown HG.out HBW.out.size (fun q hq => by cases hq; omega)
set_option maxRecDepth 100000 in
set_option maxHeartbeats 8000000 in
theorem rownall_any (A : Option Addr) (cap : Nat) (l : List Sg) (w : World) (h : Rd w A 2 (l.map Sg.cs)) (hs : ∀ s ∈ l, SgOk w s) (hl : l.length ≤ cap) (hc : cap ≤ maxLen) (hsz : ∀ s ∈ l, s.as_.length * 4 ≤ 140737488351232) (hlz : l.length * 32 ≤ 140737488351232) :
    Calls Tryz.prog 65 #[.slice A l.length cap] w fun e w' => (∃ A c segs, e = .returned (.slice A l.length c) ∧ segs.length = l.length ∧ segs.map Sg.c = l.map Sg.c ∧ SegsO w' w.heap.size (.slice A segs.length c) segs) ∧ Below w.heap.size w w' := by
  obtain ⟨i1, hi, hz0, hz1, hz2⟩ := info_parts infoSeg
  have HI := Lib.hid hi
  have HZ0 := Lib.hid hz0
  have HZ1 := Lib.hid hz1
  have HZ2 := Lib.hid hz2
  clear hi hz0 hz1 hz2
  have HR := Lib.hid h
  have HS := Lib.hid hs
  have HSZ := Lib.hid hsz
  have hc : cap ≤ 9223372036854775807 := hc
  have HOWN := Lib.hid rown_seg
  clear h hs hsz
  go_enter Tryz.func65, Tryz.ntmps65
  go_wp2_with fail
  go_loopw [3, 4] (fun v i wr => ∃ (k : Nat) (A2 : Option Addr) (c2 : Nat) (segs : List Sg), v = .slice A2 k c2 ∧ i = .int .i64 k ∧ k ≤ l.length ∧ Hid (segs.length = k) ∧ Hid (segs.map Sg.c = (l.take k).map Sg.c) ∧ Hid (SegsO wr w.heap.size (.slice A2 k c2) segs) ∧ Hid (Below w.heap.size w wr)) (fun _ i _ => l.length + 1 - (intOf i).toNat)
  case atStart => exact ⟨0, none, 0, [], rfl, rfl, by omega, rfl, rfl, SegsO.nil _ _, Below.refl _ _⟩
  case round =>
    obtain ⟨k, A2, c2, segs, rfl, rfl, hk, HL, HC, HO, HB⟩ := hrel
    by_cases hlt : k < l.length
    · obtain ⟨s, hx⟩ : ∃ s, l[k]? = some s := ⟨l[k], List.getElem?_eq_getElem hlt⟩
      have hmem := List.mem_of_getElem? hx
      have hrow : (l.map Sg.cs)[k]? = some s.cs := by rw [List.getElem?_map, hx]; rfl
      obtain ⟨b1, o1, rfl, hb1, hcell⟩ := (HR.out.below HB.out (Nat.le_refl _)).at_ hrow
      have q0 := hcell 0 (.int .i64 s.kind) rfl
      have q1 := hcell 1 (.slice s.A s.as_.length s.cap) rfl
      rw [Nat.add_zero] at q0
      have HTK := Lib.hid (take_snoc hx)
      have HSS := Lib.hid ((HS.out s hmem).below HB.out (Nat.le_refl _))
      have HZS := Lib.hid (HSZ.out s hmem)
      have HKF := Lib.hid (HS.out s hmem).kfit
      have HFT := Lib.hid (HS.out s hmem).fits
      clear hx hmem hrow hcell
      go_wp2_with fail
      refine (HOWN.out s _ HSS.out HZS.out).mono ?_
      rintro e w2 ⟨⟨A3, c3, rfl, ho2⟩, hb2⟩
      have hs1 := HB.out.size
      have HA2 : Hid (OwnL w2 w.heap.size 22 1 u1 (.slice A3 s.as_.length c3) s.as_) := OwnM.lower ho2 hs1
      have HO2 : Hid (SegsO w2 w.heap.size (.slice A2 k c2) segs) := HO.out.keep (fun i h1 h2 => hb2.block i h2)
      have HB2 : Hid (Below w.heap.size w w2) := HB.out.trans (hb2.mono hs1)
      have hs2 := HB2.out.size
      clear ho2 hb2 HO HB HSS q0 q1
      have HCB : Hid (CellsAt (w2.alloc (.cells #[.int .i64 s.kind, .slice A3 s.as_.length c3] 67)) w2.heap.size #[.int .i64 s.kind, .slice A3 s.as_.length c3] 67) := CellsAt.new _ _ _
      have HSR := Lib.hid (Src.block (P := Tryz.prog) (t2 := 28) (size := 2) (m := 1) (c := 1) Tryz.underlying28 HCB.out rfl (by simp [Value.oneCell']))
      have HOa : Hid (SegsO (w2.alloc (.cells #[.int .i64 s.kind, .slice A3 s.as_.length c3] 67)) w.heap.size (.slice A2 k c2) segs) := HO2.out.keep (fun i h1 h2 => Below.heap_alloc _ _ _ h2)
      have HAa := Lib.hid (HA2.out.alloc (.cells #[.int .i64 s.kind, .slice A3 s.as_.length c3] 67))
      have HBa : Hid (Below w.heap.size w (w2.alloc (.cells #[.int .i64 s.kind, .slice A3 s.as_.length c3] 67))) := HB2.out.alloc hs2 _
      have HBS : Hid (w.heap.size ≤ (w2.alloc (.cells #[.int .i64 s.kind, .slice A3 s.as_.length c3] 67)).heap.size) := by show _ ≤ _; simp; omega
      have HM : Hid (k + 1 ≤ maxLen) := by show _ ≤ _; unfold maxLen; omega
      have HY : Hid ((k + 1) * 32 ≤ 140737488355328) := by show _ ≤ _; omega
      go_wp2_with (at_builtin; refine wpList_append_m rfl (.tmp 11) (.tmp 17) 28 28 rfl w.heap.size 67 i1 _ 2 32 Tryz.underlying28 HI.out HZ0.out HZ1.out HZ2.out rfl (by decide) (.slice A2 k c2) k (segs.flatMap Sg.cs) rfl (by have h := HOa.out.own; unfold OwnL at h; rwa [HL.out] at h) _ 1 _ rfl HSR.out HM.out HY.out HBS.out ?_)
      intro v' w5 hown hgr hat
      obtain ⟨A6, c6, rfl⟩ := hown.form
      have HN5 : Hid (SegsO w5 w.heap.size (.slice A6 (k + 1) c6) (segs ++ [(⟨s.kind, A3, s.as_, c3⟩ : Sg)])) := ⟨OwnL.snoc (by rw [HL.out]; exact hown), fun q hq => by
        rcases List.mem_append.1 hq with hq | hq
        · obtain ⟨q1, q2⟩ := HOa.out.as_ q hq
          exact ⟨OwnM.grown q1 hgr (own_ne q1 HOa.out.own (by decide)), q2⟩
        · obtain rfl := List.mem_singleton.1 hq
          exact ⟨OwnM.grown HAa.out hgr (own_ne HAa.out HOa.out.own (by decide)), HFT.out, HKF.out⟩⟩
      have HB5 : Hid (Below w.heap.size w w5) := OwnM.below_grown HOa.out.own hgr HBa.out (by have := HBa.out.size; exact this) (by omega)
      clear hown hgr hat
      go_wp2_with fail
      exact ⟨⟨k + 1, A6, c6, segs ++ [(⟨s.kind, A3, s.as_, c3⟩ : Sg)], rfl, by go_num, by omega, by show _ = _; rw [List.length_append, HL.out]; rfl, by show _ = _; rw [List.map_append, HC.out, HTK.out, List.map_append]; rfl, HN5.out, HB5.out⟩, by simp [intOf]; omega⟩
    · obtain rfl : k = l.length := by omega
      go_wp2_with fail
      go_ret
      refine ⟨⟨A2, c2, segs, rfl, HL.out, ?_, ?_⟩, HB.out⟩
      · have h := HC.out
        rwa [List.take_length] at h
      · rw [HL.out]
        exact HO.out
end Go.Proofs.YtojiieghjhjoaaaGreat
