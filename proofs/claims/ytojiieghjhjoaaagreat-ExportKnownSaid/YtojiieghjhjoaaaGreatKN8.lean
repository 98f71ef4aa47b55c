/-
  Several texts in one.
-/
import Derived.Test.YtojiieghjhjoaaaGreatKN7
set_option linter.unusedVariables false
set_option linter.unusedSimpArgs false
namespace Go.Proofs.YtojiieghjhjoaaaGreat
open Go.RowKit Go.MapKept Go.Shelf
open Go.Lib hiding intOf

set_option maxHeartbeats 4000000 in
theorem index_any (A : Option Addr) (cap : Nat) (l : List Nat) (n : Int) (w : World) (h : Rd w A 1 (nums .u32 l)) (hl : l.length ≤ cap) (hc : cap ≤ 9223372036854775807) :
    Calls Tryz.prog 95 #[.slice A l.length cap, .int .u32 n] w fun e w' => ∃ r : Int, e = .returned (.int .i64 r) ∧ decide (0 ≤ r) = hasN l n ∧ w' = w := by
  have HR := Lib.hid h
  clear h
  go_enter Tryz.func95, Tryz.ntmps95
  go_wp2_with fail
  go_loopw [8] (fun i wr => ∃ k : Nat, k ≤ l.length ∧ i = .int .i64 k ∧ hasN (l.take k) n = false ∧ wr = w) (fun i _ => l.length + 1 - (intOf i).toNat)
  case atStart => exact ⟨0, by omega, rfl, rfl, rfl⟩
  case round =>
    obtain ⟨k, hk, rfl, hno, hwr⟩ := hrel
    subst hwr
    have HNO := Lib.hid hno
    clear hno
    by_cases hlt : k < l.length
    · obtain ⟨x, hx⟩ : ∃ x, l[k]? = some x := ⟨l[k], List.getElem?_eq_getElem hlt⟩
      obtain ⟨b, off, rfl, hb, hcell⟩ := num_at HR.out hx
      have HX := Lib.hid hx
      clear hx
      by_cases he : n = (x : Int)
      · have hq : (n == (x : Int)) = true := by rw [he]; simp
        have HY := Lib.hid (hasN_yes HX.out he.symm)
        clear he
        go_wp2_with fail
        go_ret
        exact ⟨k, rfl, by rw [HY.out]; exact decide_eq_true (by omega), rfl⟩
      · have hq : (n == (x : Int)) = false := beq_eq_false_iff_ne.2 he
        have HY : Hid (hasN (l.take (k + 1)) n = false) := by
          show _ = _
          rw [hasN_take n HX.out, HNO.out, beq_eq_false_iff_ne.2 (fun e => he e.symm)]
          rfl
        clear he
        go_wp2_with fail
        exact ⟨⟨k + 1, by omega, by go_num, HY.out, by trivial⟩, by simp [intOf]; omega⟩
    · obtain rfl : k = l.length := by omega
      rw [List.take_length] at HNO
      go_wp2_with fail
      go_ret
      exact ⟨-1, rfl, by rw [HNO.out]; rfl, rfl⟩
set_option maxHeartbeats 4000000 in
theorem contains_any (A : Option Addr) (cap : Nat) (l : List Nat) (n : Int) (w : World) (h : Rd w A 1 (nums .u32 l)) (hl : l.length ≤ cap) (hc : cap ≤ 9223372036854775807) :
    Calls Tryz.prog 69 #[.slice A l.length cap, .int .u32 n] w fun e w' => e = .returned (.bool (hasN l n)) ∧ w' = w := by
  have HI := Lib.hid (index_any A cap l n w h hl hc)
  clear h
  go_enter Tryz.func69, Tryz.ntmps69
  go_wp2_with fail
  refine HI.out.mono ?_
  rintro e w' ⟨r, rfl, hr, rfl⟩
  have HR := Lib.hid hr
  clear hr HI
  go_wp2_with fail
  go_ret
  refine ⟨?_, rfl⟩
  rw [← HR.out]
  rfl
theorem sg_cells {w : World} {A : Option Addr} {l : List Sg} {i : Nat} {s : Sg} (h : Rd w A 2 (l.map Sg.cs)) (hi : l[i]? = some s) : ∃ b off, A = some ⟨b, off, none⟩ ∧ b < w.heap.size ∧ w.cell? ⟨b, off + i * 2, none⟩ = some (.int .i64 s.kind) ∧ w.cell? ⟨b, off + i * 2 + 1, none⟩ = some (.slice s.A s.as_.length s.cap) := by
  obtain ⟨b, off, hA, hb, hc⟩ := h.at_ (i := i) (cs := s.cs) (by rw [List.getElem?_map, hi]; rfl)
  exact ⟨b, off, hA, hb, hc 0 _ rfl, hc 1 _ rfl⟩
/-- segments in memory -/
structure SegsOk (w : World) (A : Option Addr) (cap : Nat) (l : List Sg) : Prop where
  rd : Rd w A 2 (l.map Sg.cs)
  segs : ∀ s ∈ l, SgOk w s
  len : l.length ≤ cap
  cap : cap ≤ 9223372036854775807
theorem SegsOk.below {w w' : World} {A : Option Addr} {cap : Nat} {l : List Sg} {B : Nat} (h : SegsOk w A cap l) (hb : Below B w w') (hB : w.heap.size ≤ B) : SegsOk w' A cap l := ⟨h.rd.below hb hB, fun s hs => (h.segs s hs).below hb hB, h.len, h.cap⟩
theorem AtrOk.path {w : World} {a : Atr} (h : AtrOk w a) : SegsOk w a.pA a.pC a.segs := ⟨h.prd, h.segs, h.plen, h.pcap⟩
theorem pathOk_all {l : List (Int × List Nat)} (h : l.length ≤ 16) : pathOk l = l.all segOk := by
  unfold pathOk
  rw [decide_eq_true h, Bool.true_and]
theorem pathOk_long {l : List (Int × List Nat)} (h : 16 < l.length) : pathOk l = false := by
  unfold pathOk
  rw [decide_eq_false (by omega), Bool.false_and]
theorem all_take {α : Type} {p : α → Bool} {l : List α} {k : Nat} {x : α} (h : l[k]? = some x) (h1 : (l.take k).all p = true) (h2 : p x = true) : (l.take (k + 1)).all p = true := by
  rw [List.take_add_one, h, Option.toList_some, List.all_append, h1, List.all_cons, h2]
  rfl
theorem all_no {α : Type} {p : α → Bool} {l : List α} {k : Nat} {x : α} (h : l[k]? = some x) (h2 : p x = false) : l.all p = false := by
  rw [Bool.eq_false_iff]
  intro e
  rw [List.all_eq_true.1 e x (List.mem_of_getElem? h)] at h2
  cases h2
set_option maxRecDepth 100000 in
set_option maxHeartbeats 8000000 in
theorem pcheck_any (A : Option Addr) (cap : Nat) (l : List Sg) (w : World) (h : SegsOk w A cap l) :
    Calls Tryz.prog 55 #[.slice A l.length cap] w fun e w' => e = .returned (.int .i64 (okN (pathOk (l.map Sg.c)))) ∧ Below w.heap.size w w' := by
  have HR := Lib.hid h
  have hl := h.len
  have hc := h.cap
  have HC := Lib.hid contains_any
  clear h
  have HQ : ∀ s : Sg, Hid (segOk s.c = (decide (1 ≤ s.kind) && decide (s.kind ≤ 4) && decide (1 ≤ s.as_.length) && decide (s.as_.length ≤ 255) && !hasN s.as_ 0)) := fun s => Lib.hid rfl
  by_cases h16 : l.length ≤ 16
  · have HP : Hid (pathOk (l.map Sg.c) = (l.map Sg.c).all segOk) := pathOk_all (by rw [List.length_map]; exact h16)
    generalize pathOk (l.map Sg.c) = res at HP ⊢
    have h16' : ¬ (16 < (l.length : Int)) := by omega
    go_enter Tryz.func55, Tryz.ntmps55
    go_wp2_with fail
    go_loopw [10] (fun i wr => ∃ k : Nat, k ≤ l.length ∧ i = .int .i64 k ∧ Hid (((l.map Sg.c).take k).all segOk = true) ∧ Hid (Below w.heap.size w wr)) (fun i _ => l.length + 1 - (intOf i).toNat)
    case atStart => exact ⟨0, by omega, rfl, rfl, Below.refl _ _⟩
    case round =>
      obtain ⟨k, hk, rfl, HT, HB⟩ := hrel
      by_cases hlt : k < l.length
      · obtain ⟨s, hs⟩ : ∃ s, l[k]? = some s := ⟨l[k], List.getElem?_eq_getElem hlt⟩
        have HO := HR.out.below HB.out (Nat.le_refl _)
        obtain ⟨b, off, rfl, hb, c0, c1⟩ := sg_cells HO.rd hs
        have HSO := Lib.hid (HO.segs s (List.mem_of_getElem? hs))
        have hs1 : s.as_.length ≤ 9223372036854775807 := Nat.le_trans HSO.out.len HSO.out.cap
        have HS := Lib.hid (show (l.map Sg.c)[k]? = some s.c by rw [List.getElem?_map, hs]; rfl)
        have HBW : Hid (Below w.heap.size w (wr.alloc (.cells #[.int .i64 s.kind, .slice s.A s.as_.length s.cap] 67))) := HB.out.alloc HB.out.size _
        have HCC := Lib.hid (HC.out s.A s.cap s.as_ 0 (wr.alloc (.cells #[.int .i64 s.kind, .slice s.A s.as_.length s.cap] 67)) (HSO.out.rd.below ((Below.refl _ _).alloc (Nat.le_refl _) _) (Nat.le_refl _)) HSO.out.len HSO.out.cap)
        have HQ := HQ s
        clear HO hs
        by_cases h1 : s.kind < 1
        · have HN : Hid (res = false) := by
            show _ = _
            rw [HP.out]; exact all_no HS.out (by rw [HQ.out, decide_eq_false (by omega)]; rfl)
          go_wp2_with fail
          go_ret
          exact ⟨by rw [HN.out]; rfl, HBW.out⟩
        · by_cases h2 : 4 < s.kind
          · have HN : Hid (res = false) := by
              show _ = _
              rw [HP.out]; exact all_no HS.out (by rw [HQ.out, decide_eq_false (show ¬ s.kind ≤ 4 by omega), Bool.and_false]; rfl)
            go_wp2_with fail
            go_ret
            exact ⟨by rw [HN.out]; rfl, HBW.out⟩
          · by_cases h3 : s.as_.length = 0
            · have HN : Hid (res = false) := by
                show _ = _
                rw [HP.out]; exact all_no HS.out (by rw [HQ.out, decide_eq_false (show ¬ 1 ≤ s.as_.length by omega), Bool.and_false]; rfl)
              have h3' : (s.as_.length : Int) < 1 := by omega
              clear h3
              go_wp2_with fail
              go_ret
              exact ⟨by rw [HN.out]; rfl, HBW.out⟩
            · have h3' : ¬ (s.as_.length : Int) < 1 := by omega
              clear h3
              by_cases h4 : 255 < s.as_.length
              · have HN : Hid (res = false) := by
                  show _ = _
                  rw [HP.out]; exact all_no HS.out (by rw [HQ.out, decide_eq_false (show ¬ s.as_.length ≤ 255 by omega), Bool.and_false]; rfl)
                have h4' : 255 < (s.as_.length : Int) := by omega
                clear h4
                go_wp2_with fail
                go_ret
                exact ⟨by rw [HN.out]; rfl, HBW.out⟩
              · have h4' : ¬ 255 < (s.as_.length : Int) := by omega
                cases h5 : hasN s.as_ 0 with
                | true =>
                  have HN : Hid (res = false) := by
                    show _ = _
                    rw [HP.out]; exact all_no HS.out (by rw [HQ.out, h5, Bool.not_true, Bool.and_false])
                  rw [h5] at HCC
                  clear h5 h4
                  go_wp2_with fail
                  refine HCC.out.mono ?_
                  rintro e w1 ⟨rfl, hw⟩
                  rw [hw]
                  clear hw
                  go_wp2_with fail
                  go_ret
                  exact ⟨by rw [HN.out]; rfl, HBW.out⟩
                | false =>
                  have HN : Hid (((l.map Sg.c).take (k + 1)).all segOk = true) := all_take HS.out HT.out (by rw [HQ.out, h5, decide_eq_true (show 1 ≤ s.kind by omega), decide_eq_true (show s.kind ≤ 4 by omega), decide_eq_true (show 1 ≤ s.as_.length by omega), decide_eq_true (show s.as_.length ≤ 255 by omega)]; rfl)
                  rw [h5] at HCC
                  clear h5 h4
                  go_wp2_with fail
                  refine HCC.out.mono ?_
                  rintro e w1 ⟨rfl, hw⟩
                  rw [hw]
                  clear hw
                  go_wp2_with fail
                  exact ⟨⟨k + 1, by omega, by go_num, HN.out, HBW.out⟩, by simp [intOf]; omega⟩
      · obtain rfl : k = l.length := by omega
        have HN : Hid (res = true) := by
          show _ = _
          rw [HP.out, ← HT.out, List.take_of_length_le (by rw [List.length_map]; exact Nat.le_refl _)]
        go_wp2_with fail
        go_ret
        exact ⟨by rw [HN.out]; rfl, HB.out⟩
  · have HP : Hid (pathOk (l.map Sg.c) = false) := pathOk_long (by rw [List.length_map]; omega)
    have h16' : 16 < (l.length : Int) := by omega
    clear h16
    go_enter Tryz.func55, Tryz.ntmps55
    go_wp2_with fail
    go_ret
    exact ⟨by rw [HP.out]; rfl, Below.refl _ _⟩
end Go.Proofs.YtojiieghjhjoaaaGreat
