/-
  AS paths that are read: their length, the neighbour. Conditions: sizes.
-/
import Derived.Test.YtoamigfjpcniaaaDeA
set_option linter.unusedVariables false
set_option linter.unusedSimpArgs false
namespace Go.Proofs.Ytoamigfjpcniaaa
open Go.RowKit Go.MapKept Go.Shelf
open Go.Lib hiding intOf

theorem beq_facts (f c : Int) : (f = c ∧ (f == c) = true) ∨ (f ≠ c ∧ (f == c) = false) := by
  by_cases h : f = c
  · exact .inl ⟨h, by rw [h]; simp⟩
  · exact .inr ⟨h, by rw [beq_eq_false_iff_ne]; exact h⟩
/-- a path's length -/
def segLen (n : Int) (s : Sg) : Int := if s.kind = 2 then wrap64 (n + s.as_.length) else if s.kind = 1 then wrap64 (n + 1) else n
def lenF (l : List Sg) : Int := l.foldl segLen 0
theorem lenF_succ (l : List Sg) (j : Nat) (s : Sg) (h : l[j]? = some s) : lenF (l.take (j + 1)) = segLen (lenF (l.take j)) s := by
  unfold lenF
  rw [List.take_add_one, h]
  simp
theorem sg_cells {w : World} {A : Option Addr} {l : List Sg} {j : Nat} {s : Sg} (h : Rd w A 2 (l.map Sg.cs)) (hj : l[j]? = some s) :
    ∃ b off, A = some ⟨b, off, none⟩ ∧ b < w.heap.size ∧ w.cell? ⟨b, off + j * 2, none⟩ = some (.int .i64 s.kind) ∧ w.cell? ⟨b, off + j * 2 + 1, none⟩ = some (.slice s.A s.as_.length s.cap) := by
  obtain ⟨b, off, rfl, hlt, hc⟩ := h.at_ (i := j) (cs := s.cs) (by rw [List.getElem?_map, hj]; rfl)
  exact ⟨b, off, rfl, hlt, hc 0 _ rfl, hc 1 _ rfl⟩
set_option maxHeartbeats 4000000 in
theorem length_any (A : Option Addr) (l : List Sg) (cap : Nat) (w : World) (h : Rd w A 2 (l.map Sg.cs)) (h1 : l.length ≤ cap) (h2 : cap ≤ maxLen) :
    Calls Try.prog 17 #[.slice A l.length cap] w fun e w' => e = .returned (.int .i64 (lenF l)) ∧ Below w.heap.size w w' := by
  have HR := Lib.hid h
  have hmax : cap ≤ 9223372036854775807 := h2
  clear h h2
  go_enter Try.func17, Try.ntmps17
  go_wp2_with fail
  go_loopw [3, 8] (fun n x wr => ∃ j : Nat, j ≤ l.length ∧ n = .int .i64 (lenF (l.take j)) ∧ x = .int .i64 j ∧ Hid (Below w.heap.size w wr)) (fun n x _ => l.length + 1 - (intOf x).toNat)
  case atStart => exact ⟨0, by omega, rfl, rfl, Lib.hid (Below.refl _ _)⟩
  case round =>
    obtain ⟨j, hj, rfl, rfl, HB⟩ := hrel
    by_cases hlt : j < l.length
    · obtain ⟨s, hs⟩ : ∃ s, l[j]? = some s := ⟨l[j]'hlt, List.getElem?_eq_getElem hlt⟩
      obtain ⟨b, off, rfl, hb, c0, c1⟩ := sg_cells HR.out hs
      have c0 := (HB.out.cell (p := ⟨b, off + j * 2, none⟩) hb).trans c0
      have c1 := (HB.out.cell (p := ⟨b, off + j * 2 + 1, none⟩) hb).trans c1
      have HS := Lib.hid (lenF_succ l j s hs)
      have HB1 := Lib.hid (fun cs => HB.out.alloc HB.out.size (.cells cs 84))
      clear hs HB
      generalize hn : lenF (l.take j) = n at *
      rcases beq_facts s.kind 2 with ⟨k1, k2⟩ | ⟨k1, k2⟩
      · go_wp2_with fail
        exact ⟨⟨j + 1, by omega, by rw [HS.out, segLen, if_pos k1], by go_num, HB1.out _⟩, by simp [intOf]; omega⟩
      · rcases beq_facts s.kind 1 with ⟨m1, m2⟩ | ⟨m1, m2⟩
        · go_wp2_with fail
          exact ⟨⟨j + 1, by omega, by rw [HS.out, segLen, if_neg k1, if_pos m1], by go_num, HB1.out _⟩, by simp [intOf]; omega⟩
        · go_wp2_with fail
          exact ⟨⟨j + 1, by omega, by rw [HS.out, segLen, if_neg k1, if_neg m1], by go_num, HB1.out _⟩, by simp [intOf]; omega⟩
    · obtain rfl : j = l.length := by omega
      rw [List.take_length]
      clear HR
      go_wp2_with fail
      go_ret
      exact ⟨rfl, HB.out⟩

/-- is a segment a confederation's? -/
def confF (k : Int) : Bool := decide (k = 3 ∨ k = 4)
theorem confed_any (k : Int) (v : Value) (w : World) : Calls Try.prog 45 #[.agg #[.int .i64 k, v]] w fun e w' => e = .returned (.bool (confF k)) ∧ Below w.heap.size w w' := by
  have HA := Lib.hid (fun cs => Below.alloc (Below.refl w.heap.size w) (Nat.le_refl _) (.cells cs 84))
  unfold confF
  rcases beq_facts k 3 with ⟨k1, k2⟩ | ⟨k1, k2⟩
  · subst k1
    go_enter Try.func45, Try.ntmps45
    go_wp2_with fail
    go_ret
    exact ⟨rfl, HA.out _⟩
  · rcases beq_facts k 4 with ⟨m1, m2⟩ | ⟨m1, m2⟩
    · subst m1
      go_enter Try.func45, Try.ntmps45
      go_wp2_with fail
      go_ret
      exact ⟨rfl, HA.out _⟩
    · rw [decide_eq_false (by omega)]
      go_enter Try.func45, Try.ntmps45
      go_wp2_with fail
      go_ret
      exact ⟨rfl, HA.out _⟩

/-- the neighbouring AS -/
def firstF : List Sg → Option Nat
  | [] => none
  | s :: r => if confF s.kind = true then firstF r else if s.kind = 2 then s.as_[0]? else none
theorem firstF_drop (l : List Sg) (j : Nat) (s : Sg) (h : l[j]? = some s) : firstF (l.drop j) = if confF s.kind = true then firstF (l.drop (j + 1)) else if s.kind = 2 then s.as_[0]? else none := by
  obtain ⟨hj, rfl⟩ := List.getElem?_eq_some_iff.1 h
  rw [List.drop_eq_getElem_cons hj]
  rfl
def firstV (o : Option Nat) : Value := match o with
  | none => .tuple #[.int .u32 0, .bool false]
  | some n => .tuple #[.int .u32 n, .bool true]
set_option maxHeartbeats 4000000 in
theorem first_any (A : Option Addr) (l : List Sg) (cap : Nat) (w : World) (h : Rd w A 2 (l.map Sg.cs)) (h1 : l.length ≤ cap) (h2 : cap ≤ maxLen) (hs : ∀ s ∈ l, SgOk w s) :
    Calls Try.prog 35 #[.slice A l.length cap] w fun e w' => e = .returned (firstV (firstF l)) ∧ Below w.heap.size w w' := by
  have HR := Lib.hid h
  have HSG := Lib.hid hs
  have hmax : cap ≤ 9223372036854775807 := h2
  clear h h2 hs
  go_enter Try.func35, Try.ntmps35
  go_wp2_with fail
  go_loopw [8] (fun x wr => ∃ j : Nat, j ≤ l.length ∧ Hid (firstF l = firstF (l.drop j)) ∧ x = .int .i64 j ∧ Hid (Below w.heap.size w wr)) (fun x _ => l.length + 1 - (intOf x).toNat)
  case atStart => exact ⟨0, by omega, rfl, rfl, Lib.hid (Below.refl _ _)⟩
  case round =>
    obtain ⟨j, hj, HF, rfl, HB⟩ := hrel
    by_cases hlt : j < l.length
    · obtain ⟨s, hs⟩ : ∃ s, l[j]? = some s := ⟨l[j]'hlt, List.getElem?_eq_getElem hlt⟩
      have hok := HSG.out s (List.mem_of_getElem? hs)
      obtain ⟨b, off, rfl, hb, c0, c1⟩ := sg_cells HR.out hs
      have c0 := (HB.out.cell (p := ⟨b, off + j * 2, none⟩) hb).trans c0
      have c1 := (HB.out.cell (p := ⟨b, off + j * 2 + 1, none⟩) hb).trans c1
      have HS := Lib.hid (firstF_drop l j s hs)
      clear hs
      obtain ⟨kd, sA, sl, sc⟩ := s
      have hs1 : sl.length ≤ sc := hok.len
      have hs2 : sc ≤ 9223372036854775807 := hok.cap
      have HRD : Hid (Rd w sA 1 (sl.map fun n => [.int .u32 (n : Nat)])) := hok.rd
      clear hok
      simp only at c0 c1 HS
      have HC := Lib.hid (CellsAt.new wr #[.int .i64 kd, .slice sA sl.length sc] 84)
      have HB1 := Lib.hid (HB.out.alloc HB.out.size (.cells #[.int .i64 kd, .slice sA sl.length sc] 84))
      have HCON := Lib.hid (fun w => confed_any kd (.slice sA sl.length sc) w)
      cases hcf : confF kd with
      | true =>
        rw [hcf] at HCON
        simp only [hcf, if_true] at HS
        go_wp2_with fail
        refine (HCON.out _).mono ?_
        rintro e w2 ⟨rfl, hb2⟩
        have HB2 := Lib.hid (HB1.out.trans (hb2.mono HB1.out.size))
        clear hb2 c0 c1 HB HB1 HC HCON
        go_wp2_with fail
        exact ⟨⟨j + 1, by omega, Lib.hid (HF.out.trans HS.out), by go_num, HB2⟩, by simp [intOf]; omega⟩
      | false =>
        rw [hcf] at HCON
        simp only [hcf, Bool.false_eq_true, if_false] at HS
        go_wp2_with fail
        refine (HCON.out _).mono ?_
        rintro e w2 ⟨rfl, hb2⟩
        have HB2 := Lib.hid (HB1.out.trans (hb2.mono HB1.out.size))
        have HC2 := Lib.hid (HC.out.below hb2 HC.out.lt)
        obtain ⟨d0, d1⟩ := HC2.out.c2
        clear hb2 c0 c1 HB HB1 HC HCON HC2
        rcases beq_facts kd 2 with ⟨k1, k2⟩ | ⟨k1, k2⟩
        · subst k1
          simp only [if_true] at HS
          rcases Nat.eq_zero_or_pos sl.length with h0 | h0
          · obtain rfl := List.eq_nil_of_length_eq_zero h0
            clear h0
            go_wp2_with fail
            go_ret2
            exact ⟨by rw [HF.out, HS.out]; rfl, HB2.out⟩
          · obtain ⟨m, hm⟩ : ∃ m, sl[0]? = some m := ⟨sl[0]'h0, List.getElem?_eq_getElem h0⟩
            obtain ⟨b', off', rfl, hb', hc'⟩ := HRD.out.at_ (i := 0) (cs := [.int .u32 (m : Nat)]) (by rw [List.getElem?_map, hm]; rfl)
            have hc' := (HB2.out.cell (p := ⟨b', off' + 0 * 1 + 0, none⟩) hb').trans (hc' 0 _ rfl)
            simp only [Nat.zero_mul, Nat.add_zero] at hc'
            have HM := Lib.hid (HS.out.trans hm)
            have hne : ((sl.length : Int) == 0) = false := by rw [beq_eq_false_iff_ne]; omega
            clear hm HS
            go_wp2_with fail
            go_ret2
            exact ⟨by rw [HF.out, HM.out]; rfl, HB2.out⟩
        · simp only [if_neg k1] at HS
          have hne : (kd != 2) = true := by rw [bne_iff_ne]; exact k1
          go_wp2_with fail
          go_ret2
          exact ⟨by rw [HF.out, HS.out]; rfl, HB2.out⟩
    · obtain rfl : j = l.length := by omega
      have hF : firstF l = none := by rw [HF.out, List.drop_length]; rfl
      have HF := Lib.hid hF
      clear HR HSG hF
      go_wp2_with fail
      go_ret2
      exact ⟨by rw [HF.out]; rfl, HB.out⟩
end Go.Proofs.Ytoamigfjpcniaaa
