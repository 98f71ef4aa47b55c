/-
  Several texts in one.
-/
import Derived.Test.YtojiieghjhjoaaaGreatMY35
set_option linter.unusedVariables false
set_option linter.unusedSimpArgs false
namespace Go.Proofs.YtojiieghjhjoaaaGreat
open Go.RowKit Go.MapKept Go.Shelf
open Go.Lib hiding intOf

/-- a configuration, a path and a neighbour in their boxes -/
structure Bx (w V : World) (s : Nat) (g : Cfg) (p : Pth) (t : Pr) : Prop where
  c : CellsAt V s g.ar 49
  p : CellsAt V (s + 1) p.ar 37
  t : CellsAt V (s + 1 + 1) t.ar 40
  b : Below w.heap.size w V
  s : s = w.heap.size
section
variable {w V V' : World} {s : Nat} {g : Cfg} {p : Pth} {t : Pr}
theorem Bx.below (h : Bx w V s g p t) (hb : Below V.heap.size V V') : Bx w V' s g p t := ⟨h.c.below hb h.c.lt, h.p.below hb h.p.lt, h.t.below hb h.t.lt, h.b.trans (hb.mono h.b.size), h.s⟩
theorem Bx.row {m : Nat} (h : Bx w V s g p t) (hg : V.grownBy V' (some m)) (hm : s + 1 + 1 < m) : Bx w V' s g p t := by
  have hs := h.s
  exact ⟨h.c.row hg (by omega), h.p.row hg (by omega), h.t.row hg (by omega), h.b.grown hg h.b.size (fun k hk => by injection hk with hk; omega), h.s⟩
theorem Bx.start (w : World) (g : Cfg) (p : Pth) (t : Pr) : Bx w (((w.alloc (.cells g.ar 49)).alloc (.cells p.ar 37)).alloc (.cells t.ar 40)) w.heap.size g p t := by
  refine ⟨(new1 _ _ _ _).alloc _, ?_, ?_, ?_, rfl⟩
  · exact (new2b _ _ _ _).alloc _
  · have h := CellsAt.new ((w.alloc (.cells g.ar 49)).alloc (.cells p.ar 37)) t.ar 40
    rwa [show ((w.alloc (.cells g.ar 49)).alloc (.cells p.ar 37)).heap.size = w.heap.size + 1 + 1 by simp] at h
  · exact (((Below.refl _ _).alloc (Nat.le_refl _) _).alloc (by simp) _).alloc (by simp <;> omega) _
end
theorem ints_at {w : World} {A : Option Addr} {l : List Int} (h : Rd w A 1 (l.map i1)) (h0 : 0 < l.length) : ∃ b off, A = some ⟨b, off, none⟩ ∧ ∀ j, j < l.length → w.cell? ⟨b, off + j, none⟩ = some (.int .i64 (l.getD j 0)) := by
  obtain ⟨b, off, hA, _, hc⟩ := h (by rw [List.length_map]; exact h0)
  refine ⟨b, off, hA, fun j hj => ?_⟩
  have h2 := hc j (i1 l[j]) (by rw [List.getElem?_map, List.getElem?_eq_getElem hj]; rfl) 0 _ rfl
  rw [Nat.mul_one, Nat.add_zero] at h2
  rw [h2, List.getD_eq_getElem?_getD, List.getElem?_eq_getElem hj]
  rfl
theorem contains_i (A : Option Addr) (cap : Nat) (l : List Int) (n : Int) (w : World) (h : Rd w A 1 (l.map i1)) (hl : l.length ≤ 9223372036854775807) :
    Calls Tryz.prog 34 #[.slice A l.length cap, .int .i64 n] w fun e w' => e = .returned (.bool (l.contains n)) ∧ w' = w := by
  cases hx : l with
  | nil => exact Tryz.slices_Contains_int_empty A cap n w
  | cons x r =>
    rw [← hx]
    obtain ⟨b, off, rfl, hc⟩ := ints_at h (by rw [hx]; simp)
    have h2 := Tryz.slices_Contains_int b off l.length cap l n w (Nat.le_refl _) hl hc
    rw [List.take_length] at h2
    exact h2
theorem u32_at {w : World} {A : Option Addr} {l : List Nat} {i n : Nat} (h : Rd w A 1 (nums .u32 l)) (hi : l[i]? = some n) : ∃ b off, A = some ⟨b, off, none⟩ ∧ b < w.heap.size ∧ w.cell? ⟨b, off + i, none⟩ = some (.int .u32 (n : Nat)) := by
  obtain ⟨b, off, hA, hb, hc⟩ := h.at_ (i := i) (cs := [.int .u32 (n : Nat)]) (by unfold nums; rw [List.getElem?_map, hi]; rfl)
  have := hc 0 _ rfl
  rw [Nat.mul_one, Nat.add_zero] at this
  exact ⟨b, off, hA, hb, this⟩
theorem i64_at {w : World} {A : Option Addr} {l : List Int} {i : Nat} {n : Int} (h : Rd w A 1 (l.map i1)) (hi : l[i]? = some n) : ∃ b off, A = some ⟨b, off, none⟩ ∧ b < w.heap.size ∧ w.cell? ⟨b, off + i, none⟩ = some (.int .i64 n) := by
  obtain ⟨b, off, hA, hb, hc⟩ := h.at_ (i := i) (cs := i1 n) (by rw [List.getElem?_map, hi]; rfl)
  have := hc 0 _ rfl
  rw [Nat.mul_one, Nat.add_zero] at this
  exact ⟨b, off, hA, hb, this⟩
set_option maxHeartbeats 4000000 in
theorem has05_any (A : Option Addr) (cap : Nat) (l : List Nat) (n : Int) (w : World) (h : Rd w A 1 (nums .u32 l)) (hl : l.length ≤ cap) (hc : cap ≤ 9223372036854775807) :
    Calls Tryz.prog 39 #[.slice A l.length cap, .int .u32 n] w fun e w' => e = .returned (.bool (hasN l n)) ∧ w' = w := by
  have HR := Lib.hid h
  clear h
  go_enter Tryz.func39, Tryz.ntmps39
  go_wp2_with fail
  go_loopw [5] (fun i wr => ∃ k : Nat, k ≤ l.length ∧ i = .int .i64 k ∧ Hid (hasN (l.take k) n = false) ∧ wr = w) (fun i _ => l.length + 1 - (intOf i).toNat)
  case atStart => exact ⟨0, by omega, rfl, rfl, rfl⟩
  case round =>
    obtain ⟨k, hk, rfl, HNO, hwr⟩ := hrel
    subst hwr
    by_cases hlt : k < l.length
    · obtain ⟨x, hx⟩ : ∃ x, l[k]? = some x := ⟨l[k], List.getElem?_eq_getElem hlt⟩
      obtain ⟨b, off, rfl, hb, hcell⟩ := u32_at HR.out hx
      have HX := Lib.hid hx
      clear hx
      by_cases he : (x : Int) = n
      · have hq : ((x : Int) == n) = true := by rw [he]; simp
        have HY := Lib.hid (hasN_yes HX.out he)
        clear he
        go_wp2_with fail
        go_ret
        exact ⟨by rw [HY.out]; rfl, by trivial⟩
      · have hq : ((x : Int) == n) = false := beq_eq_false_iff_ne.2 he
        have HY : Hid (hasN (l.take (k + 1)) n = false) := by
          show _ = _
          rw [hasN_take n HX.out, HNO.out, hq]
          rfl
        clear he
        go_wp2_with fail
        exact ⟨⟨k + 1, by omega, by go_num, HY.out, by trivial⟩, by simp [intOf]; omega⟩
    · obtain rfl : k = l.length := by omega
      rw [List.take_length] at HNO
      go_wp2_with fail
      go_ret
      exact ⟨by rw [HNO.out]; rfl, by trivial⟩
theorem cont_take {l : List Int} {k : Nat} {x : Int} (n : Int) (h : l[k]? = some x) : (l.take (k + 1)).contains n = ((l.take k).contains n || n == x) := by
  rw [List.take_add_one, h]
  simp [List.contains_eq_any_beq, Bool.beq_eq_decide_eq]
theorem cont_yes {l : List Int} {k : Nat} {x n : Int} (h : l[k]? = some x) (he : x = n) : l.contains n = true := by
  subst he
  simpa using List.mem_of_getElem? h
set_option maxHeartbeats 4000000 in
theorem has28_any (A : Option Addr) (cap : Nat) (l : List Int) (n : Int) (w : World) (h : Rd w A 1 (l.map i1)) (hl : l.length ≤ cap) (hc : cap ≤ 9223372036854775807) :
    Calls Tryz.prog 38 #[.slice A l.length cap, .int .i64 n] w fun e w' => e = .returned (.bool (l.contains n)) ∧ w' = w := by
  have HR := Lib.hid h
  clear h
  go_enter Tryz.func38, Tryz.ntmps38
  go_wp2_with fail
  go_loopw [5] (fun i wr => ∃ k : Nat, k ≤ l.length ∧ i = .int .i64 k ∧ Hid ((l.take k).contains n = false) ∧ wr = w) (fun i _ => l.length + 1 - (intOf i).toNat)
  case atStart => exact ⟨0, by omega, rfl, by show _ = _; simp, rfl⟩
  case round =>
    obtain ⟨k, hk, rfl, HNO, hwr⟩ := hrel
    subst hwr
    by_cases hlt : k < l.length
    · obtain ⟨x, hx⟩ : ∃ x, l[k]? = some x := ⟨l[k], List.getElem?_eq_getElem hlt⟩
      obtain ⟨b, off, rfl, hb, hcell⟩ := i64_at HR.out hx
      have HX := Lib.hid hx
      clear hx
      by_cases he : x = n
      · have hq : (x == n) = true := by rw [he]; simp
        have HY := Lib.hid (cont_yes HX.out he)
        clear he
        go_wp2_with fail
        go_ret
        exact ⟨by rw [HY.out]; rfl, by trivial⟩
      · have hq : (x == n) = false := beq_eq_false_iff_ne.2 he
        have HY : Hid ((l.take (k + 1)).contains n = false) := by
          show _ = _
          rw [cont_take n HX.out, HNO.out, Bool.false_or, beq_eq_false_iff_ne]
          exact fun e => he e.symm
        clear he
        go_wp2_with fail
        exact ⟨⟨k + 1, by omega, by go_num, HY.out, by trivial⟩, by simp [intOf]; omega⟩
    · obtain rfl : k = l.length := by omega
      rw [List.take_length] at HNO
      go_wp2_with fail
      go_ret
      exact ⟨by rw [HNO.out]; rfl, by trivial⟩
theorem commhas_any (A : Option Addr) (cap : Nat) (l : List Nat) (n : Int) (w : World) (h : Rd w A 1 (nums .u32 l)) (hl : l.length ≤ cap) (hc : cap ≤ 9223372036854775807) :
    Calls Tryz.prog 35 #[.slice A l.length cap, .int .u32 n] w fun e w' => e = .returned (.bool (hasN l n)) ∧ w' = w := by
  have HC := Lib.hid (contains_any A cap l n w h hl hc)
  clear h
  go_enter Tryz.func35, Tryz.ntmps35
  go_wp2_with fail
  refine HC.out.mono ?_
  rintro e w1 ⟨rfl, hw⟩
  subst w1
  go_wp2_with fail
  go_ret
  exact ⟨rfl, by trivial⟩
/-- the closure not -/
theorem not_any (m x : Bool) (b : Nat) (w : World) (h : CellsAt w b #[.bool m] 4) : Calls Tryz.prog 32 #[.bool x, .pointer (some ⟨b, 0, none⟩)] w fun e w' => e = .returned (.tuple #[]) ∧ CellsAt w' b #[.bool (m && !x)] 4 ∧ w.grownBy w' (some b) := by
  have HS : Hid (∀ u, CellsAt (w.setCell ⟨b, 0, none⟩ u) b #[u] 4) := fun u => h.setAt 0 u
  have HG : Hid (∀ u, w.grownBy (w.setCell ⟨b, 0, none⟩ u) (some b)) := fun u => grown_setCell w ⟨b, 0, none⟩ u
  have c0 := h.c1
  have fz : w.frozen? ⟨b, 0, none⟩ = false := h.unfrozen 0
  clear h
  cases m with
  | true =>
    cases x with
    | true =>
      go_enter Tryz.func32, Tryz.ntmps32
      go_wp2_with fail
      go_end0
      exact ⟨rfl, HS.out _, HG.out _⟩
    | false =>
      go_enter Tryz.func32, Tryz.ntmps32
      go_wp2_with fail
      go_end0
      exact ⟨rfl, HS.out _, HG.out _⟩
  | false =>
    go_enter Tryz.func32, Tryz.ntmps32
    go_wp2_with fail
    go_end0
    exact ⟨rfl, HS.out _, HG.out _⟩
end Go.Proofs.YtojiieghjhjoaaaGreat
