/-
  Several texts in one.
-/
import Derived.Test.YtkcojblflebomaaGreatNR4
set_option linter.unusedVariables false
set_option linter.unusedSimpArgs false
namespace Go.Proofs.YtkcojblflebomaaGreat
open Go.RowKit Go.MapKept
open Go.ChangeShapes Go.WideShapes Go.ChangeAt Go.Deep

theorem bulk_mem1 {H : Type} : ∀ {ds : List (DataW H)} {d : DataW H}, d ∈ ds → Rows.uptoBulk d ≤ Rows.uptoBulkAll ds
  | [], d, h => by cases h
  | x :: r, d, h => by
    rcases List.mem_cons.1 h with rfl | h
    · unfold Rows.uptoBulkAll; omega
    · have := bulk_mem1 h
      unfold Rows.uptoBulkAll
      omega
section
variable {H : Type} {enc : TypeId × Value → H} {P : Program} {w : World} {held : Bool} {base : Nat} {sp : Nat → Bool}
theorem open_list_bulk {α : Type} (F : α → List Value) (Q : α → Prop) (B : Nat) {t e : TypeId} {C fuel : Nat} {v : Value} {x : DataW H × List MemPlace} (ht : P.underlying t = some (.slice e)) (hC : P.cellsOf e = C) (hpos : 0 < C) (hF : ∀ a, (F a).length = C)
    (hel : ∀ (n : Nat) (cs : List Value) (y : DataW H × List MemPlace), cs.length = C → DataW.trod enc P w 0 (fun _ => true) held n e cs = some y → Rows.uptoBulk y.1 ≤ B → ∃ a, cs = F a ∧ Q a)
    (h : DataW.trod enc P w 0 (fun _ => true) held fuel t [v] = some x) (hw : Rows.uptoBulk x.1 ≤ B) :
    ∃ (A : Option Addr) (L : List α) (cap : Nat), v = .slice A L.length cap ∧ Rd w A C (L.map F) ∧ (∀ a ∈ L, Q a) ∧ L.length ≤ cap ∧ cap ≤ maxLen := by
  subst hC
  rcases open_slice ht h with ⟨hcs, hx⟩ | ⟨a, l, c, m, n, D, Pl, hcs, hb, hl, hm, hmm, hx, hi⟩
  · simp only [List.cons.injEq, and_true] at hcs
    subst hcs
    exact ⟨none, [], 0, rfl, fun h0 => absurd h0 (by simp), (fun a ha => by cases ha), Nat.le_refl _, Nat.zero_le _⟩
  · simp only [List.cons.injEq, and_true] at hcs
    simp only [if_true] at hmm
    subst hmm
    subst hx
    subst hcs
    have h2 : Rows.uptoBulkAll ((List.range l).map D) + 1 ≤ B := by
      refine Nat.le_trans ?_ hw
      show _ ≤ Rows.uptoBulk (DataW.slice _ _)
      simp only [Rows.uptoBulk]
      omega
    have hle : ∀ i, i < l → Rows.uptoBulk (D i) ≤ B := fun i hi2 => by
      have h1 := bulk_mem1 (ds := (List.range l).map D) (d := D i) (List.mem_map.2 ⟨i, List.mem_range.2 hi2, rfl⟩)
      omega
    have hsp : 0 < l → a.spot = none ∧ a.block < w.heap.size := fun h0 => by
      obtain ⟨cs0, hc0, _⟩ := hi 0 (by omega)
      obtain ⟨_, hcl0, hat0⟩ := World.cells?_some hc0
      have h00 := hat0 0 hpos
      have hv0 : cs0[0]? = some (cs0[0]'(by omega)) := List.getElem?_eq_getElem (by omega)
      rw [hv0] at h00
      have h1 := World.cell?_spot h00
      have h2 := World.block_lt_of_cell? w _ h00
      obtain ⟨b, off, spot⟩ := a
      exact ⟨by simpa [Addr.add] using h1, by simpa [Addr.add] using h2⟩
    have key : ∀ n, n ≤ l → ∃ L : List α, L.length = n ∧ (∀ x ∈ L, Q x) ∧ ∀ (i : Nat) (x : α), L[i]? = some x → ∀ (j : Nat) u, (F x)[j]? = some u → w.cell? (a.add (i * P.cellsOf e + j)) = some u := by
      intro n
      induction n with
      | zero => intro _; exact ⟨[], rfl, fun x hx => (by simp at hx), fun i x hx => (by simp at hx)⟩
      | succ n ih =>
        intro hn
        obtain ⟨L, hL, hf, hc⟩ := ih (by omega)
        obtain ⟨cs, hcs, htr⟩ := hi n (by omega)
        obtain ⟨_, hcl, hat⟩ := World.cells?_some hcs
        obtain ⟨s, rfl, hQ⟩ := hel _ _ _ hcl htr (hle n (by omega))
        refine ⟨L ++ [s], by simp [hL], fun x hx => ?_, fun i x hx j u hu => ?_⟩
        · rcases List.mem_append.1 hx with hx | hx
          · exact hf x hx
          · obtain rfl := List.mem_singleton.1 hx
            exact hQ
        · rcases Nat.lt_or_ge i L.length with hlt | hge
          · rw [List.getElem?_append_left hlt] at hx
            exact hc i x hx j u hu
          · rw [List.getElem?_append_right hge] at hx
            have h0 : i - L.length = 0 := by
              rcases Nat.eq_zero_or_pos (i - L.length) with h | h
              · exact h
              · rw [List.getElem?_eq_none (by rw [List.length_singleton]; omega)] at hx; cases hx
            rw [h0] at hx
            obtain rfl : s = x := Option.some.inj hx
            have hin : i = n := by omega
            subst hin
            have hj : j < (F s).length := (List.getElem?_eq_some_iff.1 hu).1
            have h2 := hat j (by omega)
            rw [Go.Deep.add_add] at h2
            rw [h2]
            exact hu
    obtain ⟨L, hL, hf, hc⟩ := key l (Nat.le_refl _)
    refine ⟨some a, L, m, by rw [hL], fun h0 => ?_, hf, by omega, hm⟩
    · rw [List.length_map] at h0
      obtain ⟨h1, h2⟩ := hsp (by omega)
      obtain ⟨b, off, spot⟩ := a
      subst h1
      refine ⟨b, off, rfl, h2, fun i cs hi2 j u hu => ?_⟩
      rw [List.getElem?_map] at hi2
      cases hx : L[i]? with
      | none => rw [hx] at hi2; cases hi2
      | some x =>
        rw [hx] at hi2
        obtain rfl : F x = cs := Option.some.inj hi2
        have := hc i x hx j u hu
        rw [add_off] at this
        rw [Nat.add_assoc]
        exact this
end
section
variable {H : Type} {enc : TypeId × Value → H} {w : World} {held : Bool}
set_option maxRecDepth 100000 in
theorem open_raw_bulk {fuel : Nat} {cs : List Value} {x : DataW H × List MemPlace} (B : Nat) (hl : cs.length = 3) (h : DataW.trod enc Tryz.prog w 0 (fun _ => true) held fuel 32 cs = some x) (hw : Rows.uptoBulk x.1 ≤ B) : ∃ r : Rw, cs = r.cs ∧ r.v.size ≤ B := by
  obtain ⟨xs, m, _, rfl, hlen, hxl, hf⟩ := DataW.trod_struct Tryz.underlying32 h
  have hc1 : Tryz.prog.cellsOf 5 = 1 := by kernel_rfl
  have hc2 : Tryz.prog.cellsOf 9 = 1 := by kernel_rfl
  match cs, hl with
  | [u, v, z], _ =>
    have f0 := hf 0 _ rfl
    have f1 := hf 1 _ rfl
    have f2 := hf 2 _ rfl
    change DataW.trod enc Tryz.prog w 0 (fun _ => true) held m 5 (([u, v, z].drop 0).take (Tryz.prog.cellsOf 5)) = xs[0]? at f0
    change DataW.trod enc Tryz.prog w 0 (fun _ => true) held m 5 (([u, v, z].drop 1).take (Tryz.prog.cellsOf 5)) = xs[1]? at f1
    change DataW.trod enc Tryz.prog w 0 (fun _ => true) held m 9 (([u, v, z].drop 2).take (Tryz.prog.cellsOf 9)) = xs[2]? at f2
    simp only [hc1, hc2, List.drop_succ_cons, List.drop_zero, List.take_succ_cons, List.take_zero] at f0 f1 f2
    have x0 : xs[0]? = some (xs[0]'(by rw [hxl]; decide)) := List.getElem?_eq_getElem _
    have x1 : xs[1]? = some (xs[1]'(by rw [hxl]; decide)) := List.getElem?_eq_getElem _
    have x2 : xs[2]? = some (xs[2]'(by rw [hxl]; decide)) := List.getElem?_eq_getElem _
    rw [x0] at f0
    rw [x1] at f1
    rw [x2] at f2
    obtain ⟨a, rfl, a0, a1⟩ := isU8 Tryz.underlying5 f0
    obtain ⟨b, rfl, b0, b1⟩ := isU8 Tryz.underlying5 f1
    obtain ⟨s, e2, d2, s2⟩ := DataW.trod_string Tryz.underlying9 f2
    simp only [List.cons.injEq, and_true] at e2
    subst e2
    obtain ⟨a, rfl⟩ := u8_of a0 a1
    obtain ⟨b, rfl⟩ := u8_of b0 b1
    refine ⟨⟨a, b, s⟩, rfl, ?_⟩
    have hm : (xs[2]'(by rw [hxl]; decide)).1 ∈ xs.map (·.1) := List.mem_map.2 ⟨_, List.getElem_mem _, rfl⟩
    have h3 := bulk_mem1 hm
    rw [d2] at h3
    have h4 : Rows.uptoBulkAll (xs.map (·.1)) + 1 ≤ B := by
      refine Nat.le_trans ?_ hw
      show _ ≤ Rows.uptoBulk (DataW.agg _)
      simp only [Rows.uptoBulk]
      omega
    have h5 : s.data.toList.length = s.size := rfl
    simp only [Rows.uptoBulk] at h3
    show s.size ≤ B
    omega
theorem open_raws_bulk {fuel : Nat} {v : Value} {x : DataW H × List MemPlace} (B : Nat) (hB : B ≤ 9223372036854775807) (h : DataW.trod enc Tryz.prog w 0 (fun _ => true) held fuel 22 [v] = some x) (hw : Rows.uptoBulk x.1 ≤ B) :
    ∃ (A : Option Addr) (l : List Rw) (cap : Nat), v = .slice A l.length cap ∧ RwsOk w A cap l ∧ (∀ r ∈ l, r.v.size ≤ B) := by
  obtain ⟨A, l, cap, h1, h2, h3, h4, h5⟩ := open_list_bulk Rw.cs (fun r => r.v.size ≤ B) B Tryz.underlying22 (C := 3) (by kernel_rfl) (by decide) (fun _ => rfl) (fun n cs y hl ht hwy => open_raw_bulk B hl ht hwy) h hw
  exact ⟨A, l, cap, h1, ⟨h2, h4, h5, fun r hr => Nat.le_trans (h3 r hr) hB⟩, h3⟩
end
end Go.Proofs.YtkcojblflebomaaGreat
