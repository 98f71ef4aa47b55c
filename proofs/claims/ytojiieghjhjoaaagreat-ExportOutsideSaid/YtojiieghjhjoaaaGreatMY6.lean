/-
  Several texts in one.
-/
import Derived.Test.YtojiieghjhjoaaaGreatMY5
import Derived.SizedLaws
set_option linter.unusedVariables false
set_option linter.unusedSimpArgs false
namespace Go.Proofs.YtojiieghjhjoaaaGreat
open Go.RowKit Go.MapKept
open Go.ChangeShapes Go.WideShapes Go.ChangeAt Go.Deep

/-- what came in weighs little enough -/
def Light {H : Type} (P : Program) (t : TypeId) (d : DataW H) : Prop := ∀ m ∈ d.weights P t, m ≤ 140737488351232
section
variable {H : Type} {enc : TypeId × Value → H} {P : Program} {w : World} {held : Bool} {base : Nat} {sp : Nat → Bool}
theorem light_of {ts : List TypeId} {ds : List (DataW H)} (h : (DataW.weightsEach P ts ds).all (· ≤ reachBytes) = true) {j : Nat} {t : TypeId} {d : DataW H} (ht : ts[j]? = some t) (hd : ds[j]? = some d) : Light P t d := fun m hm => by
  exact of_decide_eq_true (List.all_eq_true.1 h _ (DataW.weights_mem_each ht hd m hm))
theorem trod_field {t : TypeId} {fs : Array Field} {fuel : Nat} {cs : List Value} {x : DataW H × List MemPlace} (ht : P.underlying t = some (.struct fs)) (h : DataW.trod enc P w base sp held fuel t cs = some x) (hw : Light P t x.1) (j : Nat) (ty : TypeId) (off k : Nat) (hj : ∃ f, fs[j]? = some f ∧ f.type = ty ∧ f.offset = off) (hk : P.cellsOf ty = k) :
    ∃ (n : Nat) (y : DataW H × List MemPlace), DataW.trod enc P w base sp held n ty ((cs.drop off).take k) = some y ∧ Light P ty y.1 := by
  obtain ⟨f, hj, rfl, rfl⟩ := hj
  subst hk
  obtain ⟨xs, n, _, rfl, hlen, hxl, hf⟩ := DataW.trod_struct ht h
  have hjl : j < xs.length := by rw [hxl]; exact (Array.getElem?_eq_some_iff.1 hj).1
  have h1 := hf j f hj
  rw [List.getElem?_eq_getElem hjl] at h1
  refine ⟨n, _, h1, fun m hm => hw m ?_⟩
  simp only [DataW.weights, ht]
  exact DataW.weights_mem_each (j := j) (by rw [List.getElem?_map, Array.getElem?_toList, hj]; rfl) (by rw [List.getElem?_map, List.getElem?_eq_getElem hjl]; rfl) m hm
theorem weights_mem_all {e : TypeId} {d : DataW H} {m : Nat} : ∀ {l : List (DataW H)}, d ∈ l → m ∈ d.weights P e → m ∈ DataW.weightsAll P e l
  | [], h, _ => by cases h
  | x :: r, h, hm => by
    unfold DataW.weightsAll
    rcases List.mem_cons.1 h with rfl | h
    · exact List.mem_append.2 (.inl hm)
    · exact List.mem_append.2 (.inr (weights_mem_all h hm))
/-- a slice that came in, as a list of what its elements are -/
theorem open_list {α : Type} (F : α → List Value) (Q : α → Prop) {t e : TypeId} {C fuel : Nat} {v : Value} {x : DataW H × List MemPlace} (ht : P.underlying t = some (.slice e)) (hC : P.cellsOf e = C) (hpos : 0 < C) (hF : ∀ a, (F a).length = C)
    (hel : ∀ (n : Nat) (cs : List Value) (y : DataW H × List MemPlace), cs.length = C → DataW.trod enc P w 0 (fun _ => true) held n e cs = some y → Light P e y.1 → ∃ a, cs = F a ∧ Q a)
    (h : DataW.trod enc P w 0 (fun _ => true) held fuel t [v] = some x) (hw : Light P t x.1) :
    ∃ (A : Option Addr) (L : List α) (cap : Nat), v = .slice A L.length cap ∧ Rd w A C (L.map F) ∧ (∀ a ∈ L, Q a) ∧ L.length ≤ cap ∧ cap ≤ maxLen ∧ L.length * P.bytesOf e ≤ 140737488351232 := by
  subst hC
  rcases open_slice ht h with ⟨hcs, hx⟩ | ⟨a, l, c, m, n, D, Pl, hcs, hb, hl, hm, hmm, hx, hi⟩
  · simp only [List.cons.injEq, and_true] at hcs
    subst hcs
    exact ⟨none, [], 0, rfl, fun h0 => absurd h0 (by simp), (fun a ha => by cases ha), Nat.le_refl _, Nat.zero_le _, by simp⟩
  · simp only [List.cons.injEq, and_true] at hcs
    simp only [if_true] at hmm
    subst hmm
    subst hx
    subst hcs
    have hwt : (l + (m - l)) * P.bytesOf e ≤ 140737488351232 := by
      refine hw _ ?_
      simp only [DataW.weights, ht]
      exact List.mem_cons.2 (.inl (by simp))
    have hle : ∀ i, i < l → Light P e (D i) := fun i hi2 k hk => hw k (by
      simp only [DataW.weights, ht]
      exact List.mem_cons.2 (.inr (List.mem_append.2 (.inl (weights_mem_all (List.mem_map.2 ⟨i, List.mem_range.2 hi2, rfl⟩) hk)))))
    have hsp : 0 < l → a.spot = none ∧ a.block < w.heap.size := fun h0 => by
      obtain ⟨cs0, hc0, _⟩ := hi 0 (by omega)
      obtain ⟨_, hcl0, hat0⟩ := World.cells?_some hc0
      have h00 := hat0 0 hpos
      have hv0 : cs0[0]? = some (cs0[0]'(by omega)) := List.getElem?_eq_getElem (by omega)
      rw [hv0] at h00
      have h1 := World.cell?_spot h00
      have h2 := World.block_lt_of_cell? w _ h00
      obtain ⟨b, off, spot⟩ := a
      exact ⟨by simpa [Addr.add] using h1, by simpa [Addr.add] using h2⟩
    have key : ∀ n, n ≤ l → ∃ L : List α, L.length = n ∧ (∀ x ∈ L, Q x) ∧ ∀ (i : Nat) (x : α), L[i]? = some x → ∀ (j : Nat) u, (F x)[j]? = some u → w.cell? (a.add (i * P.cellsOf e + j)) = some u := by
      intro n
      induction n with
      | zero => intro _; exact ⟨[], rfl, fun x hx => (by simp at hx), fun i x hx => (by simp at hx)⟩
      | succ n ih =>
        intro hn
        obtain ⟨L, hL, hf, hc⟩ := ih (by omega)
        obtain ⟨cs, hcs, htr⟩ := hi n (by omega)
        obtain ⟨_, hcl, hat⟩ := World.cells?_some hcs
        obtain ⟨s, rfl, hQ⟩ := hel _ _ _ hcl htr (hle n (by omega))
        refine ⟨L ++ [s], by simp [hL], fun x hx => ?_, fun i x hx j u hu => ?_⟩
        · rcases List.mem_append.1 hx with hx | hx
          · exact hf x hx
          · obtain rfl := List.mem_singleton.1 hx
            exact hQ
        · rcases Nat.lt_or_ge i L.length with hlt | hge
          · rw [List.getElem?_append_left hlt] at hx
            exact hc i x hx j u hu
          · rw [List.getElem?_append_right hge] at hx
            have h0 : i - L.length = 0 := by
              rcases Nat.eq_zero_or_pos (i - L.length) with h | h
              · exact h
              · rw [List.getElem?_eq_none (by rw [List.length_singleton]; omega)] at hx; cases hx
            rw [h0] at hx
            obtain rfl : s = x := Option.some.inj hx
            have hin : i = n := by omega
            subst hin
            have hj : j < (F s).length := (List.getElem?_eq_some_iff.1 hu).1
            have h2 := hat j (by omega)
            rw [Go.Deep.add_add] at h2
            rw [h2]
            exact hu
    obtain ⟨L, hL, hf, hc⟩ := key l (Nat.le_refl _)
    refine ⟨some a, L, m, by rw [hL], fun h0 => ?_, hf, by omega, hm, ?_⟩
    · rw [List.length_map] at h0
      obtain ⟨h1, h2⟩ := hsp (by omega)
      obtain ⟨b, off, spot⟩ := a
      subst h1
      refine ⟨b, off, rfl, h2, fun i cs hi2 j u hu => ?_⟩
      rw [List.getElem?_map] at hi2
      cases hx : L[i]? with
      | none => rw [hx] at hi2; cases hi2
      | some x =>
        rw [hx] at hi2
        obtain rfl : F x = cs := Option.some.inj hi2
        have := hc i x hx j u hu
        rw [add_off] at this
        rw [Nat.add_assoc]
        exact this
    · rw [hL]
      exact Nat.le_trans (Nat.mul_le_mul_right _ (by omega)) hwt
end
section
variable {H : Type} {enc : TypeId × Value → H} {w : World} {held : Bool}
set_option maxRecDepth 100000 in
theorem open_u32s {fuel : Nat} {v : Value} {x : DataW H × List MemPlace} (h : DataW.trod enc Tryz.prog w 0 (fun _ => true) held fuel 29 [v] = some x) (hw : Light Tryz.prog 29 x.1) :
    ∃ (A : Option Addr) (l : List Nat) (cap : Nat), v = .slice A l.length cap ∧ Rd w A 1 (nums .u32 l) ∧ (∀ n ∈ l, n < 4294967296) ∧ l.length ≤ cap ∧ cap ≤ maxLen ∧ l.length * 4 ≤ 140737488351232 :=
  open_list (fun n : Nat => [Value.int .u32 n]) (fun n => n < 4294967296) Tryz.underlying29 (C := 1) (by kernel_rfl) (by decide) (fun _ => rfl) (fun n cs y hl ht _ => by
    match cs, hl with
    | [u], _ =>
      obtain ⟨z, rfl, z0, z1⟩ := isU32 Tryz.underlying22 ht
      obtain ⟨z, rfl⟩ := Int.eq_ofNat_of_zero_le z0
      exact ⟨z, rfl, by omega⟩) h hw
set_option maxRecDepth 100000 in
theorem open_u64s {fuel : Nat} {v : Value} {x : DataW H × List MemPlace} (h : DataW.trod enc Tryz.prog w 0 (fun _ => true) held fuel 30 [v] = some x) (hw : Light Tryz.prog 30 x.1) :
    ∃ (A : Option Addr) (l : List Nat) (cap : Nat), v = .slice A l.length cap ∧ Rd w A 1 (nums .u64 l) ∧ (∀ n ∈ l, n < 18446744073709551616) ∧ l.length ≤ cap ∧ cap ≤ maxLen ∧ l.length * 8 ≤ 140737488351232 :=
  open_list (fun n : Nat => [Value.int .u64 n]) (fun n => n < 18446744073709551616) Tryz.underlying30 (C := 1) (by kernel_rfl) (by decide) (fun _ => rfl) (fun n cs y hl ht _ => by
    match cs, hl with
    | [u], _ =>
      obtain ⟨z, rfl, z0, z1⟩ := isU64 Tryz.underlying25 ht
      obtain ⟨z, rfl⟩ := Int.eq_ofNat_of_zero_le z0
      exact ⟨z, rfl, by omega⟩) h hw
set_option maxRecDepth 100000 in
theorem open_larges {fuel : Nat} {v : Value} {x : DataW H × List MemPlace} (h : DataW.trod enc Tryz.prog w 0 (fun _ => true) held fuel 31 [v] = some x) (hw : Light Tryz.prog 31 x.1) :
    ∃ (A : Option Addr) (l : List Lg) (cap : Nat), v = .slice A l.length cap ∧ Rd w A 3 (l.map Lg.cs) ∧ (∀ x ∈ l, x.g < 4294967296 ∧ x.a < 4294967296 ∧ x.b < 4294967296) ∧ l.length ≤ cap ∧ cap ≤ maxLen ∧ l.length * 12 ≤ 140737488351232 :=
  open_list Lg.cs (fun x => x.g < 4294967296 ∧ x.a < 4294967296 ∧ x.b < 4294967296) Tryz.underlying31 (C := 3) (by kernel_rfl) (by decide) (fun _ => rfl) (fun n cs y hl ht hwy => by
    match cs, hl with
    | [u, v, z], _ =>
      obtain ⟨_, _, f0, _⟩ := trod_field Tryz.underlying81 ht hwy 0 22 0 1 ⟨_, rfl, rfl, rfl⟩ (by kernel_rfl)
      obtain ⟨_, _, f1, _⟩ := trod_field Tryz.underlying81 ht hwy 1 22 1 1 ⟨_, rfl, rfl, rfl⟩ (by kernel_rfl)
      obtain ⟨_, _, f2, _⟩ := trod_field Tryz.underlying81 ht hwy 2 22 2 1 ⟨_, rfl, rfl, rfl⟩ (by kernel_rfl)
      simp only [List.drop_succ_cons, List.drop_zero, List.take_succ_cons, List.take_zero] at f0 f1 f2
      obtain ⟨a, rfl, a0, a1⟩ := isU32 Tryz.underlying22 f0
      obtain ⟨b, rfl, b0, b1⟩ := isU32 Tryz.underlying22 f1
      obtain ⟨c, rfl, c0, c1⟩ := isU32 Tryz.underlying22 f2
      obtain ⟨a, rfl⟩ := Int.eq_ofNat_of_zero_le a0
      obtain ⟨b, rfl⟩ := Int.eq_ofNat_of_zero_le b0
      obtain ⟨c, rfl⟩ := Int.eq_ofNat_of_zero_le c0
      have a2 : a < 4294967296 := by omega
      have b2 : b < 4294967296 := by omega
      have c2 : c < 4294967296 := by omega
      exact ⟨⟨a, b, c⟩, rfl, a2, b2, c2⟩) h hw
set_option maxRecDepth 100000 in
theorem open_segs {fuel : Nat} {v : Value} {x : DataW H × List MemPlace} (h : DataW.trod enc Tryz.prog w 0 (fun _ => true) held fuel 28 [v] = some x) (hw : Light Tryz.prog 28 x.1) :
    ∃ (A : Option Addr) (l : List Sg) (cap : Nat), v = .slice A l.length cap ∧ Rd w A 2 (l.map Sg.cs) ∧ (∀ s ∈ l, SgOk w s ∧ s.as_.length * 4 ≤ 140737488351232) ∧ l.length ≤ cap ∧ cap ≤ maxLen ∧ l.length * 32 ≤ 140737488351232 :=
  open_list Sg.cs (fun s => SgOk w s ∧ s.as_.length * 4 ≤ 140737488351232) Tryz.underlying28 (C := 2) (by kernel_rfl) (by decide) (fun _ => rfl) (fun n cs y hl ht hwy => by
    match cs, hl with
    | [u, v], _ =>
      obtain ⟨_, _, f0, _⟩ := trod_field Tryz.underlying67 ht hwy 0 3 0 1 ⟨_, rfl, rfl, rfl⟩ (by kernel_rfl)
      obtain ⟨_, _, f1, g1⟩ := trod_field Tryz.underlying67 ht hwy 1 29 1 1 ⟨_, rfl, rfl, rfl⟩ (by kernel_rfl)
      simp only [List.drop_succ_cons, List.drop_zero, List.take_succ_cons, List.take_zero] at f0 f1
      obtain ⟨k, rfl, k0, k1⟩ := isI64 Tryz.underlying3 f0
      obtain ⟨A, l, cap, rfl, h1, h2, h3, h4, h5⟩ := open_u32s f1 g1
      exact ⟨⟨k, A, l, cap⟩, rfl, ⟨h1, h3, h4, h2, k0, k1⟩, h5⟩) h hw
theorem list16 {α : Type} {l : List α} (h : l.length = 16) : ∃ c0 c1 c2 c3 c4 c5 c6 c7 c8 c9 c10 c11 c12 c13 c14 c15, l = [c0, c1, c2, c3, c4, c5, c6, c7, c8, c9, c10, c11, c12, c13, c14, c15] := by
  match l, h with
  | [c0, c1, c2, c3, c4, c5, c6, c7, c8, c9, c10, c11, c12, c13, c14, c15], _ => exact ⟨c0, c1, c2, c3, c4, c5, c6, c7, c8, c9, c10, c11, c12, c13, c14, c15, rfl⟩
set_option maxRecDepth 100000 in
theorem open_attrs {fuel : Nat} {cs : List Value} {x : DataW H × List MemPlace} (h : DataW.trod enc Tryz.prog w 0 (fun _ => true) held fuel 33 cs = some x) (hw : Light Tryz.prog 33 x.1) (hlen : cs.length = 16) : ∃ a : Atr, cs = a.cs ∧ AtrOk w a ∧ AtrSz a.c := by
  obtain ⟨c0, c1, c2, c3, c4, c5, c6, c7, c8, c9, c10, c11, c12, c13, c14, c15, rfl⟩ := list16 hlen
  obtain ⟨_, _, f0, g0⟩ := trod_field Tryz.underlying33 h hw 0 3 0 1 ⟨_, rfl, rfl, rfl⟩ (by kernel_rfl)
  obtain ⟨_, _, f1, g1⟩ := trod_field Tryz.underlying33 h hw 1 28 1 1 ⟨_, rfl, rfl, rfl⟩ (by kernel_rfl)
  obtain ⟨_, _, f2, g2⟩ := trod_field Tryz.underlying33 h hw 2 9 2 1 ⟨_, rfl, rfl, rfl⟩ (by kernel_rfl)
  obtain ⟨_, _, f3, g3⟩ := trod_field Tryz.underlying33 h hw 3 4 3 1 ⟨_, rfl, rfl, rfl⟩ (by kernel_rfl)
  obtain ⟨_, _, f4, g4⟩ := trod_field Tryz.underlying33 h hw 4 22 4 1 ⟨_, rfl, rfl, rfl⟩ (by kernel_rfl)
  obtain ⟨_, _, f5, g5⟩ := trod_field Tryz.underlying33 h hw 5 4 5 1 ⟨_, rfl, rfl, rfl⟩ (by kernel_rfl)
  obtain ⟨_, _, f6, g6⟩ := trod_field Tryz.underlying33 h hw 6 22 6 1 ⟨_, rfl, rfl, rfl⟩ (by kernel_rfl)
  obtain ⟨_, _, f7, g7⟩ := trod_field Tryz.underlying33 h hw 7 4 7 1 ⟨_, rfl, rfl, rfl⟩ (by kernel_rfl)
  obtain ⟨_, _, f8, g8⟩ := trod_field Tryz.underlying33 h hw 8 22 8 1 ⟨_, rfl, rfl, rfl⟩ (by kernel_rfl)
  obtain ⟨_, _, f9, g9⟩ := trod_field Tryz.underlying33 h hw 9 22 9 1 ⟨_, rfl, rfl, rfl⟩ (by kernel_rfl)
  obtain ⟨_, _, f10, g10⟩ := trod_field Tryz.underlying33 h hw 10 29 10 1 ⟨_, rfl, rfl, rfl⟩ (by kernel_rfl)
  obtain ⟨_, _, f11, g11⟩ := trod_field Tryz.underlying33 h hw 11 30 11 1 ⟨_, rfl, rfl, rfl⟩ (by kernel_rfl)
  obtain ⟨_, _, f12, g12⟩ := trod_field Tryz.underlying33 h hw 12 31 12 1 ⟨_, rfl, rfl, rfl⟩ (by kernel_rfl)
  obtain ⟨_, _, f13, g13⟩ := trod_field Tryz.underlying33 h hw 13 4 13 1 ⟨_, rfl, rfl, rfl⟩ (by kernel_rfl)
  obtain ⟨_, _, f14, g14⟩ := trod_field Tryz.underlying33 h hw 14 22 14 1 ⟨_, rfl, rfl, rfl⟩ (by kernel_rfl)
  obtain ⟨_, _, f15, g15⟩ := trod_field Tryz.underlying33 h hw 15 29 15 1 ⟨_, rfl, rfl, rfl⟩ (by kernel_rfl)
  clear h hw
  simp only [List.drop_succ_cons, List.drop_zero, List.take_succ_cons, List.take_zero] at f0
  simp only [List.drop_succ_cons, List.drop_zero, List.take_succ_cons, List.take_zero] at f1
  simp only [List.drop_succ_cons, List.drop_zero, List.take_succ_cons, List.take_zero] at f2
  simp only [List.drop_succ_cons, List.drop_zero, List.take_succ_cons, List.take_zero] at f3
  simp only [List.drop_succ_cons, List.drop_zero, List.take_succ_cons, List.take_zero] at f4
  simp only [List.drop_succ_cons, List.drop_zero, List.take_succ_cons, List.take_zero] at f5
  simp only [List.drop_succ_cons, List.drop_zero, List.take_succ_cons, List.take_zero] at f6
  simp only [List.drop_succ_cons, List.drop_zero, List.take_succ_cons, List.take_zero] at f7
  simp only [List.drop_succ_cons, List.drop_zero, List.take_succ_cons, List.take_zero] at f8
  simp only [List.drop_succ_cons, List.drop_zero, List.take_succ_cons, List.take_zero] at f9
  simp only [List.drop_succ_cons, List.drop_zero, List.take_succ_cons, List.take_zero] at f10
  simp only [List.drop_succ_cons, List.drop_zero, List.take_succ_cons, List.take_zero] at f11
  simp only [List.drop_succ_cons, List.drop_zero, List.take_succ_cons, List.take_zero] at f12
  simp only [List.drop_succ_cons, List.drop_zero, List.take_succ_cons, List.take_zero] at f13
  simp only [List.drop_succ_cons, List.drop_zero, List.take_succ_cons, List.take_zero] at f14
  simp only [List.drop_succ_cons, List.drop_zero, List.take_succ_cons, List.take_zero] at f15
  obtain ⟨x0, rfl, a0, b0⟩ := isI64 Tryz.underlying3 f0
  obtain ⟨A1, l1, c1, rfl, r1, q1, n1, m1, z1⟩ := open_segs f1 g1
  obtain ⟨x2, e2, d2, s2⟩ := DataW.trod_string Tryz.underlying9 f2
  simp only [List.cons.injEq, and_true] at e2
  subst e2
  have z2 : x2.size ≤ 140737488351232 := g2 _ (by rw [d2]; simp [DataW.weights])
  obtain ⟨x3, rfl⟩ := isBool Tryz.underlying4 f3
  obtain ⟨x4, rfl, a4, b4⟩ := isU32 Tryz.underlying22 f4
  obtain ⟨x4, rfl⟩ := Int.eq_ofNat_of_zero_le a4
  have y4 : x4 < 4294967296 := by omega
  obtain ⟨x5, rfl⟩ := isBool Tryz.underlying4 f5
  obtain ⟨x6, rfl, a6, b6⟩ := isU32 Tryz.underlying22 f6
  obtain ⟨x6, rfl⟩ := Int.eq_ofNat_of_zero_le a6
  have y6 : x6 < 4294967296 := by omega
  obtain ⟨x7, rfl⟩ := isBool Tryz.underlying4 f7
  obtain ⟨x8, rfl, a8, b8⟩ := isU32 Tryz.underlying22 f8
  obtain ⟨x8, rfl⟩ := Int.eq_ofNat_of_zero_le a8
  have y8 : x8 < 4294967296 := by omega
  obtain ⟨x9, rfl, a9, b9⟩ := isU32 Tryz.underlying22 f9
  obtain ⟨x9, rfl⟩ := Int.eq_ofNat_of_zero_le a9
  have y9 : x9 < 4294967296 := by omega
  obtain ⟨A10, l10, c10, rfl, r10, q10, n10, m10, z10⟩ := open_u32s f10 g10
  obtain ⟨A11, l11, c11, rfl, r11, q11, n11, m11, z11⟩ := open_u64s f11 g11
  obtain ⟨A12, l12, c12, rfl, r12, q12, n12, m12, z12⟩ := open_larges f12 g12
  obtain ⟨x13, rfl⟩ := isBool Tryz.underlying4 f13
  obtain ⟨x14, rfl, a14, b14⟩ := isU32 Tryz.underlying22 f14
  obtain ⟨x14, rfl⟩ := Int.eq_ofNat_of_zero_le a14
  have y14 : x14 < 4294967296 := by omega
  obtain ⟨A15, l15, c15, rfl, r15, q15, n15, m15, z15⟩ := open_u32s f15 g15
  refine ⟨⟨x0, A1, l1, c1, x2, x3, x4, x5, x6, x7, x8, x9, A10, l10, c10, A11, l11, c11, A12, l12, c12, x13, x14, A15, l15, c15⟩, rfl, ⟨r1, fun s hs => (q1 s hs).1, n1, m1, by unfold maxLen at s2; exact s2, r10, n10, m10, q10, r11, n11, m11, q11, r12, n12, m12, q12, r15, n15, m15, q15, ⟨a0, b0⟩, ⟨y4, y6, y8, y9, y14⟩⟩, ⟨?_, ?_, z2, z10, z11, z12, z15⟩⟩
  · show (l1.map Sg.c).length * 32 ≤ _
    rw [List.length_map]
    exact z1
  · intro y hy
    obtain ⟨s, hs, rfl⟩ := List.mem_map.1 hy
    exact (q1 s hs).2
end
end Go.Proofs.YtojiieghjhjoaaaGreat
