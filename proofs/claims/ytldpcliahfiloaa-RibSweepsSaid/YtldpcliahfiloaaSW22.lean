/-
  Several texts in one.
-/
import Derived.Test.YtldpcliahfiloaaSW15
import Derived.SizedLaws
set_option linter.unusedVariables false
set_option linter.unusedSimpArgs false
namespace Go.Proofs.Ytldpcliahfiloaa
open Go.RowKit Go.MapKept
open Go.ChangeShapes Go.WideShapes Go.ChangeAt Go.Deep

/-- what came in weighs little enough -/
def Light {H : Type} (P : Program) (t : TypeId) (d : DataW H) : Prop := ∀ m ∈ d.weights P t, m ≤ 140737488351232
section
variable {H : Type} {enc : TypeId × Value → H} {P : Program} {w : World} {held : Bool} {base : Nat} {sp : Nat → Bool}
theorem light_of {ts : List TypeId} {ds : List (DataW H)} (h : (DataW.weightsEach P ts ds).all (· ≤ reachBytes) = true) {j : Nat} {t : TypeId} {d : DataW H} (ht : ts[j]? = some t) (hd : ds[j]? = some d) : Light P t d := fun m hm => by
  exact of_decide_eq_true (List.all_eq_true.1 h _ (DataW.weights_mem_each ht hd m hm))
theorem trod_field {t : TypeId} {fs : Array Field} {fuel : Nat} {cs : List Value} {x : DataW H × List MemPlace} (ht : P.underlying t = some (.struct fs)) (h : DataW.trod enc P w base sp held fuel t cs = some x) (hw : Light P t x.1) (j : Nat) (ty : TypeId) (off k : Nat) (hj : ∃ f, fs[j]? = some f ∧ f.type = ty ∧ f.offset = off) (hk : P.cellsOf ty = k) :
    ∃ (n : Nat) (y : DataW H × List MemPlace), DataW.trod enc P w base sp held n ty ((cs.drop off).take k) = some y ∧ Light P ty y.1 := by
  obtain ⟨f, hj, rfl, rfl⟩ := hj
  subst hk
  obtain ⟨xs, n, _, rfl, hlen, hxl, hf⟩ := DataW.trod_struct ht h
  have hjl : j < xs.length := by rw [hxl]; exact (Array.getElem?_eq_some_iff.1 hj).1
  have h1 := hf j f hj
  rw [List.getElem?_eq_getElem hjl] at h1
  refine ⟨n, _, h1, fun m hm => hw m ?_⟩
  simp only [DataW.weights, ht]
  exact DataW.weights_mem_each (j := j) (by rw [List.getElem?_map, Array.getElem?_toList, hj]; rfl) (by rw [List.getElem?_map, List.getElem?_eq_getElem hjl]; rfl) m hm
theorem weights_mem_all {e : TypeId} {d : DataW H} {m : Nat} : ∀ {l : List (DataW H)}, d ∈ l → m ∈ d.weights P e → m ∈ DataW.weightsAll P e l
  | [], h, _ => by cases h
  | x :: r, h, hm => by
    unfold DataW.weightsAll
    rcases List.mem_cons.1 h with rfl | h
    · exact List.mem_append.2 (.inl hm)
    · exact List.mem_append.2 (.inr (weights_mem_all h hm))
/-- a slice that came in, as a list of what its elements are -/
theorem open_list {α : Type} (F : α → List Value) (Q : α → Prop) {t e : TypeId} {C fuel : Nat} {v : Value} {x : DataW H × List MemPlace} (ht : P.underlying t = some (.slice e)) (hC : P.cellsOf e = C) (hpos : 0 < C) (hF : ∀ a, (F a).length = C)
    (hel : ∀ (n : Nat) (cs : List Value) (y : DataW H × List MemPlace), cs.length = C → DataW.trod enc P w 0 (fun _ => true) held n e cs = some y → Light P e y.1 → ∃ a, cs = F a ∧ Q a)
    (h : DataW.trod enc P w 0 (fun _ => true) held fuel t [v] = some x) (hw : Light P t x.1) :
    ∃ (A : Option Addr) (L : List α) (cap : Nat), v = .slice A L.length cap ∧ Rd w A C (L.map F) ∧ (∀ a ∈ L, Q a) ∧ L.length ≤ cap ∧ cap ≤ maxLen ∧ L.length * P.bytesOf e ≤ 140737488351232 := by
  subst hC
  rcases open_slice ht h with ⟨hcs, hx⟩ | ⟨a, l, c, m, n, D, Pl, hcs, hb, hl, hm, hmm, hx, hi⟩
  · simp only [List.cons.injEq, and_true] at hcs
    subst hcs
    exact ⟨none, [], 0, rfl, fun h0 => absurd h0 (by simp), (fun a ha => by cases ha), Nat.le_refl _, Nat.zero_le _, by simp⟩
  · simp only [List.cons.injEq, and_true] at hcs
    simp only [if_true] at hmm
    subst hmm
    subst hx
    subst hcs
    have hwt : (l + (m - l)) * P.bytesOf e ≤ 140737488351232 := by
      refine hw _ ?_
      simp only [DataW.weights, ht]
      exact List.mem_cons.2 (.inl (by simp))
    have hle : ∀ i, i < l → Light P e (D i) := fun i hi2 k hk => hw k (by
      simp only [DataW.weights, ht]
      exact List.mem_cons.2 (.inr (List.mem_append.2 (.inl (weights_mem_all (List.mem_map.2 ⟨i, List.mem_range.2 hi2, rfl⟩) hk)))))
    have hsp : 0 < l → a.spot = none ∧ a.block < w.heap.size := fun h0 => by
      obtain ⟨cs0, hc0, _⟩ := hi 0 (by omega)
      obtain ⟨_, hcl0, hat0⟩ := World.cells?_some hc0
      have h00 := hat0 0 hpos
      have hv0 : cs0[0]? = some (cs0[0]'(by omega)) := List.getElem?_eq_getElem (by omega)
      rw [hv0] at h00
      have h1 := World.cell?_spot h00
      have h2 := World.block_lt_of_cell? w _ h00
      obtain ⟨b, off, spot⟩ := a
      exact ⟨by simpa [Addr.add] using h1, by simpa [Addr.add] using h2⟩
    have key : ∀ n, n ≤ l → ∃ L : List α, L.length = n ∧ (∀ x ∈ L, Q x) ∧ ∀ (i : Nat) (x : α), L[i]? = some x → ∀ (j : Nat) u, (F x)[j]? = some u → w.cell? (a.add (i * P.cellsOf e + j)) = some u := by
      intro n
      induction n with
      | zero => intro _; exact ⟨[], rfl, fun x hx => (by simp at hx), fun i x hx => (by simp at hx)⟩
      | succ n ih =>
        intro hn
        obtain ⟨L, hL, hf, hc⟩ := ih (by omega)
        obtain ⟨cs, hcs, htr⟩ := hi n (by omega)
        obtain ⟨_, hcl, hat⟩ := World.cells?_some hcs
        obtain ⟨s, rfl, hQ⟩ := hel _ _ _ hcl htr (hle n (by omega))
        refine ⟨L ++ [s], by simp [hL], fun x hx => ?_, fun i x hx j u hu => ?_⟩
        · rcases List.mem_append.1 hx with hx | hx
          · exact hf x hx
          · obtain rfl := List.mem_singleton.1 hx
            exact hQ
        · rcases Nat.lt_or_ge i L.length with hlt | hge
          · rw [List.getElem?_append_left hlt] at hx
            exact hc i x hx j u hu
          · rw [List.getElem?_append_right hge] at hx
            have h0 : i - L.length = 0 := by
              rcases Nat.eq_zero_or_pos (i - L.length) with h | h
              · exact h
              · rw [List.getElem?_eq_none (by rw [List.length_singleton]; omega)] at hx; cases hx
            rw [h0] at hx
            obtain rfl : s = x := Option.some.inj hx
            have hin : i = n := by omega
            subst hin
            have hj : j < (F s).length := (List.getElem?_eq_some_iff.1 hu).1
            have h2 := hat j (by omega)
            rw [Go.Deep.add_add] at h2
            rw [h2]
            exact hu
    obtain ⟨L, hL, hf, hc⟩ := key l (Nat.le_refl _)
    refine ⟨some a, L, m, by rw [hL], fun h0 => ?_, hf, by omega, hm, ?_⟩
    · rw [List.length_map] at h0
      obtain ⟨h1, h2⟩ := hsp (by omega)
      obtain ⟨b, off, spot⟩ := a
      subst h1
      refine ⟨b, off, rfl, h2, fun i cs hi2 j u hu => ?_⟩
      rw [List.getElem?_map] at hi2
      cases hx : L[i]? with
      | none => rw [hx] at hi2; cases hi2
      | some x =>
        rw [hx] at hi2
        obtain rfl : F x = cs := Option.some.inj hi2
        have := hc i x hx j u hu
        rw [add_off] at this
        rw [Nat.add_assoc]
        exact this
    · rw [hL]
      exact Nat.le_trans (Nat.mul_le_mul_right _ (by omega)) hwt
end
section
variable {H : Type} {enc : TypeId × Value → H} {w : World} {held : Bool}
end
end Go.Proofs.Ytldpcliahfiloaa
