/-
  What the two orders have in common: the facts of DecideSame. Conditions: none; plain lemmas.
-/
import Derived.Test.YtoamigfjpcniaaaDeU
set_option linter.unusedVariables false
set_option linter.unusedSimpArgs false
namespace Go.Proofs.Ytoamigfjpcniaaa
open Go.Lib hiding intOf

/-- turned by a number -/
def turnL (ps : List Pt) (m k : Nat) : List Pt := (List.range k).filterMap fun i => ps[(i + m) % ps.length]?
theorem turn_succ {ps : List Pt} {m k : Nat} {p : Pt} (h : ps[(k + m) % ps.length]? = some p) : turnL ps m (k + 1) = turnL ps m k ++ [p] := by
  unfold turnL
  rw [List.range_succ, List.filterMap_append, List.filterMap_cons, h, List.filterMap_nil]
theorem turn_len {ps : List Pt} {m : Nat} (h : 0 < ps.length) : ∀ k, (turnL ps m k).length = k
  | 0 => rfl
  | k + 1 => by
    have hl : (k + m) % ps.length < ps.length := Nat.mod_lt _ h
    rw [turn_succ (List.getElem?_eq_getElem hl), List.length_append, turn_len h k]
    rfl
theorem turn_at {ps : List Pt} {m k i : Nat} (h : 0 < ps.length) (hi : i < k) : (turnL ps m k)[i]? = ps[(i + m) % ps.length]? := by
  induction k with
  | zero => omega
  | succ k ih =>
    have hl : (k + m) % ps.length < ps.length := Nat.mod_lt _ h
    rw [turn_succ (List.getElem?_eq_getElem hl)]
    rcases Nat.lt_or_ge i k with hik | hik
    · rw [List.getElem?_append_left (by rw [turn_len h]; exact hik)]
      exact ih hik
    · obtain rfl : i = k := by omega
      rw [List.getElem?_append_right (by rw [turn_len h]; exact Nat.le_refl _), turn_len h, Nat.sub_self]
      exact (List.getElem?_eq_getElem hl).symm
theorem turn_mem {ps : List Pt} {m k : Nat} {p : Pt} (hp : p ∈ turnL ps m k) : p ∈ ps := by
  obtain ⟨i, _, h⟩ := List.mem_filterMap.1 hp
  exact List.mem_of_getElem? h
theorem openL_has {f : Pt → Option Int} : ∀ {l : List Pt} {i j : Nat} {p : Pt} {c : Int}, l[j]? = some p → f p = some c → (⟨p, i + j, c⟩ : En) ∈ openL f i l
  | [], i, j, p, c, h, _ => by simp at h
  | q :: l, i, 0, p, c, h, hf => by
    obtain rfl : q = p := Option.some.inj h
    unfold openL
    rw [hf]
    simp
  | q :: l, i, j + 1, p, c, h, hf => by
    have ih := openL_has (i := i + 1) (j := j) (l := l) (by simpa using h) hf
    have e : i + 1 + j = i + (j + 1) := by omega
    rw [e] at ih
    unfold openL
    cases f q with
    | none => exact ih
    | some d => exact List.mem_cons_of_mem _ ih
theorem openL_pw (f : Pt → Option Int) : ∀ (l : List Pt) (i : Nat), (openL f i l).Pairwise (fun a b => a.at_ ≠ b.at_)
  | [], i => List.Pairwise.nil
  | q :: l, i => by
    have ih := openL_pw f l (i + 1)
    unfold openL
    cases f q with
    | none => exact ih
    | some d =>
      refine List.pairwise_cons.2 ⟨fun z hz => ?_, ih⟩
      have := (openL_mem hz).1
      show i ≠ z.at_
      omega
/-- a path's id is its place -/
def Ids (ps : List Pt) : Prop := ∀ (i : Nat) (p : Pt), ps[i]? = some p → p.id = (i : Int)
theorem OfAll.ids {xs : List Spt} {ps : List Pt} (h : OfAll xs ps) : Ids ps := fun i p hp => by
  obtain ⟨x, A, B, C, c, d, e, _, rfl⟩ := h.2 i p hp
  rfl
theorem openL_mem0 {f : Pt → Option Int} {l : List Pt} {e : En} (h : e ∈ openL f 0 l) : l[e.at_]? = some e.p ∧ f e.p = some e.cost := by
  obtain ⟨_, h2, h3⟩ := openL_mem h
  rw [Nat.sub_zero] at h2
  exact ⟨h2, h3⟩
theorem en_ext {a b : En} (h1 : a.p = b.p) (h2 : a.at_ = b.at_) (h3 : a.cost = b.cost) : a = b := by
  cases a; cases b
  simp only at h1 h2 h3
  subst h1; subst h2; subst h3
  rfl
theorem good_in {f : Pt → Option Int} {ps : List Pt} (h : Ids ps) : Good (openL f 0 ps) := ⟨openL_pw f ps 0, fun a ha b hb e => by
  obtain ⟨a1, a2⟩ := openL_mem0 ha
  obtain ⟨b1, b2⟩ := openL_mem0 hb
  have e1 := h _ _ a1
  have e2 := h _ _ b1
  have hat : a.at_ = b.at_ := by omega
  rw [hat, b1] at a1
  have hp : a.p = b.p := (Option.some.inj a1).symm
  rw [hp, b2] at a2
  exact en_ext hp hat (Option.some.inj a2).symm⟩
theorem mod_inj {i j m n : Nat} (hi : i < n) (hj : j < n) (h : (i + m) % n = (j + m) % n) : i = j := by
  have h1 := Nat.div_add_mod (i + m) n
  have h2 := Nat.div_add_mod (j + m) n
  rcases Nat.lt_trichotomy ((i + m) / n) ((j + m) / n) with hlt | heq | hgt
  · have : n * ((i + m) / n) + n ≤ n * ((j + m) / n) := by rw [← Nat.mul_succ]; exact Nat.mul_le_mul_left n hlt
    omega
  · rw [heq, h] at h1; omega
  · have : n * ((j + m) / n) + n ≤ n * ((i + m) / n) := by rw [← Nat.mul_succ]; exact Nat.mul_le_mul_left n hgt
    omega
theorem turn_get {ps : List Pt} {m j : Nat} {p : Pt} (h : (turnL ps m ps.length)[j]? = some p) : j < ps.length ∧ ps[(j + m) % ps.length]? = some p := by
  have hl : 0 < ps.length := by
    rcases Nat.eq_zero_or_pos ps.length with h0 | h0
    · unfold turnL at h; rw [h0] at h; cases h
    · exact h0
  have hj := (List.getElem?_eq_some_iff.1 h).1
  rw [turn_len hl] at hj
  rw [turn_at hl hj] at h
  exact ⟨hj, h⟩
theorem good_turned {f : Pt → Option Int} {ps : List Pt} (m : Nat) (h : Ids ps) : Good (openL f 0 (turnL ps m ps.length)) := ⟨openL_pw f _ 0, fun a ha b hb e => by
  obtain ⟨a1, a2⟩ := openL_mem0 ha
  obtain ⟨b1, b2⟩ := openL_mem0 hb
  obtain ⟨a3, a4⟩ := turn_get a1
  obtain ⟨b3, b4⟩ := turn_get b1
  have e1 := h _ _ a4
  have e2 := h _ _ b4
  have hat : a.at_ = b.at_ := mod_inj a3 b3 (by
    have h9 : (((a.at_ + m) % ps.length : Nat) : Int) = (((b.at_ + m) % ps.length : Nat) : Int) := by rw [← e1, e, e2]
    exact Int.ofNat_inj.1 h9)
  rw [hat, b1] at a1
  have hp : a.p = b.p := (Option.some.inj a1).symm
  rw [hp, b2] at a2
  exact en_ext hp hat (Option.some.inj a2).symm⟩
theorem CS_in {f : Pt → Option Int} {ps : List Pt} (q : Core) : CS (openL f 0 ps) q ↔ (∃ i : Nat, ps[i]? = some q.1) ∧ f q.1 = some q.2 := by
  constructor
  · rintro ⟨z, hz, rfl⟩
    obtain ⟨h1, h2⟩ := openL_mem0 hz
    exact ⟨⟨_, h1⟩, h2⟩
  · rintro ⟨⟨i, hi⟩, hf⟩
    exact ⟨⟨q.1, 0 + i, q.2⟩, openL_has hi hf, rfl⟩
theorem turn_has {ps : List Pt} {p : Pt} (m : Nat) : (∃ i : Nat, ps[i]? = some p) ↔ ∃ j : Nat, (turnL ps m ps.length)[j]? = some p := by
  constructor
  · rintro ⟨i, hi⟩
    have hil := (List.getElem?_eq_some_iff.1 hi).1
    have hl : 0 < ps.length := by omega
    have hm : m % ps.length < ps.length := Nat.mod_lt _ hl
    have hj : (i + (ps.length - m % ps.length)) % ps.length < ps.length := Nat.mod_lt _ hl
    refine ⟨(i + (ps.length - m % ps.length)) % ps.length, ?_⟩
    rw [turn_at hl hj]
    have e : ((i + (ps.length - m % ps.length)) % ps.length + m) % ps.length = i := by
      rw [Nat.add_mod, Nat.mod_mod, ← Nat.add_mod]
      have h1 := Nat.div_add_mod m ps.length
      have e1 : i + (ps.length - m % ps.length) + m = i + ps.length * (m / ps.length + 1) := by
        rw [Nat.mul_succ]; omega
      rw [e1, Nat.add_mul_mod_self_left, Nat.mod_eq_of_lt hil]
    rw [e]
    exact hi
  · rintro ⟨j, hj⟩
    exact ⟨_, (turn_get hj).2⟩
/-- THE FACTS of the two orders -/
theorem same_facts {f : Pt → Option Int} {ps : List Pt} (m : Nat) (h : Ids ps) :
    (orderF (openL f 0 ps)).length = (orderF (openL f 0 (turnL ps m ps.length))).length ∧
    (∀ (k x : Nat), (orderF (openL f 0 ps))[k]? = some x → x < ps.length ∧ (∃ p, ps[x]? = some p ∧ (f p).isSome = true) ∧ x ∉ (orderF (openL f 0 ps)).take k) ∧
    (∀ (k x y : Nat), (orderF (openL f 0 ps))[k]? = some x → (orderF (openL f 0 (turnL ps m ps.length)))[k]? = some y → y < ps.length ∧ ∃ p q, ps[x]? = some p ∧ (turnL ps m ps.length)[y]? = some q ∧ p.id = q.id) ∧
    (∀ (i : Nat) (p : Pt), ps[i]? = some p → (i ∈ orderF (openL f 0 ps) ↔ (f p).isSome = true)) := by
  have g1 := good_in (f := f) h
  have g2 := good_turned (f := f) m h
  have hcs : ∀ q, CS (openL f 0 ps) q ↔ CS (openL f 0 (turnL ps m ps.length)) q := fun q => by rw [CS_in, CS_in, turn_has m]
  have hs := order_same _ _ _ _ (Nat.le_refl _) (Nat.le_refl _) g1 g2 hcs
  have m1 := orderE_mem _ _ (Nat.le_refl _) g1.at_
  have m2 := orderE_mem _ _ (Nat.le_refl _) g2.at_
  have nd := orderE_nd _ _ (Nat.le_refl _) g1.at_
  rw [orderF_E, orderF_E]
  generalize orderE _ (openL f 0 ps) = ea at *
  generalize orderE _ (openL f 0 (turnL ps m ps.length)) = eb at *
  refine ⟨?_, fun k x hk => ?_, fun k x y hx hy => ?_, fun i p hp => ?_⟩
  · have := congrArg List.length hs
    simpa using this
  · rw [List.getElem?_map] at hk
    cases hz : ea[k]? with
    | none => rw [hz] at hk; cases hk
    | some z =>
      rw [hz] at hk
      obtain rfl : z.at_ = x := Option.some.inj hk
      obtain ⟨h1, h2⟩ := openL_mem0 ((m1 z).1 (List.mem_of_getElem? hz))
      refine ⟨(List.getElem?_eq_some_iff.1 h1).1, ⟨z.p, h1, by rw [h2]; rfl⟩, fun hm => ?_⟩
      rw [← List.map_take] at hm
      obtain ⟨y, hy, hye⟩ := List.mem_map.1 hm
      obtain ⟨j, hj, e1⟩ := List.mem_iff_getElem.1 hy
      rw [List.getElem_take] at e1
      rw [List.length_take] at hj
      obtain ⟨hk1, e2⟩ := List.getElem?_eq_some_iff.1 hz
      have := List.pairwise_iff_getElem.1 nd j k (by omega) hk1 (by omega)
      rw [e1, e2] at this
      exact this hye
  · rw [List.getElem?_map] at hx hy
    have hc := congrArg (fun l => l[k]?) hs
    simp only [List.getElem?_map] at hc
    cases hz : ea[k]? with
    | none => rw [hz] at hx; cases hx
    | some z =>
      cases hu : eb[k]? with
      | none => rw [hu] at hy; cases hy
      | some u =>
        rw [hz] at hx
        rw [hu] at hy
        rw [hz, hu] at hc
        obtain rfl : z.at_ = x := Option.some.inj hx
        obtain rfl : u.at_ = y := Option.some.inj hy
        have hc2 : core z = core u := Option.some.inj hc
        have hp2 : z.p = u.p := congrArg Prod.fst hc2
        obtain ⟨h1, _⟩ := openL_mem0 ((m1 z).1 (List.mem_of_getElem? hz))
        obtain ⟨h3, _⟩ := openL_mem0 ((m2 u).1 (List.mem_of_getElem? hu))
        exact ⟨(turn_get h3).1, z.p, u.p, h1, h3, by rw [hp2]⟩
  · constructor
    · intro hi
      obtain ⟨z, hz, rfl⟩ := List.mem_map.1 hi
      obtain ⟨h1, h2⟩ := openL_mem0 ((m1 z).1 hz)
      rw [hp] at h1
      obtain rfl : p = z.p := Option.some.inj h1
      rw [h2]
      rfl
    · intro hf
      obtain ⟨c, hc⟩ := Option.isSome_iff_exists.1 hf
      have := openL_has (i := 0) hp hc
      rw [Nat.zero_add] at this
      exact List.mem_map.2 ⟨_, (m1 _).2 this, rfl⟩
/-- .. the best one is the first one -/
theorem best_first (xs : List En) : (bestF xs).map (·.at_) = (orderF xs)[0]? := by
  cases hb : bestF xs with
  | none => rw [bestF_none hb]; rfl
  | some b => rw [orderF_some hb]; rfl
end Go.Proofs.Ytoamigfjpcniaaa
