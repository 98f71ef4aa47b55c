/-
  What the first of the order is: the facts of DecideFirst. Conditions: none; plain lemmas.
-/
import Derived.Test.YtoamigfjpcniaaaDeW
set_option linter.unusedVariables false
set_option linter.unusedSimpArgs false
namespace Go.Proofs.Ytoamigfjpcniaaa
open Go.Lib hiding intOf

theorem R_sub {P P' : Core → Prop} (hsub : ∀ q, P' q → P q) (htr : ∀ k q r s, k < 12 → P q → P r → P s → leS k q r → leS k r s → leS k q s) {q : Core} (hq : P' q) : ∀ k, k ≤ 12 → R k P q → R k P' q ∧ ∀ r, R k P' r → R k P r
  | 0, _, h => ⟨hq, fun r hr => hsub r hr⟩
  | k + 1, hk, h => by
    obtain ⟨i1, i2⟩ := R_sub hsub htr hq k (by omega) h.1
    refine ⟨⟨i1, fun r hr => h.2 r (i2 r hr)⟩, fun r hr => ⟨i2 r hr.1, fun s hs => ?_⟩⟩
    exact htr k r q s (by omega) (R_le 0 k (by simpa using i2 r hr.1)) (R_le 0 k (by simpa using h.1)) (R_le 0 k (by simpa using hs)) (hr.2 q i1) (h.2 s hs)
theorem order_pair : ∀ (n : Nat) (xs : List En), xs.length ≤ n → xs.Pairwise (fun a b => a.at_ ≠ b.at_) → (orderE n xs).Pairwise (fun a b => ∃ rem, bestF rem = some a ∧ b ∈ rem ∧ ∀ z ∈ rem, z ∈ xs)
  | 0, xs, h, _ => List.Pairwise.nil
  | n + 1, xs, h, hp => by
    unfold orderE
    cases hb : bestF xs with
    | none => exact List.Pairwise.nil
    | some b =>
      have hl : (xs.filter fun z => z.at_ != b.at_).length ≤ n := by have := drop_best hb; omega
      refine List.pairwise_cons.2 ⟨fun z hz => ?_, ?_⟩
      · have := (orderE_mem n _ hl (hp.filter _) z).1 hz
        exact ⟨xs, hb, (List.mem_filter.1 this).1, fun z hz => hz⟩
      · refine (order_pair n _ hl (hp.filter _)).imp ?_
        rintro a c ⟨rem, h1, h2, h3⟩
        exact ⟨rem, h1, h2, fun z hz => (List.mem_filter.1 (h3 z hz)).1⟩
theorem leS_trans {k : Nat} {q r s : Core} (hk : k ≠ 4) (h1 : leS k q r) (h2 : leS k r s) : leS k q s := by
  unfold leS at h1 h2 ⊢
  rw [if_neg hk] at h1 h2 ⊢
  exact (wo_ck k).trans _ _ _ h1 h2
/-- no two neighbours' ASs meet, or no path has a Med -/
def Plain (ps : List Pt) : Prop := (∀ p ∈ ps, ∀ q ∈ ps, neiF p = neiF q) ∨ ∀ p ∈ ps, medF p = 0
theorem Plain.trans {ps : List Pt} (h : Plain ps) {q r s : Core} (hq : q.1 ∈ ps) (hr : r.1 ∈ ps) (hs : s.1 ∈ ps) (h1 : leS 4 q r) (h2 : leS 4 r s) : leS 4 q s := by
  unfold leS at h1 h2 ⊢
  rw [if_pos rfl] at h1 h2 ⊢
  intro _
  rcases h with h | h
  · have e1 := h1 (h _ hr _ hq)
    have e2 := h2 (h _ hs _ hr)
    omega
  · rw [h _ hq, h _ hs]
    exact Int.le_refl _
theorem better_true {f : Pt → Option Int} {ps : List Pt} (hids : Ids ps) (hpl : Plain ps) {i k x y : Nat} {p q : Pt} (hik : i < k) (hx : (orderF (openL f 0 ps))[i]? = some x) (hy : (orderF (openL f 0 ps))[k]? = some y) (hp : ps[x]? = some p) (hq : ps[y]? = some q) : betterF f p q = true := by
  have g1 := good_in (f := f) hids
  have m1 := orderE_mem _ _ (Nat.le_refl _) g1.at_
  have pr := order_pair _ _ (Nat.le_refl _) g1.at_
  have nd := orderE_nd _ _ (Nat.le_refl _) g1.at_
  rw [orderF_E, List.getElem?_map] at hx hy
  generalize orderE _ (openL f 0 ps) = ea at *
  cases hz : ea[i]? with
  | none => rw [hz] at hx; cases hx
  | some a =>
    cases hu : ea[k]? with
    | none => rw [hu] at hy; cases hy
    | some b =>
      rw [hz] at hx
      rw [hu] at hy
      obtain rfl : a.at_ = x := Option.some.inj hx
      obtain rfl : b.at_ = y := Option.some.inj hy
      obtain ⟨hi1, e1⟩ := List.getElem?_eq_some_iff.1 hz
      obtain ⟨hk1, e2⟩ := List.getElem?_eq_some_iff.1 hu
      obtain ⟨rem, hb, hmem, hsub⟩ := List.pairwise_iff_getElem.1 pr i k hi1 hk1 hik
      rw [e1] at hb
      rw [e2] at hmem
      have hne := List.pairwise_iff_getElem.1 nd i k hi1 hk1 hik
      rw [e1, e2] at hne
      obtain ⟨ha1, ha2⟩ := openL_mem0 ((m1 a).1 (List.mem_of_getElem? hz))
      obtain ⟨hb1, hb2⟩ := openL_mem0 ((m1 b).1 (List.mem_of_getElem? hu))
      rw [hp] at ha1
      rw [hq] at hb1
      obtain rfl : p = a.p := Option.some.inj ha1
      obtain rfl : q = b.p := Option.some.inj hb1
      have hab : a.p.id ≠ b.p.id := fun e => hne (by
        have := g1.id a ((m1 a).1 (List.mem_of_getElem? hz)) b ((m1 b).1 (List.mem_of_getElem? hu)) e
        rw [this])
      have hE : openL f 0 [a.p, b.p] = [⟨a.p, 0, a.cost⟩, ⟨b.p, 1, b.cost⟩] := by
        unfold openL openL openL
        rw [ha2, hb2]
      have hcs : ∀ c, CS (openL f 0 [a.p, b.p]) c ↔ c = core a ∨ c = core b := fun c => by
        rw [hE]
        constructor
        · rintro ⟨z, hz, rfl⟩
          simp only [List.mem_cons, List.not_mem_nil, or_false] at hz
          rcases hz with rfl | rfl
          · exact .inl rfl
          · exact .inr rfl
        · rintro (rfl | rfl)
          · exact ⟨⟨a.p, 0, a.cost⟩, by simp, rfl⟩
          · exact ⟨⟨b.p, 1, b.cost⟩, by simp, rfl⟩
      have hin : ∀ c, CS rem c → c.1 ∈ ps := fun c hc => by
        obtain ⟨z, hz, rfl⟩ := hc
        exact List.mem_of_getElem? (openL_mem0 (hsub z hz)).1
      have hR := (R_sub (P := CS rem) (P' := CS (openL f 0 [a.p, b.p])) (fun c hc => by
          rcases (hcs c).1 hc with rfl | rfl
          · exact ⟨a, bestF_mem hb, rfl⟩
          · exact ⟨b, hmem, rfl⟩)
        (fun k q r s hk hq hr hs h1 h2 => by
          by_cases h4 : k = 4
          · subst h4
            exact hpl.trans (hin q hq) (hin r hr) (hin s hs) h1 h2
          · exact leS_trans h4 h1 h2) ((hcs (core a)).2 (.inl rfl)) 12 (Nat.le_refl _) (best_R hb)).1
      obtain ⟨y, hy⟩ := bestF_some (xs := openL f 0 [a.p, b.p]) (by rw [hE]; simp)
      have hid := R_id hR (best_R hy)
      have hym := bestF_mem hy
      rw [hE] at hym
      unfold betterF
      rw [hy]
      simp only [List.mem_cons, List.not_mem_nil, or_false] at hym
      rcases hym with rfl | rfl
      · rfl
      · exact absurd hid hab
/-- two alike entries -/
theorem run_two {x y : En} (h : core x = core y) : ∀ k, k ≤ 12 → runK k [x, y] = [x, y]
  | 0, _ => rfl
  | k + 1, hk => by
    rw [runK_succ (step_at (by omega)), run_two h k (by omega)]
    have hp : x.p = y.p := congrArg Prod.fst h
    split
    · unfold byMedL lowAll
      simp only [List.all_cons, List.all_nil, Bool.and_true]
      simp [hp]
    · have e : ck k y x ≤ 0 ∧ ¬ ck k y x < 0 := by
        have e1 : ck k y x = ck k x x := by rw [ck_core k y x, ← h, ← ck_core]
        have e2 := (wo_ck k).refl x
        have e3 := (wo_ck k).anti x x
        omega
      show stepL (ck k) (stepL (ck k) [] x) y = _
      show (if 0 < ck k y x then [x] else if ck k y x < 0 then [y] else [x] ++ [y]) = _
      rw [if_neg (by omega), if_neg e.2]
      rfl
theorem better_self {f : Pt → Option Int} (p : Pt) : betterF f p p = (f p).isSome := by
  unfold betterF
  cases hf : f p with
  | none =>
    have hE : openL f 0 [p, p] = [] := by unfold openL openL openL; rw [hf]
    rw [hE, bestF_nil]
    rfl
  | some c =>
    have hE : openL f 0 [p, p] = [⟨p, 0, c⟩, ⟨p, 1, c⟩] := by unfold openL openL openL; rw [hf]
    rw [hE]
    unfold bestF
    rw [run_two (x := ⟨p, 0, c⟩) (y := ⟨p, 1, c⟩) rfl 12 (Nat.le_refl _)]
    rfl
/-- what the best one is -/
theorem first_facts {f : Pt → Option Int} {ps : List Pt} {b : En} (hb : bestF (openL f 0 ps) = some b) {i : Nat} {p : Pt} (hp : ps[i]? = some p) (hf : (f p).isSome = true) :
    degF p ≤ degF b.p ∧ (degF b.p ≤ degF p → (p.kind = 1 → b.p.kind = 1) ∧ (p.kind = b.p.kind → lenF b.p.segs ≤ lenF p.segs)) := by
  obtain ⟨c, hc⟩ := Option.isSome_iff_exists.1 hf
  have hR := best_R hb
  have hq : CS (openL f 0 ps) (p, c) := (CS_in _).2 ⟨⟨i, hp⟩, hc⟩
  have r1 := R_le 1 11 hR
  have r2 := R_le 2 10 hR
  have r3 := R_le 3 9 hR
  have d1 : Lib.compareInt (degF p) (degF b.p) ≤ 0 := r1.2 _ hq
  have d1 := (ci_le _ _).1 d1
  refine ⟨d1, fun h => ?_⟩
  have hq1 : R 1 (CS (openL f 0 ps)) (p, c) := ⟨hq, fun r hr => by
    have e1 : Lib.compareInt (degF r.1) (degF b.p) ≤ 0 := r1.2 r hr
    have e1 := (ci_le _ _).1 e1
    show Lib.compareInt (degF r.1) (degF p) ≤ 0
    exact (ci_le _ _).2 (by omega)⟩
  have d2 : Lib.compareInt (locF b.p) (locF p) ≤ 0 := r2.2 _ hq1
  have d2 := (ci_le _ _).1 d2
  refine ⟨fun hk => ?_, fun hk => ?_⟩
  · unfold locF at d2
    rw [if_pos hk] at d2
    by_cases hb1 : b.p.kind = 1
    · exact hb1
    · rw [if_neg hb1] at d2; omega
  · have hl : locF p = locF b.p := by unfold locF; rw [hk]
    have hq2 : R 2 (CS (openL f 0 ps)) (p, c) := ⟨hq1, fun r hr => by
      have e1 : Lib.compareInt (locF b.p) (locF r.1) ≤ 0 := r2.2 r hr
      have e1 := (ci_le _ _).1 e1
      show Lib.compareInt (locF p) (locF r.1) ≤ 0
      exact (ci_le _ _).2 (by omega)⟩
    have d3 : Lib.compareInt (lenF b.p.segs) (lenF p.segs) ≤ 0 := r3.2 _ hq2
    exact (ci_le _ _).1 d3
end Go.Proofs.Ytoamigfjpcniaaa
