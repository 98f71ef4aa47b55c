/-
  Trees of prefixes: plain law. What set lays is there, all else stays. Conditions: none.
-/
import Derived.Test.YthnjepehiddogaaMayA
set_option linter.unusedVariables false
set_option linter.unusedSimpArgs false
namespace Go.Proofs.Ythnjepehiddogaa
open Go.RowKit

/-- a prefix that may be -/
structure Tp where
  fam : Int
  rd : Int
  addr : ByteArray
  len : Nat
def Tp.Ok (p : Tp) : Prop := PrefOk p.fam p.rd p.addr (p.len : Nat)
def Tp.bit (p : Tp) (i : Nat) : Nat := bitV p.addr i
/-- the first k bits are the same -/
def eqb (k : Nat) (a b : Tp) : Prop := ∀ i, i < k → a.bit i = b.bit i
theorem eqb.refl (k : Nat) (a : Tp) : eqb k a a := fun _ _ => rfl
theorem eqb.symm {k : Nat} {a b : Tp} (h : eqb k a b) : eqb k b a := fun i hi => (h i hi).symm
theorem eqb.trans {k : Nat} {a b c : Tp} (h : eqb k a b) (g : eqb k b c) : eqb k a c := fun i hi => (h i hi).trans (g i hi)
theorem eqb.mono {k j : Nat} {a b : Tp} (h : eqb k a b) (hj : j ≤ k) : eqb j a b := fun i hi => h i (by omega)
theorem Tp.bit_two (p : Tp) (i : Nat) : p.bit i = 0 ∨ p.bit i = 1 := by
  unfold Tp.bit bitV
  omega
theorem u8_bits {x y : UInt8} (h : ∀ t : Nat, t < 8 → x.toNat / 2 ^ (7 - t) % 2 = y.toNat / 2 ^ (7 - t) % 2) : x = y := by
  apply UInt8.toNat_inj.1
  have h0 := h 0 (by omega)
  have h1 := h 1 (by omega)
  have h2 := h 2 (by omega)
  have h3 := h 3 (by omega)
  have h4 := h 4 (by omega)
  have h5 := h 5 (by omega)
  have h6 := h 6 (by omega)
  have h7 := h 7 (by omega)
  have l1 := x.toNat_lt
  have l2 := y.toNat_lt
  simp only [Nat.reduceSub, Nat.reducePow, Nat.sub_zero] at h0 h1 h2 h3 h4 h5 h6 h7
  omega
theorem addr_ext {a b : ByteArray} (hs : a.size = b.size) (h : ∀ i, i < 8 * a.size → bitV a i = bitV b i) : a = b := by
  have la : a.data.toList.length = a.size := by rw [Array.length_toList]; rfl
  have lb : b.data.toList.length = b.size := by rw [Array.length_toList]; rfl
  apply ByteArray.ext
  apply Array.ext'
  apply List.ext_getElem?
  intro i
  by_cases hi : i < a.size
  · rw [List.getElem?_eq_getElem (by omega), List.getElem?_eq_getElem (by omega)]
    congr 1
    refine u8_bits fun t ht => ?_
    have hb := h (8 * i + t) (by omega)
    unfold bitV at hb
    rw [show (8 * i + t) / 8 = i by omega, show (8 * i + t) % 8 = t by omega, List.getD_eq_getElem?_getD, List.getD_eq_getElem?_getD, List.getElem?_eq_getElem (by omega), List.getElem?_eq_getElem (by omega)] at hb
    exact hb
  · rw [List.getElem?_eq_none (by omega), List.getElem?_eq_none (by omega)]
/-- two of one length with the same first bits are the same -/
theorem Tp.ext_bits {p q : Tp} (hp : p.Ok) (hq : q.Ok) (hf : p.fam = q.fam) (hr : p.rd = q.rd) (hl : p.len = q.len) (h : eqb p.len p q) : p = q := by
  obtain ⟨_, s1, _, _, _, m1⟩ := hp
  obtain ⟨_, s2, _, _, _, m2⟩ := hq
  have z1 := (maskB_bits _ _).1 m1
  have z2 := (maskB_bits _ _).1 m2
  have ha : p.addr = q.addr := addr_ext (by rw [hf] at s1; omega) fun i hi => by
    by_cases hlt : i < p.len
    · exact h i hlt
    · rw [z1 i (by omega) hi, z2 i (by omega) (by rw [hf] at s1; omega)]
  cases p; cases q
  simp_all
/-- how many first bits two share -/
def cmF (a b : Tp) : Nat → Nat → Nat
  | 0, k => k
  | n + 1, k => if a.bit k = b.bit k then cmF a b n (k + 1) else k
theorem cmF_spec (a b : Tp) : ∀ n k, eqb k a b → k ≤ cmF a b n k ∧ cmF a b n k ≤ k + n ∧ eqb (cmF a b n k) a b ∧ (cmF a b n k = k + n ∨ a.bit (cmF a b n k) ≠ b.bit (cmF a b n k))
  | 0, k, h => ⟨Nat.le_refl _, Nat.le_refl _, h, Or.inl rfl⟩
  | n + 1, k, h => by
    unfold cmF
    by_cases hb : a.bit k = b.bit k
    · rw [if_pos hb]
      obtain ⟨h1, h2, h3, h4⟩ := cmF_spec a b n (k + 1) (fun i hi => by
        by_cases hik : i = k
        · rw [hik]; exact hb
        · exact h i (by omega))
      refine ⟨by omega, by omega, h3, ?_⟩
      rcases h4 with h4 | h4
      · left; omega
      · right; exact h4
    · rw [if_neg hb]
      exact ⟨Nat.le_refl _, by omega, h, Or.inr hb⟩
def cmN (a b : Tp) : Nat := cmF a b (min a.len b.len) 0
theorem cmN_spec (a b : Tp) : cmN a b ≤ a.len ∧ cmN a b ≤ b.len ∧ eqb (cmN a b) a b ∧ (cmN a b = a.len ∨ cmN a b = b.len ∨ a.bit (cmN a b) ≠ b.bit (cmN a b)) := by
  obtain ⟨_, h2, h3, h4⟩ := cmF_spec a b (min a.len b.len) 0 (fun i hi => absurd hi (by omega))
  unfold cmN
  refine ⟨by omega, by omega, h3, ?_⟩
  rcases h4 with h4 | h4
  · rcases Nat.le_total a.len b.len with h | h
    · left; omega
    · right; left; omega
  · right; right; exact h4
/-- a covers b -/
def cov (a b : Tp) : Prop := a.len ≤ b.len ∧ eqb a.len a b
theorem cov.refl (a : Tp) : cov a a := ⟨Nat.le_refl _, eqb.refl _ _⟩
theorem cov.trans {a b c : Tp} (h : cov a b) (g : cov b c) : cov a c := ⟨Nat.le_trans h.1 g.1, h.2.trans (g.2.mono h.1)⟩
theorem cmN_cov {a b : Tp} : cmN a b = a.len ↔ cov a b := by
  obtain ⟨h1, h2, h3, h4⟩ := cmN_spec a b
  constructor
  · intro h
    exact ⟨by omega, by rw [← h]; exact h3⟩
  · intro h
    rcases h4 with h4 | h4 | h4
    · exact h4
    · have := h.1; omega
    · by_cases hlt : cmN a b < a.len
      · exact absurd (h.2 _ hlt) h4
      · omega

theorem mval_bit (x : UInt8) (L : Int) (t : Nat) (ht : t < 8) : (mval x L).toNat / 2 ^ (7 - t) % 2 = if (t : Int) < L then x.toNat / 2 ^ (7 - t) % 2 else 0 := by
  have key : ∀ (y : Fin 256) (M : Fin 9) (s : Fin 8), (mval (UInt8.ofNat y.val) (M.val : Int)).toNat / 2 ^ (7 - s.val) % 2 = if s.val < M.val then (UInt8.ofNat y.val).toNat / 2 ^ (7 - s.val) % 2 else 0 := by decide +kernel
  have hx : UInt8.ofNat x.toNat = x := by simp
  have k := fun M => key ⟨x.toNat, x.toNat_lt⟩ M ⟨t, ht⟩
  simp only [hx] at k
  by_cases h0 : L ≤ 0
  · have e : mval x L = mval x ((0 : Nat) : Int) := by unfold mval; rw [if_pos h0, if_pos (by omega)]
    rw [e, if_neg (by omega)]
    have h := k ⟨0, by omega⟩
    rw [if_neg (by simp)] at h
    exact h
  · by_cases h8 : L < 8
    · have h := k ⟨L.toNat, by omega⟩
      have e : ((L.toNat : Nat) : Int) = L := by omega
      simp only [e] at h
      rw [h]
      by_cases hl : (t : Int) < L
      · rw [if_pos hl, if_pos (by omega)]
      · rw [if_neg hl, if_neg (by omega)]
    · have e : mval x L = x := by unfold mval; rw [if_neg h0, if_neg h8]
      rw [e, if_pos (by omega)]
theorem maskB_bit (b : ByteArray) (N : Int) (i : Nat) (h : i < 8 * b.size) : bitV (maskB b N) i = if (i : Int) < N then bitV b i else 0 := by
  have hl : b.data.toList.length = b.size := by rw [Array.length_toList]; rfl
  have hx : b.data.toList[i / 8]? = some b.data.toList[i / 8] := List.getElem?_eq_getElem (by omega)
  have hm : (maskB b N).data.toList[i / 8]? = some (mval b.data.toList[i / 8] (N - 8 * ((i / 8 : Nat) : Int))) := by
    show (maskK b.data.toList N b.size)[i / 8]? = _
    simp only [maskK, List.getElem?_mapIdx, hx, Option.map_some]
    rw [if_pos (by omega)]
  unfold bitV
  rw [List.getD_eq_getElem?_getD, List.getD_eq_getElem?_getD, hm, hx, Option.getD_some, Option.getD_some, mval_bit _ _ _ (by omega)]
  by_cases hlt : (i : Int) < N
  · rw [if_pos hlt, if_pos (by omega)]
  · rw [if_neg hlt, if_neg (by omega)]
theorem maskB_size (b : ByteArray) (N : Int) : (maskB b N).size = b.size := by
  show (maskK b.data.toList N b.size).toArray.size = _
  rw [List.size_toArray, maskK_length, Array.length_toList]
  rfl
/-- a tree of prefixes -/
inductive Tt (V : Type) where
  | nil : Tt V
  | node (at_ : Tp) (has : Bool) (v : V) (l r : Tt V) : Tt V
variable {V : Type}
/-- it holds a prefix with a value -/
def Tt.Mem : Tt V → Tp → V → Prop
  | .nil, _, _ => False
  | .node a has v l r, p, u => (has = true ∧ a = p ∧ v = u) ∨ l.Mem p u ∨ r.Mem p u
/-- whose way goes on behind a with a bit b -/
def Ch (a : Tp) (b : Nat) (c : Tp) : Prop := a.len < c.len ∧ eqb a.len a c ∧ c.bit a.len = b
/-- a tree of one family and distinguisher, each child behind its parent; C: what its root meets -/
def Tt.Good (f rd : Int) : Tt V → (Tp → Prop) → Prop
  | .nil, _ => True
  | .node a _ _ l r, C => a.Ok ∧ a.fam = f ∧ a.rd = rd ∧ C a ∧ l.Good f rd (Ch a 0) ∧ r.Good f rd (Ch a 1)
theorem Ch.down {a c d : Tp} {b b2 : Nat} (h : Ch a b c) (g : Ch c b2 d) : Ch a b d :=
  ⟨Nat.lt_trans h.1 g.1, fun i hi => (h.2.1 i hi).trans (g.2.1 i (Nat.lt_trans hi h.1)), by rw [← g.2.1 a.len h.1]; exact h.2.2⟩
/-- what a tree holds lies behind its root's parent -/
theorem Tt.Good.mem {f rd : Int} : ∀ {t : Tt V} {q : Tp} {b : Nat}, t.Good f rd (Ch q b) → ∀ {p : Tp} {u : V}, t.Mem p u → p.Ok ∧ p.fam = f ∧ p.rd = rd ∧ Ch q b p
  | .nil, _, _, _, _, _, h => h.elim
  | .node a has v l r, q, b, h, p, u, hm => by
    obtain ⟨h1, h2, h3, h4, h5, h6⟩ := h
    rcases hm with ⟨_, rfl, _⟩ | hm | hm
    · exact ⟨h1, h2, h3, h4⟩
    · obtain ⟨g1, g2, g3, g4⟩ := h5.mem hm
      exact ⟨g1, g2, g3, h4.down g4⟩
    · obtain ⟨g1, g2, g3, g4⟩ := h6.mem hm
      exact ⟨g1, g2, g3, h4.down g4⟩
/-- the first k bits of a prefix -/
def cutT (p : Tp) (k : Nat) : Tp := ⟨p.fam, p.rd, maskB p.addr k, k⟩
theorem cut_bit {p : Tp} (hp : p.Ok) {k i : Nat} (hk : k ≤ p.len) (hi : i < k) : (cutT p k).bit i = p.bit i := by
  obtain ⟨h1, h2, h3, h4, _, _⟩ := hp
  show bitV (maskB p.addr k) i = bitV p.addr i
  rw [maskB_bit _ _ _ (by omega), if_pos (by omega)]
theorem cut_ok {p : Tp} (hp : p.Ok) {k : Nat} (hk : k ≤ p.len) : (cutT p k).Ok := by
  obtain ⟨h1, h2, h3, h4, h5, h6⟩ := hp
  refine ⟨h1, ?_, ?_, ?_, h5, ?_⟩
  · show ((maskB p.addr k).size : Int) = _
    rw [maskB_size]
    exact h2
  · show (0 : Int) ≤ (k : Nat)
    omega
  · show ((k : Nat) : Int) ≤ _
    show ((k : Nat) : Int) ≤ 8 * famSize p.fam
    omega
  · show maskB (maskB p.addr k) (k : Nat) = maskB p.addr k
    refine (maskB_bits _ _).2 fun i hi hs => ?_
    rw [maskB_size] at hs
    rw [maskB_bit _ _ _ hs, if_neg (by omega)]
def Tt.set (z : V) : Tt V → Tp → V → Tt V
  | .nil, p, u => .node p true u .nil .nil
  | .node a has v l r, p, u =>
    if cmN a p = a.len then
      if a.len = p.len then .node a true u l r
      else if p.bit a.len = 0 then .node a has v (l.set z p u) r else .node a has v l (r.set z p u)
    else if cmN a p = p.len then
      if a.bit (cmN a p) = 0 then .node (cutT p (cmN a p)) true u (.node a has v l r) .nil else .node (cutT p (cmN a p)) true u .nil (.node a has v l r)
    else if a.bit (cmN a p) = 0 then .node (cutT p (cmN a p)) false z (.node a has v l r) (.node p true u .nil .nil) else .node (cutT p (cmN a p)) false z (.node p true u .nil .nil) (.node a has v l r)
theorem cut_whole {p : Tp} (hp : p.Ok) : cutT p p.len = p := by
  unfold cutT
  obtain ⟨_, _, _, _, _, h6⟩ := hp
  rw [h6]
/-- the fork of two that part -/
theorem fork {f rd : Int} {a p : Tp} (ha : a.Ok) (hp : p.Ok) (haf : a.fam = f) (har : a.rd = rd) (hpf : p.fam = f) (hpr : p.rd = rd) (hk : cmN a p ≠ a.len) :
    (cutT p (cmN a p)).Ok ∧ Ch (cutT p (cmN a p)) (a.bit (cmN a p)) a ∧ (cmN a p ≠ p.len → Ch (cutT p (cmN a p)) (p.bit (cmN a p)) p ∧ p.bit (cmN a p) ≠ a.bit (cmN a p)) := by
  obtain ⟨h1, h2, h3, h4⟩ := cmN_spec a p
  refine ⟨cut_ok hp h2, ⟨?_, fun i hi => ?_, rfl⟩, fun hkp => ⟨⟨?_, fun i hi => cut_bit hp h2 hi, rfl⟩, ?_⟩⟩
  · show cmN a p < a.len
    omega
  · rw [cut_bit hp h2 hi]
    exact (h3 i hi).symm
  · show cmN a p < p.len
    omega
  · rcases h4 with h4 | h4 | h4
    · exact absurd h4 hk
    · exact absurd h4 hkp
    · exact fun e => h4 e.symm
/-- a parent's way holds for the fork, too -/
theorem fork_up {q a p : Tp} {b : Nat} (hp : p.Ok) (ha : Ch q b a) (hq : Ch q b p) : Ch q b (cutT p (cmN a p)) := by
  obtain ⟨h1, h2, h3, h4⟩ := cmN_spec a p
  have hlt : q.len < cmN a p := by
    rcases Nat.lt_or_ge q.len (cmN a p) with h | h
    · exact h
    · rcases h4 with h4 | h4 | h4
      · have := ha.1; omega
      · have := hq.1; omega
      · refine absurd ?_ h4
        by_cases he : cmN a p = q.len
        · rw [he, ha.2.2, hq.2.2]
        · exact ((ha.2.1 _ (by omega)).symm).trans (hq.2.1 _ (by omega))
  refine ⟨hlt, fun i hi => ?_, ?_⟩
  · rw [cut_bit hp h2 (by omega)]
    exact hq.2.1 i hi
  · rw [cut_bit hp h2 hlt]
    exact hq.2.2
theorem bit_one {p : Tp} {i : Nat} (h : ¬ p.bit i = 0) : p.bit i = 1 := by
  rcases p.bit_two i with h2 | h2
  · exact absurd h2 h
  · exact h2
/-- set keeps the order -/
theorem set_good {f rd : Int} {z u : V} {p : Tp} (hp : p.Ok) (hpf : p.fam = f) (hpr : p.rd = rd) : ∀ {t : Tt V} {C : Tp → Prop}, t.Good f rd C → C p → (∀ a, C a → C p → C (cutT p (cmN a p))) → (t.set z p u).Good f rd C
  | .nil, C, _, hc, _ => ⟨hp, hpf, hpr, hc, trivial, trivial⟩
  | .node a has v l r, C, h, hc, hcut => by
    obtain ⟨h1, h2, h3, h4, h5, h6⟩ := h
    unfold Tt.set
    by_cases hk : cmN a p = a.len
    · rw [if_pos hk]
      by_cases hl : a.len = p.len
      · rw [if_pos hl]
        exact ⟨h1, h2, h3, h4, h5, h6⟩
      · rw [if_neg hl]
        have hcv := cmN_cov.1 hk
        by_cases hb : p.bit a.len = 0
        · rw [if_pos hb]
          exact ⟨h1, h2, h3, h4, set_good hp hpf hpr h5 ⟨by have := hcv.1; omega, hcv.2, hb⟩ (fun c hc1 hc2 => fork_up hp hc1 hc2), h6⟩
        · rw [if_neg hb]
          exact ⟨h1, h2, h3, h4, h5, set_good hp hpf hpr h6 ⟨by have := hcv.1; omega, hcv.2, bit_one hb⟩ (fun c hc1 hc2 => fork_up hp hc1 hc2)⟩
    · rw [if_neg hk]
      obtain ⟨g1, g2, g3⟩ := fork h1 hp h2 h3 hpf hpr hk
      have hC := hcut a h4 hc
      have hfam : (cutT p (cmN a p)).fam = f := hpf
      have hrd : (cutT p (cmN a p)).rd = rd := hpr
      by_cases hkp : cmN a p = p.len
      · rw [if_pos hkp]
        by_cases hb : a.bit (cmN a p) = 0
        · rw [if_pos hb]
          rw [hb] at g2
          exact ⟨g1, hfam, hrd, hC, ⟨h1, h2, h3, g2, h5, h6⟩, trivial⟩
        · rw [if_neg hb]
          rw [bit_one hb] at g2
          exact ⟨g1, hfam, hrd, hC, trivial, ⟨h1, h2, h3, g2, h5, h6⟩⟩
      · rw [if_neg hkp]
        obtain ⟨g4, g5⟩ := g3 hkp
        by_cases hb : a.bit (cmN a p) = 0
        · rw [if_pos hb]
          rw [hb] at g2 g5
          rw [bit_one g5] at g4
          exact ⟨g1, hfam, hrd, hC, ⟨h1, h2, h3, g2, h5, h6⟩, ⟨hp, hpf, hpr, g4, trivial, trivial⟩⟩
        · rw [if_neg hb]
          rw [bit_one hb] at g2 g5
          have hp0 : p.bit (cmN a p) = 0 := by
            rcases p.bit_two (cmN a p) with h | h
            · exact h
            · exact absurd h g5
          rw [hp0] at g4
          exact ⟨g1, hfam, hrd, hC, ⟨hp, hpf, hpr, g4, trivial, trivial⟩, ⟨h1, h2, h3, g2, h5, h6⟩⟩
theorem Ch.ne {a p q : Tp} {b : Nat} (h : Ch a b q) (hl : p.len ≤ a.len) : q ≠ p := fun e => by
  have h1 := h.1
  rw [e] at h1
  omega
theorem Ch.ne_bit {a p q : Tp} {b : Nat} (h : Ch a b q) (hb : p.bit a.len ≠ b) : q ≠ p := fun e => hb (by rw [← e]; exact h.2.2)
/-- what set lays is there, all else stays -/
theorem set_mem {f rd : Int} {z u : V} {p : Tp} (hp : p.Ok) (hpf : p.fam = f) (hpr : p.rd = rd) : ∀ {t : Tt V} {C : Tp → Prop}, t.Good f rd C → ∀ (q : Tp) (x : V), (t.set z p u).Mem q x ↔ (q = p ∧ x = u) ∨ (q ≠ p ∧ t.Mem q x)
  | .nil, C, _, q, x => by
    show (true = true ∧ p = q ∧ u = x) ∨ False ∨ False ↔ (q = p ∧ x = u) ∨ (q ≠ p ∧ False)
    constructor
    · rintro (⟨_, h1, h2⟩ | h | h)
      · exact Or.inl ⟨h1.symm, h2.symm⟩
      · exact h.elim
      · exact h.elim
    · rintro (⟨h1, h2⟩ | ⟨_, h⟩)
      · exact Or.inl ⟨rfl, h1.symm, h2.symm⟩
      · exact h.elim
  | .node a has v l r, C, h, q, x => by
    obtain ⟨h1, h2, h3, h4, h5, h6⟩ := h
    have old : (Tt.node a has v l r).Mem q x → a.len ≤ q.len ∧ (∀ k, k < a.len → q.bit k = a.bit k) := fun hm => by
      rcases hm with ⟨_, hq, _⟩ | hm | hm
      · rw [← hq]; exact ⟨Nat.le_refl _, fun _ _ => rfl⟩
      · have hc := (h5.mem hm).2.2.2
        exact ⟨Nat.le_of_lt hc.1, fun k hk => (hc.2.1 k hk).symm⟩
      · have hc := (h6.mem hm).2.2.2
        exact ⟨Nat.le_of_lt hc.1, fun k hk => (hc.2.1 k hk).symm⟩
    unfold Tt.set
    by_cases hk : cmN a p = a.len
    · rw [if_pos hk]
      have hcv := cmN_cov.1 hk
      by_cases hl : a.len = p.len
      · rw [if_pos hl]
        have hap : a = p := Tp.ext_bits h1 hp (h2.trans hpf.symm) (h3.trans hpr.symm) hl hcv.2
        constructor
        · rintro (⟨_, g1, g2⟩ | hm | hm)
          · exact Or.inl ⟨g1.symm.trans hap, g2.symm⟩
          · exact Or.inr ⟨(h5.mem hm).2.2.2.ne (by omega), Or.inr (Or.inl hm)⟩
          · exact Or.inr ⟨(h6.mem hm).2.2.2.ne (by omega), Or.inr (Or.inr hm)⟩
        · rintro (⟨g1, g2⟩ | ⟨g1, g2 | hm | hm⟩)
          · exact Or.inl ⟨rfl, hap.trans g1.symm, g2.symm⟩
          · exact absurd (g2.2.1.symm.trans hap) g1
          · exact Or.inr (Or.inl hm)
          · exact Or.inr (Or.inr hm)
      · rw [if_neg hl]
        have hne : a ≠ p := fun e => hl (by rw [e])
        by_cases hb : p.bit a.len = 0
        · rw [if_pos hb]
          have ih := set_mem (z := z) (u := u) hp hpf hpr h5 q x
          constructor
          · rintro (⟨g0, g1, g2⟩ | hm | hm)
            · exact Or.inr ⟨fun e => hne (g1.trans e), Or.inl ⟨g0, g1, g2⟩⟩
            · rcases ih.1 hm with g | ⟨g1, g2⟩
              · exact Or.inl g
              · exact Or.inr ⟨g1, Or.inr (Or.inl g2)⟩
            · exact Or.inr ⟨(h6.mem hm).2.2.2.ne_bit (by omega), Or.inr (Or.inr hm)⟩
          · rintro (g | ⟨g1, g2 | hm | hm⟩)
            · exact Or.inr (Or.inl (ih.2 (Or.inl g)))
            · exact Or.inl g2
            · exact Or.inr (Or.inl (ih.2 (Or.inr ⟨g1, hm⟩)))
            · exact Or.inr (Or.inr hm)
        · rw [if_neg hb]
          have ih := set_mem (z := z) (u := u) hp hpf hpr h6 q x
          constructor
          · rintro (⟨g0, g1, g2⟩ | hm | hm)
            · exact Or.inr ⟨fun e => hne (g1.trans e), Or.inl ⟨g0, g1, g2⟩⟩
            · exact Or.inr ⟨(h5.mem hm).2.2.2.ne_bit hb, Or.inr (Or.inl hm)⟩
            · rcases ih.1 hm with g | ⟨g1, g2⟩
              · exact Or.inl g
              · exact Or.inr ⟨g1, Or.inr (Or.inr g2)⟩
          · rintro (g | ⟨g1, g2 | hm | hm⟩)
            · exact Or.inr (Or.inr (ih.2 (Or.inl g)))
            · exact Or.inl g2
            · exact Or.inr (Or.inl hm)
            · exact Or.inr (Or.inr (ih.2 (Or.inr ⟨g1, hm⟩)))
    · rw [if_neg hk]
      obtain ⟨c1, c2, c3, c4⟩ := cmN_spec a p
      have hka : cmN a p < a.len := by omega
      by_cases hkp : cmN a p = p.len
      · rw [if_pos hkp, hkp, cut_whole hp]
        have hne : (Tt.node a has v l r).Mem q x → q ≠ p := fun hm e => by
          have h := (old hm).1
          rw [e] at h
          omega
        by_cases hb : a.bit p.len = 0
        · rw [if_pos hb]
          constructor
          · rintro (⟨_, g1, g2⟩ | hm | hm)
            · exact Or.inl ⟨g1.symm, g2.symm⟩
            · exact Or.inr ⟨hne hm, hm⟩
            · exact hm.elim
          · rintro (⟨g1, g2⟩ | ⟨_, hm⟩)
            · exact Or.inl ⟨rfl, g1.symm, g2.symm⟩
            · exact Or.inr (Or.inl hm)
        · rw [if_neg hb]
          constructor
          · rintro (⟨_, g1, g2⟩ | hm | hm)
            · exact Or.inl ⟨g1.symm, g2.symm⟩
            · exact hm.elim
            · exact Or.inr ⟨hne hm, hm⟩
          · rintro (⟨g1, g2⟩ | ⟨_, hm⟩)
            · exact Or.inl ⟨rfl, g1.symm, g2.symm⟩
            · exact Or.inr (Or.inr hm)
      · rw [if_neg hkp]
        have hdf : a.bit (cmN a p) ≠ p.bit (cmN a p) := by
          rcases c4 with c4 | c4 | c4
          · exact absurd c4 hk
          · exact absurd c4 hkp
          · exact c4
        have hne : (Tt.node a has v l r).Mem q x → q ≠ p := fun hm e => hdf (by rw [← (old hm).2 _ hka, e])
        have leaf : (Tt.node p true u .nil .nil).Mem q x ↔ q = p ∧ x = u := by
          constructor
          · rintro (⟨_, g1, g2⟩ | hm | hm)
            · exact ⟨g1.symm, g2.symm⟩
            · exact hm.elim
            · exact hm.elim
          · rintro ⟨g1, g2⟩
            exact Or.inl ⟨rfl, g1.symm, g2.symm⟩
        by_cases hb : a.bit (cmN a p) = 0
        · rw [if_pos hb]
          constructor
          · rintro (⟨g0, _⟩ | hm | hm)
            · cases g0
            · exact Or.inr ⟨hne hm, hm⟩
            · exact Or.inl (leaf.1 hm)
          · rintro (g | ⟨_, hm⟩)
            · exact Or.inr (Or.inr (leaf.2 g))
            · exact Or.inr (Or.inl hm)
        · rw [if_neg hb]
          constructor
          · rintro (⟨g0, _⟩ | hm | hm)
            · cases g0
            · exact Or.inl (leaf.1 hm)
            · exact Or.inr ⟨hne hm, hm⟩
          · rintro (g | ⟨_, hm⟩)
            · exact Or.inr (Or.inl (leaf.2 g))
            · exact Or.inr (Or.inr hm)
end Go.Proofs.Ythnjepehiddogaa
