/-
  Contract of (*Trie).way with the closure of Match: the longest that covers. Conditions: sizes.
-/
import Derived.Test.YthnjepehiddogaaTrN
set_option linter.unusedVariables false
set_option linter.unusedSimpArgs false
namespace Go.Proofs.Ythnjepehiddogaa
open Go.RowKit Go.MapKept

/-- a node that was found -/
def FoundAt (w : World) (F : Option Addr) : Option (Tp × Int) → Prop
  | none => F = none
  | some (a, v) => ∃ b l r, F = some ⟨b, 0, none⟩ ∧ CellsAt w b (nodeC a true v l r) 76
theorem FoundAt.grownX {X : Nat → Prop} {w w' : World} {F : Option Addr} {L : Option (Tp × Int)} (h : FoundAt w F L) (hg : GrownX X w w') (hx : ∀ b, F = some ⟨b, 0, none⟩ → ¬ X b) : FoundAt w' F L := by
  cases L with
  | none => exact h
  | some y =>
    obtain ⟨b, l, r, h1, h2⟩ := h
    exact ⟨b, l, r, h1, h2.grownX hg (hx b h1)⟩
theorem FoundAt.below_ {w w' : World} {F : Option Addr} {L : Option (Tp × Int)} (h : FoundAt w F L) (hb : Below w.heap.size w w') : FoundAt w' F L := h.grownX (X := fun _ => False) ⟨hb.os, hb.tape, hb.output, hb.size, fun i hi _ => hb.block i hi⟩ (fun _ _ h => h)
/-- the longest so far, or what stood there -/
def lk (p : Tp) (T : Tt Int) (FV : Option (Tp × Int)) : Option (Tp × Int) := match T.look p with
  | some y => some y
  | none => FV
def hv (has : Bool) (a : Tp) (v : Int) (FV : Option (Tp × Int)) : Option (Tp × Int) := if has then some (a, v) else FV
theorem lk_nil (p : Tp) (FV : Option (Tp × Int)) : lk p .nil FV = FV := rfl
theorem lk_off {p a : Tp} {has : Bool} {v : Int} {l r : Tt Int} {FV : Option (Tp × Int)} (h : cmN a p ≠ a.len) : lk p (.node a has v l r) FV = FV := by
  unfold lk Tt.look
  rw [if_neg h]
theorem lk_here {p a : Tp} {has : Bool} {v : Int} {l r : Tt Int} {FV : Option (Tp × Int)} (h : cmN a p = a.len) (hl : a.len = p.len) : lk p (.node a has v l r) FV = hv has a v FV := by
  unfold lk Tt.look hv
  rw [if_pos h, if_pos hl]
  cases has <;> rfl
theorem lk_down {p a : Tp} {has : Bool} {v : Int} {l r : Tt Int} {FV : Option (Tp × Int)} (h : cmN a p = a.len) (hl : a.len ≠ p.len) : lk p (.node a has v l r) FV = lk p (if p.bit a.len = 0 then l else r) (hv has a v FV) := by
  unfold lk
  conv => lhs; unfold Tt.look
  rw [if_pos h, if_neg hl]
  have e : (if p.bit a.len = 0 then l.look p else r.look p) = (if p.bit a.len = 0 then l else r).look p := by split <;> rfl
  rw [e]
  generalize (if p.bit a.len = 0 then l else r).look p = y
  unfold hv
  cases y with
  | some y => rfl
  | none => cases has <;> rfl
/-- how far a node is -/
def wayM (L : Nat) : Value → World → Nat
  | .pointer (some a), w => match w.cell? ⟨a.block, 3, none⟩ with
    | some v => L + 2 - (intOf v).toNat
    | none => 0
  | _, _ => 0
theorem wayM_nil (L : Nat) (w : World) : wayM L (.pointer none) w = 0 := rfl
theorem wayM_at {L b n : Nat} {w : World} (h : w.cell? ⟨b, 3, none⟩ = some (.int .i64 (n : Nat))) : wayM L (.pointer (some ⟨b, 0, none⟩)) w = L + 2 - n := by
  unfold wayM
  simp only [h]
  simp [intOf]
theorem TreeAt.wayM_lt {w : World} {S : List Nat} {q : Value} {T : Tt Int} {f rd : Int} {a : Tp} {k L : Nat} (h : TreeAt w S q T) (hg : T.Good f rd (Ch a k)) (hl : a.len ≤ L) : wayM L q w < L + 2 - a.len := by
  cases T with
  | nil =>
    obtain ⟨_, rfl⟩ := h
    rw [wayM_nil]
    omega
  | node c has v l r =>
    obtain ⟨b, Sl, Sr, ql, qr, rfl, hn⟩ := h.parts
    rw [wayM_at hn.k.2.2.2.1]
    have := hg.2.2.2.1.1
    omega
/-- which one of a trie is the longest that covers -/
def LongestR (R : List Rt) (p : Tp) : Option (Tp × Int) → Prop
  | some (q, x) => RMem R q x ∧ q.fam = p.fam ∧ q.rd = p.rd ∧ cov q p ∧ ∀ q' x', RMem R q' x' → q'.fam = p.fam → q'.rd = p.rd → cov q' p → q'.len ≤ q.len
  | none => ∀ q' x', RMem R q' x' → q'.fam = p.fam → q'.rd = p.rd → ¬ cov q' p
theorem longest_root {R : List Rt} {p : Tp} {i : Nat} {r : Rt} (ho : R.Pairwise fun a b => rlt a.fam a.rd b.fam b.rd) (hg : ∀ s ∈ R, s.t.Good s.fam s.rd (fun _ => True)) (hi : R[i]? = some r) (hf : r.fam = p.fam) (hd : r.rd = p.rd) : LongestR R p (r.t.look p) := by
  have hm := List.mem_of_getElem? hi
  have hs := look_spec (hg r hm) p
  have only : ∀ q' x', RMem R q' x' → q'.fam = p.fam → q'.rd = p.rd → r.t.Mem q' x' := by
    rintro q' x' ⟨s, hs, hx⟩ h1 h2
    obtain ⟨j, hj⟩ := List.getElem?_of_mem hs
    by_cases hji : j = i
    · subst hji
      rw [hi] at hj
      cases hj
      exact hx
    · obtain ⟨_, k1, k2⟩ := (hg s hs).memf hx
      exact absurd ⟨k1.symm.trans (h1.trans hf.symm), k2.symm.trans (h2.trans hd.symm)⟩ (other_root ho hi hj hji)
  cases hl : r.t.look p with
  | none =>
    rw [hl] at hs
    exact fun q' x' h h1 h2 => hs q' x' (only q' x' h h1 h2)
  | some y =>
    obtain ⟨q, x⟩ := y
    rw [hl] at hs
    obtain ⟨h1, h2, h3⟩ := hs
    obtain ⟨_, k1, k2⟩ := (hg r hm).memf h1
    exact ⟨⟨r, hm, h1⟩, k1.trans hf, k2.trans hd, h2, fun q' x' g g1 g2 => h3 q' x' (only q' x' g g1 g2)⟩
theorem longest_none {R : List Rt} {p : Tp} {i : Nat} (hg : ∀ s ∈ R, s.t.Good s.fam s.rd (fun _ => True)) (h : RootIs R p i false) : LongestR R p none := by
  rintro q' x' ⟨s, hs, hx⟩ h1 h2 _
  obtain ⟨_, k1, k2⟩ := (hg s hs).memf hx
  obtain ⟨j, hj⟩ := List.getElem?_of_mem hs
  obtain ⟨_, g1, g2⟩ := h
  unfold rlt at g1 g2
  rcases Nat.lt_or_ge j i with hji | hji
  · have := g1 j s hj hji
    omega
  · have := g2 j s hj hji
    omega
def WayPost (w : World) (c : Nat) (R : List Rt) (p : Tp) (e : Ending) (w' : World) : Prop :=
  e = .returned (.tuple #[]) ∧ GrownX (fun x => x = c) w w' ∧ ∃ F L, CellsAt w' c #[.pointer F] 68 ∧ FoundAt w' F L ∧ LongestR R p L

theorem tell_any (c b : Nat) (has : Bool) (F : Value) (w : World) (hc : CellsAt w c #[F] 68) (hh : w.cell? ⟨b, 4, none⟩ = some (.bool has)) (Q : Ending → World → Prop) (h1 : has = true → Q (.returned (.tuple #[])) (w.setCell ⟨c, 0, none⟩ (.pointer (some ⟨b, 0, none⟩)))) (h2 : has = false → Q (.returned (.tuple #[])) w) :
    Calls Try.prog 34 #[.pointer (some ⟨b, 0, none⟩), .pointer (some ⟨c, 0, none⟩)] w Q := by
  have c0 := hc.c1
  have f0 := hc.frozen 0
  cases has with
  | true =>
    have H := Lib.hid (h1 rfl)
    clear h1 h2
    go_enter Try.func34, Try.ntmps34
    go_wp2_with fail
    go_end0
    exact H.out
  | false =>
    have H := Lib.hid (h2 rfl)
    clear h1 h2
    go_enter Try.func34, Try.ntmps34
    go_wp2_with fail
    go_end0
    exact H.out
set_option maxRecDepth 100000 in
set_option maxHeartbeats 8000000 in
theorem way_any (p : Tp) (hp : p.Ok) (bt base : Nat) (v : Value) (n : Int) (R : List Rt) (w : World) (h : TrieAt w bt base v n R) (c : Nat) (hc : CellsAt w c #[.pointer none] 68) (hcx : ¬ trX bt v R c) :
    Calls Try.prog 33 #[.pointer (some ⟨bt, 0, none⟩), p.v, .func (.func 34) #[] #[.pointer (some ⟨c, 0, none⟩)]] w (WayPost w c R p) := by
  have hps := hp.small
  have hpl := hp.le
  have HPO := Lib.hid hp
  have HT := Lib.hid h
  have HC := Lib.hid hc
  have HCX := Lib.hid hcx
  obtain ⟨t0, t1, t2, _⟩ := h.c3
  have hbt := h.c.lt
  have hcl := hc.lt
  have HRO := Lib.hid (fun (w1 : World) (hb : Below w.heap.size w w1) => root_any p bt base v n R w1 (h.below hb))
  have HCK := Lib.hid (fun w => check_any p.fam p.rd p.addr (p.len : Nat) w (by omega))
  rw [show prefC p.fam p.rd p.addr (p.len : Nat) = 0 from if_pos hp] at HCK
  have HCM := Lib.hid (fun a w ha hf => common_any a p ha hp hf w)
  have HBI := Lib.hid (fun (k : Nat) w hk => pbit_any p.addr k w hk (by omega))
  clear h hp hc hcx
  unfold Tp.v at HRO HCM ⊢
  go_enter Try.func33, Try.ntmps33
  go_wp2_with fail
  refine (tnone_any bt _ ((HT.out.below ((Below.refl _ _).alloc (Nat.le_refl _) _)).c3.1)).mono ?_
  rintro e w1 ⟨rfl, hw1⟩
  subst hw1
  go_wp2_with fail
  refine (HCK.out _).mono ?_
  rintro e w1 ⟨rfl, hb1⟩
  have HP1 : Hid (CellsAt w1 w.heap.size #[.int .i64 p.fam, .int .u64 p.rd, .string p.addr, .int .i64 (p.len : Nat)] 30) := (CellsAt.new w _ _).below hb1 (by simp)
  have HB1 : Hid (Below w.heap.size w w1) := by
    show Below _ _ _
    exact ((Below.refl _ _).alloc (Nat.le_refl _) _).trans (hb1.mono (by simp))
  clear hb1
  obtain ⟨p0, p1, p2, p3, _⟩ := c4_at HP1.out
  go_wp2_with fail
  refine (HRO.out _ HB1.out).mono ?_
  rintro e w2 ⟨i, b, rfl, hri, hb2⟩
  have HP2 : Hid (CellsAt w2 w.heap.size #[.int .i64 p.fam, .int .u64 p.rd, .string p.addr, .int .i64 (p.len : Nat)] 30) := HP1.out.below hb2 HP1.out.lt
  have HB2 : Hid (Below w.heap.size w w2) := HB1.out.trans (hb2.mono HB1.out.size)
  have HT2 : Hid (TrieAt w2 bt base v n R) := HT.out.below HB2.out
  have HC2 : Hid (CellsAt w2 c #[.pointer none] 68) := HC.out.below HB2.out hcl
  clear hb2 HP1 HB1 p0 p1 p2 p3 t0 t1 t2 HRO HCK
  cases b with
  | false =>
    have HL : Hid (LongestR R p none) := longest_none HT.out.g hri
    clear hri
    go_wp2_with fail
    go_end0
    exact ⟨rfl, GrownX.of_below HB2.out, none, none, HC2.out, rfl, HL.out⟩
  | true =>
    obtain ⟨r, hr, hrf, hrd⟩ := hri
    have HL : Hid (LongestR R p (r.t.look p)) := longest_root HT.out.ord HT.out.g hr hrf hrd
    obtain ⟨g, cap, hv, hgl, hnc, hcm, hil, hgt, hgs, r0, r1, r2, zr⟩ := HT2.out.at_ hr
    subst hv
    have h2 := HT2.out.two
    obtain ⟨t0, t1, t2, _⟩ := HT2.out.c3
    have hrm := List.mem_of_getElem? hr
    have HG : Hid (r.t.Good p.fam p.rd (fun _ => True)) := by
      have := HT.out.g r hrm
      rw [hrf, hrd] at this
      exact this
    have HTr := Lib.hid (HT2.out.t r hrm)
    have HCS : Hid (c ∉ r.S) := fun hx => HCX.out (Or.inr (Or.inr ⟨r, hrm, hx⟩))
    have HB2s := HP2.out.lt
    unfold maxLen at hcm
    clear hr hrm hrf hrd
    go_wp2_with fail
    clear r0 r1 r2 zr t0 t1 t2 hgl hnc hcm hil hgt hgs h2
    have HK0 : Hid (lk p r.t none = r.t.look p) := by
      show lk p r.t none = r.t.look p
      unfold lk
      cases r.t.look p <;> rfl
    go_loopw [8] (fun x wr => ∃ (A : Option Addr) (S : List Nat) (T : Tt Int) (FV : Option (Tp × Int)) (F : Option Addr), x = .pointer A ∧ Hid (TreeAt w2 S (.pointer A) T) ∧ Hid (∀ s, s ∈ S → s ∈ r.S) ∧ Hid (∃ C, T.Good p.fam p.rd C) ∧ Hid (GrownX (fun x => x = c) w2 wr) ∧ Hid (CellsAt wr c #[.pointer F] 68) ∧ Hid (FoundAt w2 F FV ∧ ∀ b, F = some ⟨b, 0, none⟩ → b ∈ r.S) ∧ Hid (lk p T FV = r.t.look p)) (fun x wr => wayM p.len x wr)
    case atStart => exact ⟨r.A, r.S, r.t, none, none, rfl, HTr, fun _ h => h, ⟨_, HG.out⟩, GrownX.refl _ _, HC2, ⟨rfl, fun b hb => by cases hb⟩, HK0⟩
    case round =>
      obtain ⟨A, S, T, FV, F, rfl, HTA, HSS, HGD, HGX, HCr, HFo, HLK⟩ := hrel
      have hn0 : w.heap.size ≠ c := by omega
      have HPr : Hid (CellsAt wr w.heap.size #[.int .i64 p.fam, .int .u64 p.rd, .string p.addr, .int .i64 (p.len : Nat)] 30) := HP2.out.grownX HGX.out hn0
      cases T with
      | nil =>
        obtain rfl : A = none := by
          have := HTA.out.2
          injection this
        have HLE : Hid (lk p .nil FV = FV) := rfl
        go_wp2_with fail
        refine wp_region_held_drew (S := fun w' => Below wr.heap.size wr w') (by kernel_rfl) (below_drewN (Below.refl _ _) 1) (fun hHeld => ?_)
        refine wpAnyH_take (i := 0) (oi := { dst := some 32, op := Op.move (Operand.tmp 8), type := 68, pos := "trie.go:127", after := #[], guard := none }) (v := ?_) rfl (by kernel_rfl) (by kernel_rfl) (by kernel_rfl) (fun _ _ _ h => h) (Or.inl ⟨by rfl, ?_⟩) hHeld ?_
        rotate_left
        · intro w hSw
          clear hSw
          go_simp
          try with_reducible rfl
        try simp only [Act.put, List.setIfInBounds_toArray, List.set_cons_zero, List.set_cons_succ]
        refine wpAnyH_take (i := 1) (oi := { dst := some 33, op := Op.binOp BinOp.neq 68 (Operand.tmp 32) (Operand.const (Value.pointer none)) 68, type := 4, pos := "trie.go:127", after := #[{ on := 0, ground := Ground.data }], guard := none }) (v := ?_) rfl (by kernel_rfl) (by kernel_rfl) (by kernel_rfl) (fun _ _ _ h => h) (Or.inl ⟨by rfl, ?_⟩) hHeld ?_
        rotate_left
        · intro w hSw
          clear hSw
          go_simp
          try with_reducible rfl
        try simp only [Act.put, List.setIfInBounds_toArray, List.set_cons_zero, List.set_cons_succ]
        refine wpAnyH_take (i := 2) (oi := { dst := some 34, op := Op.move (Operand.tmp 33), type := 4, pos := "trie.go:127", after := #[{ on := 1, ground := Ground.data }], guard := none }) (v := ?_) rfl (by kernel_rfl) (by kernel_rfl) (by kernel_rfl) (fun _ _ _ h => h) (Or.inl ⟨by rfl, ?_⟩) hHeld ?_
        rotate_left
        · intro w hSw
          clear hSw
          go_simp
          try with_reducible rfl
        try simp only [Act.put, List.setIfInBounds_toArray, List.set_cons_zero, List.set_cons_succ]
        refine wpAnyH_take (i := 3) (oi := { dst := some 35, op := Op.move (Operand.tmp 8), type := 68, pos := "trie.go:127", after := #[{ on := 2, ground := Ground.guard }], guard := some (2, true) }) (v := undef) rfl (by kernel_rfl) (by kernel_rfl) (by kernel_rfl) (fun _ _ _ h => h) (Or.inr ⟨by rfl, rfl⟩) hHeld ?_
        try simp only [Act.put, List.setIfInBounds_toArray, List.set_cons_zero, List.set_cons_succ]
        refine wpAnyH_take (i := 4) (oi := { dst := some 36, op := Op.nilCheck (Operand.tmp 35), type := 0, pos := "trie.go:127", after := #[{ on := 3, ground := Ground.data }, { on := 2, ground := Ground.guard }], guard := some (2, true) }) (v := undef) rfl (by kernel_rfl) (by kernel_rfl) (by kernel_rfl) (fun _ _ _ h => h) (Or.inr ⟨by rfl, rfl⟩) hHeld ?_
        try simp only [Act.put, List.setIfInBounds_toArray, List.set_cons_zero, List.set_cons_succ]
        refine wpAnyH_take (i := 5) (oi := { dst := some 37, op := Op.fieldAddr 76 (Operand.tmp 36) 0, type := 0, pos := "trie.go:127", after := #[{ on := 4, ground := Ground.data }, { on := 2, ground := Ground.guard }], guard := some (2, true) }) (v := undef) rfl (by kernel_rfl) (by kernel_rfl) (by kernel_rfl) (fun _ _ _ h => h) (Or.inr ⟨by rfl, rfl⟩) hHeld ?_
        try simp only [Act.put, List.setIfInBounds_toArray, List.set_cons_zero, List.set_cons_succ]
        refine wpAnyH_take (i := 6) (oi := { dst := some 38, op := Op.fieldAddr 30 (Operand.tmp 37) 3, type := 0, pos := "trie.go:127", after := #[{ on := 5, ground := Ground.data }, { on := 2, ground := Ground.guard }], guard := some (2, true) }) (v := undef) rfl (by kernel_rfl) (by kernel_rfl) (by kernel_rfl) (fun _ _ _ h => h) (Or.inr ⟨by rfl, rfl⟩) hHeld ?_
        try simp only [Act.put, List.setIfInBounds_toArray, List.set_cons_zero, List.set_cons_succ]
        refine wpAnyH_take (i := 7) (oi := { dst := some 39, op := Op.load 3 (Operand.tmp 38), type := 3, pos := "trie.go:127", after := #[{ on := 6, ground := Ground.data }, { on := 2, ground := Ground.guard }], guard := some (2, true) }) (v := undef) rfl (by kernel_rfl) (by kernel_rfl) (by kernel_rfl) (fun _ _ _ h => h) (Or.inr ⟨by rfl, rfl⟩) hHeld ?_
        try simp only [Act.put, List.setIfInBounds_toArray, List.set_cons_zero, List.set_cons_succ]
        refine wpAnyH_take (i := 8) (oi := { dst := some 40, op := Op.fieldAddr 30 (Operand.tmp 4) 3, type := 0, pos := "trie.go:127", after := #[{ on := 2, ground := Ground.guard }], guard := some (2, true) }) (v := undef) rfl (by kernel_rfl) (by kernel_rfl) (by kernel_rfl) (fun _ _ _ h => h) (Or.inr ⟨by rfl, rfl⟩) hHeld ?_
        try simp only [Act.put, List.setIfInBounds_toArray, List.set_cons_zero, List.set_cons_succ]
        refine wpAnyH_take (i := 9) (oi := { dst := some 41, op := Op.load 3 (Operand.tmp 40), type := 3, pos := "trie.go:127", after := #[{ on := 8, ground := Ground.data }, { on := 2, ground := Ground.guard }], guard := some (2, true) }) (v := undef) rfl (by kernel_rfl) (by kernel_rfl) (by kernel_rfl) (fun _ _ _ h => h) (Or.inr ⟨by rfl, rfl⟩) hHeld ?_
        try simp only [Act.put, List.setIfInBounds_toArray, List.set_cons_zero, List.set_cons_succ]
        refine wpAnyH_take (i := 10) (oi := { dst := some 42, op := Op.binOp BinOp.leq 3 (Operand.tmp 39) (Operand.tmp 41) 3, type := 4, pos := "trie.go:127", after := #[{ on := 7, ground := Ground.data }, { on := 9, ground := Ground.data }, { on := 2, ground := Ground.guard }], guard := some (2, true) }) (v := undef) rfl (by kernel_rfl) (by kernel_rfl) (by kernel_rfl) (fun _ _ _ h => h) (Or.inr ⟨by rfl, rfl⟩) hHeld ?_
        try simp only [Act.put, List.setIfInBounds_toArray, List.set_cons_zero, List.set_cons_succ]
        refine wpAnyH_take (i := 11) (oi := { dst := some 43, op := Op.pick (Operand.tmp 34) (Operand.tmp 42) (Operand.const (Value.bool false)), type := 4, pos := "trie.go:127", after := #[{ on := 2, ground := Ground.data }, { on := 10, ground := Ground.data }], guard := none }) (v := ?_) rfl (by kernel_rfl) (by kernel_rfl) (by kernel_rfl) (fun _ _ _ h => h) (Or.inl ⟨by rfl, ?_⟩) hHeld ?_
        rotate_left
        · intro w hSw
          clear hSw
          go_simp
          try with_reducible rfl
        try simp only [Act.put, List.setIfInBounds_toArray, List.set_cons_zero, List.set_cons_succ]
        refine wpAnyH_take (i := 12) (oi := { dst := some 44, op := Op.move (Operand.tmp 43), type := 4, pos := "trie.go:127", after := #[{ on := 11, ground := Ground.data }, { on := 2, ground := Ground.chain }], guard := none }) (v := ?_) rfl (by kernel_rfl) (by kernel_rfl) (by kernel_rfl) (fun _ _ _ h => h) (Or.inl ⟨by rfl, ?_⟩) hHeld ?_
        rotate_left
        · intro w hSw
          clear hSw
          go_simp
          try with_reducible rfl
        try simp only [Act.put, List.setIfInBounds_toArray, List.set_cons_zero, List.set_cons_succ]
        refine wpAnyH_take (i := 13) (oi := { dst := some 45, op := Op.move (Operand.tmp 8), type := 68, pos := "trie.go:127", after := #[{ on := 12, ground := Ground.guard }], guard := some (12, true) }) (v := undef) rfl (by kernel_rfl) (by kernel_rfl) (by kernel_rfl) (fun _ _ _ h => h) (Or.inr ⟨by rfl, rfl⟩) hHeld ?_
        try simp only [Act.put, List.setIfInBounds_toArray, List.set_cons_zero, List.set_cons_succ]
        refine wpAnyH_take (i := 14) (oi := { dst := some 46, op := Op.nilCheck (Operand.tmp 45), type := 0, pos := "trie.go:127", after := #[{ on := 13, ground := Ground.data }, { on := 12, ground := Ground.guard }], guard := some (12, true) }) (v := undef) rfl (by kernel_rfl) (by kernel_rfl) (by kernel_rfl) (fun _ _ _ h => h) (Or.inr ⟨by rfl, rfl⟩) hHeld ?_
        try simp only [Act.put, List.setIfInBounds_toArray, List.set_cons_zero, List.set_cons_succ]
        refine wpAnyH_take (i := 15) (oi := { dst := some 47, op := Op.fieldAddr 76 (Operand.tmp 46) 0, type := 0, pos := "trie.go:127", after := #[{ on := 14, ground := Ground.data }, { on := 12, ground := Ground.guard }], guard := some (12, true) }) (v := undef) rfl (by kernel_rfl) (by kernel_rfl) (by kernel_rfl) (fun _ _ _ h => h) (Or.inr ⟨by rfl, rfl⟩) hHeld ?_
        try simp only [Act.put, List.setIfInBounds_toArray, List.set_cons_zero, List.set_cons_succ]
        refine wpAnyH_take (i := 16) (oi := { dst := some 48, op := Op.load 30 (Operand.tmp 47), type := 30, pos := "trie.go:127", after := #[{ on := 15, ground := Ground.data }, { on := 12, ground := Ground.guard }], guard := some (12, true) }) (v := undef) rfl (by kernel_rfl) (by kernel_rfl) (by kernel_rfl) (fun _ _ _ h => h) (Or.inr ⟨by rfl, rfl⟩) hHeld ?_
        try simp only [Act.put, List.setIfInBounds_toArray, List.set_cons_zero, List.set_cons_succ]
        refine wpAnyH_take (i := 17) (oi := { dst := some 49, op := Op.load 30 (Operand.tmp 4), type := 30, pos := "trie.go:127", after := #[{ on := 12, ground := Ground.guard }], guard := some (12, true) }) (v := undef) rfl (by kernel_rfl) (by kernel_rfl) (by kernel_rfl) (fun _ _ _ h => h) (Or.inr ⟨by rfl, rfl⟩) hHeld ?_
        try simp only [Act.put, List.setIfInBounds_toArray, List.set_cons_zero, List.set_cons_succ]
        refine wpAnyH_take (i := 18) (oi := { dst := some 50, op := Op.call { callee := Callee.value (Operand.func 43), args := #[Operand.tmp 48, Operand.tmp 49], argTypes := #[30, 30] }, type := 3, pos := "trie.go:127", after := #[{ on := 16, ground := Ground.data }, { on := 17, ground := Ground.data }, { on := 12, ground := Ground.chain }, { on := 12, ground := Ground.guard }], guard := some (12, true) }) (v := undef) rfl (by kernel_rfl) (by kernel_rfl) (by kernel_rfl) (fun _ _ _ h => h) (Or.inr ⟨by rfl, rfl⟩) hHeld ?_
        try simp only [Act.put, List.setIfInBounds_toArray, List.set_cons_zero, List.set_cons_succ]
        refine wpAnyH_take (i := 19) (oi := { dst := some 51, op := Op.move (Operand.tmp 8), type := 68, pos := "trie.go:127", after := #[{ on := 12, ground := Ground.guard }], guard := some (12, true) }) (v := undef) rfl (by kernel_rfl) (by kernel_rfl) (by kernel_rfl) (fun _ _ _ h => h) (Or.inr ⟨by rfl, rfl⟩) hHeld ?_
        try simp only [Act.put, List.setIfInBounds_toArray, List.set_cons_zero, List.set_cons_succ]
        refine wpAnyH_take (i := 20) (oi := { dst := some 52, op := Op.nilCheck (Operand.tmp 51), type := 0, pos := "trie.go:127", after := #[{ on := 19, ground := Ground.data }, { on := 12, ground := Ground.guard }], guard := some (12, true) }) (v := undef) rfl (by kernel_rfl) (by kernel_rfl) (by kernel_rfl) (fun _ _ _ h => h) (Or.inr ⟨by rfl, rfl⟩) hHeld ?_
        try simp only [Act.put, List.setIfInBounds_toArray, List.set_cons_zero, List.set_cons_succ]
        refine wpAnyH_take (i := 21) (oi := { dst := some 53, op := Op.fieldAddr 76 (Operand.tmp 52) 0, type := 0, pos := "trie.go:127", after := #[{ on := 20, ground := Ground.data }, { on := 12, ground := Ground.guard }], guard := some (12, true) }) (v := undef) rfl (by kernel_rfl) (by kernel_rfl) (by kernel_rfl) (fun _ _ _ h => h) (Or.inr ⟨by rfl, rfl⟩) hHeld ?_
        try simp only [Act.put, List.setIfInBounds_toArray, List.set_cons_zero, List.set_cons_succ]
        refine wpAnyH_take (i := 22) (oi := { dst := some 54, op := Op.fieldAddr 30 (Operand.tmp 53) 3, type := 0, pos := "trie.go:127", after := #[{ on := 21, ground := Ground.data }, { on := 12, ground := Ground.guard }], guard := some (12, true) }) (v := undef) rfl (by kernel_rfl) (by kernel_rfl) (by kernel_rfl) (fun _ _ _ h => h) (Or.inr ⟨by rfl, rfl⟩) hHeld ?_
        try simp only [Act.put, List.setIfInBounds_toArray, List.set_cons_zero, List.set_cons_succ]
        refine wpAnyH_take (i := 23) (oi := { dst := some 55, op := Op.load 3 (Operand.tmp 54), type := 3, pos := "trie.go:127", after := #[{ on := 22, ground := Ground.data }, { on := 12, ground := Ground.guard }], guard := some (12, true) }) (v := undef) rfl (by kernel_rfl) (by kernel_rfl) (by kernel_rfl) (fun _ _ _ h => h) (Or.inr ⟨by rfl, rfl⟩) hHeld ?_
        try simp only [Act.put, List.setIfInBounds_toArray, List.set_cons_zero, List.set_cons_succ]
        refine wpAnyH_take (i := 24) (oi := { dst := some 56, op := Op.binOp BinOp.eql 3 (Operand.tmp 50) (Operand.tmp 55) 3, type := 4, pos := "trie.go:127", after := #[{ on := 18, ground := Ground.data }, { on := 23, ground := Ground.data }, { on := 12, ground := Ground.guard }], guard := some (12, true) }) (v := undef) rfl (by kernel_rfl) (by kernel_rfl) (by kernel_rfl) (fun _ _ _ h => h) (Or.inr ⟨by rfl, rfl⟩) hHeld ?_
        try simp only [Act.put, List.setIfInBounds_toArray, List.set_cons_zero, List.set_cons_succ]
        refine wpAnyH_take (i := 25) (oi := { dst := some 57, op := Op.pick (Operand.tmp 44) (Operand.tmp 56) (Operand.const (Value.bool false)), type := 4, pos := "trie.go:127", after := #[{ on := 12, ground := Ground.data }, { on := 24, ground := Ground.data }], guard := none }) (v := ?_) rfl (by kernel_rfl) (by kernel_rfl) (by kernel_rfl) (fun _ _ _ h => h) (Or.inl ⟨by rfl, ?_⟩) hHeld ?_
        rotate_left
        · intro w hSw
          clear hSw
          go_simp
          try with_reducible rfl
        try simp only [Act.put, List.setIfInBounds_toArray, List.set_cons_zero, List.set_cons_succ]
        refine wpAnyH_done (by kernel_rfl) ?_ _
        clear hHeld
        go_wp2_with fail
        go_end0
        exact ⟨rfl, (GrownX.of_below HB2.out).trans (HGX.out.trans (GrownX.of_below (below_drewN (Below.refl wr.heap.size wr) 1))), F, FV, HCr.out.below (below_drewN (Below.refl wr.heap.size wr) 1) HCr.out.lt, (HFo.out.1.grownX HGX.out (fun b hb e => HCS.out (e ▸ HFo.out.2 b hb))).below_ (below_drewN (Below.refl wr.heap.size wr) 1), by rw [← HLK.out, HLE.out] at HL; exact HL.out⟩
      | node a has v0 l r' =>
        obtain ⟨b, Sl, Sr, ql, qr, hq, hn⟩ := HTA.out.parts
        obtain rfl : A = some ⟨b, 0, none⟩ := by injection hq
        have HN2 := Lib.hid hn
        have hbc : b ≠ c := fun e => HCS.out (e ▸ HSS.out b hn.sub.1)
        have HNr : Hid (CellsAt wr b (nodeC a has v0 ql qr) 76) := hn.c.grownX HGX.out hbc
        obtain ⟨k0, k1, k2, k3, k4, k5, k6, k7⟩ := CellsAt.c8 HNr.out
        have hblt := HNr.out.lt
        obtain ⟨C0, hgood⟩ := HGD.out
        have HAO := Lib.hid hgood.1
        have HAF := Lib.hid hgood.2.1
        have HGL := Lib.hid hgood.2.2.2.2
        have hal := hgood.1.le
        have has_ := hgood.1.small
        clear hq hn hgood HGD
        by_cases hlen : a.len ≤ p.len
        · have hlei : (a.len : Int) ≤ (p.len : Int) := by omega
          by_cases hk : cmN a p = a.len
          · have HKA := Lib.hid hk
            have HCMA := Lib.hid (fun w => HCM.out a w HAO.out HAF.out)
            rw [hk] at HCMA
            clear hk
            go_wp2_with fail
            refine wp_region_held_drew (S := fun w' => Below wr.heap.size wr w') (by kernel_rfl) (below_drewN (Below.refl _ _) 1) (fun hHeld => ?_)
            refine wpAnyH_take (i := 0) (oi := { dst := some 32, op := Op.move (Operand.tmp 8), type := 68, pos := "trie.go:127", after := #[], guard := none }) (v := ?_) rfl (by kernel_rfl) (by kernel_rfl) (by kernel_rfl) (fun _ _ _ h => h) (Or.inl ⟨by rfl, ?_⟩) hHeld ?_
            rotate_left
            · intro w hSw
              clear hSw
              go_simp
              try with_reducible rfl
            try simp only [Act.put, List.setIfInBounds_toArray, List.set_cons_zero, List.set_cons_succ]
            refine wpAnyH_take (i := 1) (oi := { dst := some 33, op := Op.binOp BinOp.neq 68 (Operand.tmp 32) (Operand.const (Value.pointer none)) 68, type := 4, pos := "trie.go:127", after := #[{ on := 0, ground := Ground.data }], guard := none }) (v := ?_) rfl (by kernel_rfl) (by kernel_rfl) (by kernel_rfl) (fun _ _ _ h => h) (Or.inl ⟨by rfl, ?_⟩) hHeld ?_
            rotate_left
            · intro w hSw
              clear hSw
              go_simp
              try with_reducible rfl
            try simp only [Act.put, List.setIfInBounds_toArray, List.set_cons_zero, List.set_cons_succ]
            refine wpAnyH_take (i := 2) (oi := { dst := some 34, op := Op.move (Operand.tmp 33), type := 4, pos := "trie.go:127", after := #[{ on := 1, ground := Ground.data }], guard := none }) (v := ?_) rfl (by kernel_rfl) (by kernel_rfl) (by kernel_rfl) (fun _ _ _ h => h) (Or.inl ⟨by rfl, ?_⟩) hHeld ?_
            rotate_left
            · intro w hSw
              clear hSw
              go_simp
              try with_reducible rfl
            try simp only [Act.put, List.setIfInBounds_toArray, List.set_cons_zero, List.set_cons_succ]
            refine wpAnyH_take (i := 3) (oi := { dst := some 35, op := Op.move (Operand.tmp 8), type := 68, pos := "trie.go:127", after := #[{ on := 2, ground := Ground.guard }], guard := some (2, true) }) (v := ?_) rfl (by kernel_rfl) (by kernel_rfl) (by kernel_rfl) (fun _ _ _ h => h) (Or.inl ⟨by rfl, ?_⟩) hHeld ?_
            rotate_left
            · intro w hSw
              clear hSw
              go_simp
              try with_reducible rfl
            try simp only [Act.put, List.setIfInBounds_toArray, List.set_cons_zero, List.set_cons_succ]
            refine wpAnyH_take (i := 4) (oi := { dst := some 36, op := Op.nilCheck (Operand.tmp 35), type := 0, pos := "trie.go:127", after := #[{ on := 3, ground := Ground.data }, { on := 2, ground := Ground.guard }], guard := some (2, true) }) (v := ?_) rfl (by kernel_rfl) (by kernel_rfl) (by kernel_rfl) (fun _ _ _ h => h) (Or.inl ⟨by rfl, ?_⟩) hHeld ?_
            rotate_left
            · intro w hSw
              clear hSw
              go_simp
              try with_reducible rfl
            try simp only [Act.put, List.setIfInBounds_toArray, List.set_cons_zero, List.set_cons_succ]
            refine wpAnyH_take (i := 5) (oi := { dst := some 37, op := Op.fieldAddr 76 (Operand.tmp 36) 0, type := 0, pos := "trie.go:127", after := #[{ on := 4, ground := Ground.data }, { on := 2, ground := Ground.guard }], guard := some (2, true) }) (v := ?_) rfl (by kernel_rfl) (by kernel_rfl) (by kernel_rfl) (fun _ _ _ h => h) (Or.inl ⟨by rfl, ?_⟩) hHeld ?_
            rotate_left
            · intro w hSw
              clear hSw
              go_simp
              try with_reducible rfl
            try simp only [Act.put, List.setIfInBounds_toArray, List.set_cons_zero, List.set_cons_succ]
            refine wpAnyH_take (i := 6) (oi := { dst := some 38, op := Op.fieldAddr 30 (Operand.tmp 37) 3, type := 0, pos := "trie.go:127", after := #[{ on := 5, ground := Ground.data }, { on := 2, ground := Ground.guard }], guard := some (2, true) }) (v := ?_) rfl (by kernel_rfl) (by kernel_rfl) (by kernel_rfl) (fun _ _ _ h => h) (Or.inl ⟨by rfl, ?_⟩) hHeld ?_
            rotate_left
            · intro w hSw
              clear hSw
              go_simp
              try with_reducible rfl
            try simp only [Act.put, List.setIfInBounds_toArray, List.set_cons_zero, List.set_cons_succ]
            refine wpAnyH_take (i := 7) (oi := { dst := some 39, op := Op.load 3 (Operand.tmp 38), type := 3, pos := "trie.go:127", after := #[{ on := 6, ground := Ground.data }, { on := 2, ground := Ground.guard }], guard := some (2, true) }) (v := ?_) rfl (by kernel_rfl) (by kernel_rfl) (by kernel_rfl) (fun _ _ _ h => h) (Or.inl ⟨by rfl, ?_⟩) hHeld ?_
            rotate_left
            · intro w hSw
              obtain ⟨k0, k1, k2, k3, _⟩ := CellsAt.c8 (HNr.out.below hSw HNr.out.lt)
              obtain ⟨p0, p1, p2, p3, _⟩ := c4_at (HPr.out.below hSw HPr.out.lt)
              go_simp
              try with_reducible rfl
            try simp only [Act.put, List.setIfInBounds_toArray, List.set_cons_zero, List.set_cons_succ]
            refine wpAnyH_take (i := 8) (oi := { dst := some 40, op := Op.fieldAddr 30 (Operand.tmp 4) 3, type := 0, pos := "trie.go:127", after := #[{ on := 2, ground := Ground.guard }], guard := some (2, true) }) (v := ?_) rfl (by kernel_rfl) (by kernel_rfl) (by kernel_rfl) (fun _ _ _ h => h) (Or.inl ⟨by rfl, ?_⟩) hHeld ?_
            rotate_left
            · intro w hSw
              clear hSw
              go_simp
              try with_reducible rfl
            try simp only [Act.put, List.setIfInBounds_toArray, List.set_cons_zero, List.set_cons_succ]
            refine wpAnyH_take (i := 9) (oi := { dst := some 41, op := Op.load 3 (Operand.tmp 40), type := 3, pos := "trie.go:127", after := #[{ on := 8, ground := Ground.data }, { on := 2, ground := Ground.guard }], guard := some (2, true) }) (v := ?_) rfl (by kernel_rfl) (by kernel_rfl) (by kernel_rfl) (fun _ _ _ h => h) (Or.inl ⟨by rfl, ?_⟩) hHeld ?_
            rotate_left
            · intro w hSw
              obtain ⟨k0, k1, k2, k3, _⟩ := CellsAt.c8 (HNr.out.below hSw HNr.out.lt)
              obtain ⟨p0, p1, p2, p3, _⟩ := c4_at (HPr.out.below hSw HPr.out.lt)
              go_simp
              try with_reducible rfl
            try simp only [Act.put, List.setIfInBounds_toArray, List.set_cons_zero, List.set_cons_succ]
            refine wpAnyH_take (i := 10) (oi := { dst := some 42, op := Op.binOp BinOp.leq 3 (Operand.tmp 39) (Operand.tmp 41) 3, type := 4, pos := "trie.go:127", after := #[{ on := 7, ground := Ground.data }, { on := 9, ground := Ground.data }, { on := 2, ground := Ground.guard }], guard := some (2, true) }) (v := ?_) rfl (by kernel_rfl) (by kernel_rfl) (by kernel_rfl) (fun _ _ _ h => h) (Or.inl ⟨by rfl, ?_⟩) hHeld ?_
            rotate_left
            · intro w hSw
              clear hSw
              go_simp
              try with_reducible rfl
            try simp only [Act.put, List.setIfInBounds_toArray, List.set_cons_zero, List.set_cons_succ]
            refine wpAnyH_take (i := 11) (oi := { dst := some 43, op := Op.pick (Operand.tmp 34) (Operand.tmp 42) (Operand.const (Value.bool false)), type := 4, pos := "trie.go:127", after := #[{ on := 2, ground := Ground.data }, { on := 10, ground := Ground.data }], guard := none }) (v := ?_) rfl (by kernel_rfl) (by kernel_rfl) (by kernel_rfl) (fun _ _ _ h => h) (Or.inl ⟨by rfl, ?_⟩) hHeld ?_
            rotate_left
            · intro w hSw
              clear hSw
              go_simp
              try with_reducible rfl
            try simp only [Act.put, List.setIfInBounds_toArray, List.set_cons_zero, List.set_cons_succ]
            refine wpAnyH_take (i := 12) (oi := { dst := some 44, op := Op.move (Operand.tmp 43), type := 4, pos := "trie.go:127", after := #[{ on := 11, ground := Ground.data }, { on := 2, ground := Ground.chain }], guard := none }) (v := ?_) rfl (by kernel_rfl) (by kernel_rfl) (by kernel_rfl) (fun _ _ _ h => h) (Or.inl ⟨by rfl, ?_⟩) hHeld ?_
            rotate_left
            · intro w hSw
              clear hSw
              go_simp
              try with_reducible rfl
            try simp only [Act.put, List.setIfInBounds_toArray, List.set_cons_zero, List.set_cons_succ]
            refine wpAnyH_take (i := 13) (oi := { dst := some 45, op := Op.move (Operand.tmp 8), type := 68, pos := "trie.go:127", after := #[{ on := 12, ground := Ground.guard }], guard := some (12, true) }) (v := ?_) rfl (by kernel_rfl) (by kernel_rfl) (by kernel_rfl) (fun _ _ _ h => h) (Or.inl ⟨by rfl, ?_⟩) hHeld ?_
            rotate_left
            · intro w hSw
              clear hSw
              go_simp
              try with_reducible rfl
            try simp only [Act.put, List.setIfInBounds_toArray, List.set_cons_zero, List.set_cons_succ]
            refine wpAnyH_take (i := 14) (oi := { dst := some 46, op := Op.nilCheck (Operand.tmp 45), type := 0, pos := "trie.go:127", after := #[{ on := 13, ground := Ground.data }, { on := 12, ground := Ground.guard }], guard := some (12, true) }) (v := ?_) rfl (by kernel_rfl) (by kernel_rfl) (by kernel_rfl) (fun _ _ _ h => h) (Or.inl ⟨by rfl, ?_⟩) hHeld ?_
            rotate_left
            · intro w hSw
              clear hSw
              go_simp
              try with_reducible rfl
            try simp only [Act.put, List.setIfInBounds_toArray, List.set_cons_zero, List.set_cons_succ]
            refine wpAnyH_take (i := 15) (oi := { dst := some 47, op := Op.fieldAddr 76 (Operand.tmp 46) 0, type := 0, pos := "trie.go:127", after := #[{ on := 14, ground := Ground.data }, { on := 12, ground := Ground.guard }], guard := some (12, true) }) (v := ?_) rfl (by kernel_rfl) (by kernel_rfl) (by kernel_rfl) (fun _ _ _ h => h) (Or.inl ⟨by rfl, ?_⟩) hHeld ?_
            rotate_left
            · intro w hSw
              clear hSw
              go_simp
              try with_reducible rfl
            try simp only [Act.put, List.setIfInBounds_toArray, List.set_cons_zero, List.set_cons_succ]
            refine wpAnyH_take (i := 16) (oi := { dst := some 48, op := Op.load 30 (Operand.tmp 47), type := 30, pos := "trie.go:127", after := #[{ on := 15, ground := Ground.data }, { on := 12, ground := Ground.guard }], guard := some (12, true) }) (v := ?_) rfl (by kernel_rfl) (by kernel_rfl) (by kernel_rfl) (fun _ _ _ h => h) (Or.inl ⟨by rfl, ?_⟩) hHeld ?_
            rotate_left
            · intro w hSw
              obtain ⟨k0, k1, k2, k3, _⟩ := CellsAt.c8 (HNr.out.below hSw HNr.out.lt)
              obtain ⟨p0, p1, p2, p3, _⟩ := c4_at (HPr.out.below hSw HPr.out.lt)
              go_simp
              try with_reducible rfl
            try simp only [Act.put, List.setIfInBounds_toArray, List.set_cons_zero, List.set_cons_succ]
            refine wpAnyH_take (i := 17) (oi := { dst := some 49, op := Op.load 30 (Operand.tmp 4), type := 30, pos := "trie.go:127", after := #[{ on := 12, ground := Ground.guard }], guard := some (12, true) }) (v := ?_) rfl (by kernel_rfl) (by kernel_rfl) (by kernel_rfl) (fun _ _ _ h => h) (Or.inl ⟨by rfl, ?_⟩) hHeld ?_
            rotate_left
            · intro w hSw
              obtain ⟨k0, k1, k2, k3, _⟩ := CellsAt.c8 (HNr.out.below hSw HNr.out.lt)
              obtain ⟨p0, p1, p2, p3, _⟩ := c4_at (HPr.out.below hSw HPr.out.lt)
              go_simp
              try with_reducible rfl
            try simp only [Act.put, List.setIfInBounds_toArray, List.set_cons_zero, List.set_cons_succ]
            refine wpAnyH_take (i := 19) (oi := { dst := some 51, op := Op.move (Operand.tmp 8), type := 68, pos := "trie.go:127", after := #[{ on := 12, ground := Ground.guard }], guard := some (12, true) }) (v := ?_) rfl (by kernel_rfl) (by kernel_rfl) (by kernel_rfl) (fun _ _ _ h => h) (Or.inl ⟨by rfl, ?_⟩) hHeld ?_
            rotate_left
            · intro w hSw
              clear hSw
              go_simp
              try with_reducible rfl
            try simp only [Act.put, List.setIfInBounds_toArray, List.set_cons_zero, List.set_cons_succ]
            refine wpAnyH_take (i := 20) (oi := { dst := some 52, op := Op.nilCheck (Operand.tmp 51), type := 0, pos := "trie.go:127", after := #[{ on := 19, ground := Ground.data }, { on := 12, ground := Ground.guard }], guard := some (12, true) }) (v := ?_) rfl (by kernel_rfl) (by kernel_rfl) (by kernel_rfl) (fun _ _ _ h => h) (Or.inl ⟨by rfl, ?_⟩) hHeld ?_
            rotate_left
            · intro w hSw
              clear hSw
              go_simp
              try with_reducible rfl
            try simp only [Act.put, List.setIfInBounds_toArray, List.set_cons_zero, List.set_cons_succ]
            refine wpAnyH_take (i := 21) (oi := { dst := some 53, op := Op.fieldAddr 76 (Operand.tmp 52) 0, type := 0, pos := "trie.go:127", after := #[{ on := 20, ground := Ground.data }, { on := 12, ground := Ground.guard }], guard := some (12, true) }) (v := ?_) rfl (by kernel_rfl) (by kernel_rfl) (by kernel_rfl) (fun _ _ _ h => h) (Or.inl ⟨by rfl, ?_⟩) hHeld ?_
            rotate_left
            · intro w hSw
              clear hSw
              go_simp
              try with_reducible rfl
            try simp only [Act.put, List.setIfInBounds_toArray, List.set_cons_zero, List.set_cons_succ]
            refine wpAnyH_take (i := 22) (oi := { dst := some 54, op := Op.fieldAddr 30 (Operand.tmp 53) 3, type := 0, pos := "trie.go:127", after := #[{ on := 21, ground := Ground.data }, { on := 12, ground := Ground.guard }], guard := some (12, true) }) (v := ?_) rfl (by kernel_rfl) (by kernel_rfl) (by kernel_rfl) (fun _ _ _ h => h) (Or.inl ⟨by rfl, ?_⟩) hHeld ?_
            rotate_left
            · intro w hSw
              clear hSw
              go_simp
              try with_reducible rfl
            try simp only [Act.put, List.setIfInBounds_toArray, List.set_cons_zero, List.set_cons_succ]
            refine wpAnyH_take (i := 23) (oi := { dst := some 55, op := Op.load 3 (Operand.tmp 54), type := 3, pos := "trie.go:127", after := #[{ on := 22, ground := Ground.data }, { on := 12, ground := Ground.guard }], guard := some (12, true) }) (v := ?_) rfl (by kernel_rfl) (by kernel_rfl) (by kernel_rfl) (fun _ _ _ h => h) (Or.inl ⟨by rfl, ?_⟩) hHeld ?_
            rotate_left
            · intro w hSw
              obtain ⟨k0, k1, k2, k3, _⟩ := CellsAt.c8 (HNr.out.below hSw HNr.out.lt)
              obtain ⟨p0, p1, p2, p3, _⟩ := c4_at (HPr.out.below hSw HPr.out.lt)
              go_simp
              try with_reducible rfl
            try simp only [Act.put, List.setIfInBounds_toArray, List.set_cons_zero, List.set_cons_succ]
            refine wpAnyH_ready (rs := [18]) (by kernel_rfl) (by simp) ?_
            refine AllReadyH.cons (o := { dst := some 50, op := Op.call { callee := Callee.value (Operand.func 43), args := #[Operand.tmp 48, Operand.tmp 49], argTypes := #[30, 30] }, type := 3, pos := "trie.go:127", after := #[{ on := 16, ground := Ground.data }, { on := 17, ground := Ground.data }, { on := 12, ground := Ground.chain }, { on := 12, ground := Ground.guard }], guard := some (12, true) }) rfl (fun K hK => ?_) AllReadyH.nil
            go_simp
            refine (HCMA.out _).mono ?_
            rintro e w9 ⟨rfl, hb9⟩
            go_wp2_with fail
            refine hK.out _ _ (hHeld.trans (hb9.mono hHeld.size)) (fun hHeld => ?_)
            clear hK K
            try simp only [Act.put, List.setIfInBounds_toArray, List.set_cons_zero, List.set_cons_succ]
            refine wpAnyH_take (i := 24) (oi := { dst := some 56, op := Op.binOp BinOp.eql 3 (Operand.tmp 50) (Operand.tmp 55) 3, type := 4, pos := "trie.go:127", after := #[{ on := 18, ground := Ground.data }, { on := 23, ground := Ground.data }, { on := 12, ground := Ground.guard }], guard := some (12, true) }) (v := ?_) rfl (by kernel_rfl) (by kernel_rfl) (by kernel_rfl) (fun _ _ _ h => h) (Or.inl ⟨by rfl, ?_⟩) hHeld ?_
            rotate_left
            · intro w hSw
              clear hSw
              go_simp
              try with_reducible rfl
            try simp only [Act.put, List.setIfInBounds_toArray, List.set_cons_zero, List.set_cons_succ]
            refine wpAnyH_take (i := 25) (oi := { dst := some 57, op := Op.pick (Operand.tmp 44) (Operand.tmp 56) (Operand.const (Value.bool false)), type := 4, pos := "trie.go:127", after := #[{ on := 12, ground := Ground.data }, { on := 24, ground := Ground.data }], guard := none }) (v := ?_) rfl (by kernel_rfl) (by kernel_rfl) (by kernel_rfl) (fun _ _ _ h => h) (Or.inl ⟨by rfl, ?_⟩) hHeld ?_
            rotate_left
            · intro w hSw
              clear hSw
              go_simp
              try with_reducible rfl
            try simp only [Act.put, List.setIfInBounds_toArray, List.set_cons_zero, List.set_cons_succ]
            refine wpAnyH_done (by kernel_rfl) ?_ _
            have HB9 : Hid (Below wr.heap.size wr w9) := hHeld
            have HN9 : Hid (CellsAt w9 b (nodeC a has v0 ql qr) 76) := HNr.out.below HB9.out HNr.out.lt
            have HP9 : Hid (CellsAt w9 w.heap.size #[.int .i64 p.fam, .int .u64 p.rd, .string p.addr, .int .i64 (p.len : Nat)] 30) := HPr.out.below HB9.out HPr.out.lt
            have HC9 : Hid (CellsAt w9 c #[.pointer F] 68) := HCr.out.below HB9.out HCr.out.lt
            clear hHeld hb9 k0 k1 k2 k3 k4 k5 k6 k7
            go_wp2_with fail
            refine (tell_any c b has (.pointer F) w9 HC9.out ((CellsAt.c HN9.out 4).trans rfl) (fun e w' => e = .returned (.tuple #[]) ∧ GrownX (fun x => x = c) w9 w' ∧ CellsAt w' c #[.pointer (if has then some ⟨b, 0, none⟩ else F)] 68) (fun hh => ⟨rfl, GrownX.of_row (X := fun x => x = c) (setCell_row _ _ _ _) rfl, by rw [hh]; exact (HC9.out.setc 0 _).cast rfl⟩) (fun hh => ⟨rfl, GrownX.refl _ _, by rw [hh]; exact HC9.out⟩)).mono ?_
            rintro e w10 ⟨rfl, hg10, hc10⟩
            have HC10 := Lib.hid hc10
            have HN10 : Hid (CellsAt w10 b (nodeC a has v0 ql qr) 76) := HN9.out.grownX hg10 hbc
            have HP10 : Hid (CellsAt w10 w.heap.size #[.int .i64 p.fam, .int .u64 p.rd, .string p.addr, .int .i64 (p.len : Nat)] 30) := HP9.out.grownX hg10 hn0
            have HGX10 : Hid (GrownX (fun x => x = c) w2 w10) := HGX.out.trans ((GrownX.of_below HB9.out).trans hg10)
            have HFo10 : Hid (FoundAt w2 (if has then some ⟨b, 0, none⟩ else F) (hv has a v0 FV) ∧ ∀ b', (if has then some ⟨b, 0, none⟩ else F) = some ⟨b', 0, none⟩ → b' ∈ r.S) := by
              cases has with
              | true =>
                refine ⟨⟨b, ql, qr, rfl, HN2.out.c⟩, fun b' hb' => ?_⟩
                have e : b = b' := by
                  have h1 : some (⟨b, 0, none⟩ : Addr) = some ⟨b', 0, none⟩ := hb'
                  injection h1 with h1
                  injection h1
                exact e ▸ HSS.out b HN2.out.sub.1
              | false => exact HFo.out
            clear hg10 hc10 HC9 HN9 HP9 HFo
            generalize (if has then some (⟨b, 0, none⟩ : Addr) else F) = F2 at HC10 HFo10
            by_cases hl : a.len = p.len
            · have e1 : ((a.len : Int) == (p.len : Int)) = true := by rw [beq_iff_eq]; omega
              have HLE : Hid (lk p (.node a has v0 l r') FV = hv has a v0 FV) := lk_here HKA.out hl
              clear hl
              go_wp2_with fail
              refine wp_region_held_drew (S := fun w' => ∃ nd, w' = w10.drewN nd) (by kernel_rfl) (⟨1, rfl⟩) (fun hHeld => ?_)
              refine wpAnyH_take (i := 0) (oi := { dst := some 61, op := Op.move (Operand.tmp 8), type := 68, pos := "trie.go:129", after := #[], guard := none }) (v := ?_) rfl (by kernel_rfl) (by kernel_rfl) (by kernel_rfl) (fun _ _ _ h => h) (Or.inl ⟨by rfl, ?_⟩) hHeld ?_
              rotate_left
              · intro w hSw
                clear hSw
                go_simp
                try with_reducible rfl
              try simp only [Act.put, List.setIfInBounds_toArray, List.set_cons_zero, List.set_cons_succ]
              refine wpAnyH_take (i := 1) (oi := { dst := some 62, op := Op.nilCheck (Operand.tmp 61), type := 0, pos := "trie.go:129", after := #[{ on := 0, ground := Ground.data }], guard := none }) (v := ?_) rfl (by kernel_rfl) (by kernel_rfl) (by kernel_rfl) (fun _ _ _ h => h) (Or.inl ⟨by rfl, ?_⟩) hHeld ?_
              rotate_left
              · intro w hSw
                clear hSw
                go_simp
                try with_reducible rfl
              try simp only [Act.put, List.setIfInBounds_toArray, List.set_cons_zero, List.set_cons_succ]
              refine wpAnyH_take (i := 2) (oi := { dst := some 63, op := Op.fieldAddr 76 (Operand.tmp 62) 0, type := 0, pos := "trie.go:129", after := #[{ on := 1, ground := Ground.data }], guard := none }) (v := ?_) rfl (by kernel_rfl) (by kernel_rfl) (by kernel_rfl) (fun _ _ _ h => h) (Or.inl ⟨by rfl, ?_⟩) hHeld ?_
              rotate_left
              · intro w hSw
                clear hSw
                go_simp
                try with_reducible rfl
              try simp only [Act.put, List.setIfInBounds_toArray, List.set_cons_zero, List.set_cons_succ]
              refine wpAnyH_take (i := 3) (oi := { dst := some 64, op := Op.fieldAddr 30 (Operand.tmp 63) 3, type := 0, pos := "trie.go:129", after := #[{ on := 2, ground := Ground.data }], guard := none }) (v := ?_) rfl (by kernel_rfl) (by kernel_rfl) (by kernel_rfl) (fun _ _ _ h => h) (Or.inl ⟨by rfl, ?_⟩) hHeld ?_
              rotate_left
              · intro w hSw
                clear hSw
                go_simp
                try with_reducible rfl
              try simp only [Act.put, List.setIfInBounds_toArray, List.set_cons_zero, List.set_cons_succ]
              refine wpAnyH_take (i := 4) (oi := { dst := some 65, op := Op.load 3 (Operand.tmp 64), type := 3, pos := "trie.go:129", after := #[{ on := 3, ground := Ground.data }], guard := none }) (v := ?_) rfl (by kernel_rfl) (by kernel_rfl) (by kernel_rfl) (fun _ _ _ h => h) (Or.inl ⟨by rfl, ?_⟩) hHeld ?_
              rotate_left
              · intro w hSw
                obtain ⟨nd, rfl⟩ := hSw
                obtain ⟨k0, k1, k2, k3, k4, k5, k6, k7⟩ := CellsAt.c8 ((HN10.out).drew nd)
                obtain ⟨p0, p1, p2, p3, _⟩ := c4_at (HP10.out.drew nd)
                go_simp
                try with_reducible rfl
              try simp only [Act.put, List.setIfInBounds_toArray, List.set_cons_zero, List.set_cons_succ]
              refine wpAnyH_take (i := 5) (oi := { dst := some 66, op := Op.fieldAddr 30 (Operand.tmp 4) 3, type := 0, pos := "trie.go:129", after := #[], guard := none }) (v := ?_) rfl (by kernel_rfl) (by kernel_rfl) (by kernel_rfl) (fun _ _ _ h => h) (Or.inl ⟨by rfl, ?_⟩) hHeld ?_
              rotate_left
              · intro w hSw
                clear hSw
                go_simp
                try with_reducible rfl
              try simp only [Act.put, List.setIfInBounds_toArray, List.set_cons_zero, List.set_cons_succ]
              refine wpAnyH_take (i := 6) (oi := { dst := some 67, op := Op.load 3 (Operand.tmp 66), type := 3, pos := "trie.go:129", after := #[{ on := 5, ground := Ground.data }], guard := none }) (v := ?_) rfl (by kernel_rfl) (by kernel_rfl) (by kernel_rfl) (fun _ _ _ h => h) (Or.inl ⟨by rfl, ?_⟩) hHeld ?_
              rotate_left
              · intro w hSw
                obtain ⟨nd, rfl⟩ := hSw
                obtain ⟨k0, k1, k2, k3, k4, k5, k6, k7⟩ := CellsAt.c8 ((HN10.out).drew nd)
                obtain ⟨p0, p1, p2, p3, _⟩ := c4_at (HP10.out.drew nd)
                go_simp
                try with_reducible rfl
              try simp only [Act.put, List.setIfInBounds_toArray, List.set_cons_zero, List.set_cons_succ]
              refine wpAnyH_take (i := 7) (oi := { dst := some 68, op := Op.binOp BinOp.eql 3 (Operand.tmp 65) (Operand.tmp 67) 3, type := 4, pos := "trie.go:129", after := #[{ on := 4, ground := Ground.data }, { on := 6, ground := Ground.data }], guard := none }) (v := ?_) rfl (by kernel_rfl) (by kernel_rfl) (by kernel_rfl) (fun _ _ _ h => h) (Or.inl ⟨by rfl, ?_⟩) hHeld ?_
              rotate_left
              · intro w hSw
                clear hSw
                go_simp
                try with_reducible rfl
              try simp only [Act.put, List.setIfInBounds_toArray, List.set_cons_zero, List.set_cons_succ]
              refine wpAnyH_done (by kernel_rfl) ?_ _
              clear hHeld
              go_wp2_with fail
              go_end0
              exact ⟨rfl, (GrownX.of_below HB2.out).trans (HGX10.out.trans (GrownX.of_below (below_drewN (Below.refl _ _) 1))), F2, hv has a v0 FV, HC10.out.drew 1, HFo10.out.1.grownX (HGX10.out.drew 1) (fun b hb e => HCS.out (e ▸ HFo10.out.2 b hb)), by rw [← HLK.out, HLE.out] at HL; exact HL.out⟩
            · have e1 : ((a.len : Int) == (p.len : Int)) = false := by rw [beq_eq_false_iff_ne]; omega
              have hlt : a.len < p.len := by omega
              have HLD := Lib.hid (lk_down (has := has) (v := v0) (l := l) (r := r') (FV := FV) HKA.out hl)
              have HBB := Lib.hid (fun w => HBI.out a.len w (by omega))
              clear hl
              go_wp2_with fail
              refine wp_region_held_drew (S := fun w' => ∃ nd, w' = w10.drewN nd) (by kernel_rfl) (⟨1, rfl⟩) (fun hHeld => ?_)
              refine wpAnyH_take (i := 0) (oi := { dst := some 61, op := Op.move (Operand.tmp 8), type := 68, pos := "trie.go:129", after := #[], guard := none }) (v := ?_) rfl (by kernel_rfl) (by kernel_rfl) (by kernel_rfl) (fun _ _ _ h => h) (Or.inl ⟨by rfl, ?_⟩) hHeld ?_
              rotate_left
              · intro w hSw
                clear hSw
                go_simp
                try with_reducible rfl
              try simp only [Act.put, List.setIfInBounds_toArray, List.set_cons_zero, List.set_cons_succ]
              refine wpAnyH_take (i := 1) (oi := { dst := some 62, op := Op.nilCheck (Operand.tmp 61), type := 0, pos := "trie.go:129", after := #[{ on := 0, ground := Ground.data }], guard := none }) (v := ?_) rfl (by kernel_rfl) (by kernel_rfl) (by kernel_rfl) (fun _ _ _ h => h) (Or.inl ⟨by rfl, ?_⟩) hHeld ?_
              rotate_left
              · intro w hSw
                clear hSw
                go_simp
                try with_reducible rfl
              try simp only [Act.put, List.setIfInBounds_toArray, List.set_cons_zero, List.set_cons_succ]
              refine wpAnyH_take (i := 2) (oi := { dst := some 63, op := Op.fieldAddr 76 (Operand.tmp 62) 0, type := 0, pos := "trie.go:129", after := #[{ on := 1, ground := Ground.data }], guard := none }) (v := ?_) rfl (by kernel_rfl) (by kernel_rfl) (by kernel_rfl) (fun _ _ _ h => h) (Or.inl ⟨by rfl, ?_⟩) hHeld ?_
              rotate_left
              · intro w hSw
                clear hSw
                go_simp
                try with_reducible rfl
              try simp only [Act.put, List.setIfInBounds_toArray, List.set_cons_zero, List.set_cons_succ]
              refine wpAnyH_take (i := 3) (oi := { dst := some 64, op := Op.fieldAddr 30 (Operand.tmp 63) 3, type := 0, pos := "trie.go:129", after := #[{ on := 2, ground := Ground.data }], guard := none }) (v := ?_) rfl (by kernel_rfl) (by kernel_rfl) (by kernel_rfl) (fun _ _ _ h => h) (Or.inl ⟨by rfl, ?_⟩) hHeld ?_
              rotate_left
              · intro w hSw
                clear hSw
                go_simp
                try with_reducible rfl
              try simp only [Act.put, List.setIfInBounds_toArray, List.set_cons_zero, List.set_cons_succ]
              refine wpAnyH_take (i := 4) (oi := { dst := some 65, op := Op.load 3 (Operand.tmp 64), type := 3, pos := "trie.go:129", after := #[{ on := 3, ground := Ground.data }], guard := none }) (v := ?_) rfl (by kernel_rfl) (by kernel_rfl) (by kernel_rfl) (fun _ _ _ h => h) (Or.inl ⟨by rfl, ?_⟩) hHeld ?_
              rotate_left
              · intro w hSw
                obtain ⟨nd, rfl⟩ := hSw
                obtain ⟨k0, k1, k2, k3, k4, k5, k6, k7⟩ := CellsAt.c8 ((HN10.out).drew nd)
                obtain ⟨p0, p1, p2, p3, _⟩ := c4_at (HP10.out.drew nd)
                go_simp
                try with_reducible rfl
              try simp only [Act.put, List.setIfInBounds_toArray, List.set_cons_zero, List.set_cons_succ]
              refine wpAnyH_take (i := 5) (oi := { dst := some 66, op := Op.fieldAddr 30 (Operand.tmp 4) 3, type := 0, pos := "trie.go:129", after := #[], guard := none }) (v := ?_) rfl (by kernel_rfl) (by kernel_rfl) (by kernel_rfl) (fun _ _ _ h => h) (Or.inl ⟨by rfl, ?_⟩) hHeld ?_
              rotate_left
              · intro w hSw
                clear hSw
                go_simp
                try with_reducible rfl
              try simp only [Act.put, List.setIfInBounds_toArray, List.set_cons_zero, List.set_cons_succ]
              refine wpAnyH_take (i := 6) (oi := { dst := some 67, op := Op.load 3 (Operand.tmp 66), type := 3, pos := "trie.go:129", after := #[{ on := 5, ground := Ground.data }], guard := none }) (v := ?_) rfl (by kernel_rfl) (by kernel_rfl) (by kernel_rfl) (fun _ _ _ h => h) (Or.inl ⟨by rfl, ?_⟩) hHeld ?_
              rotate_left
              · intro w hSw
                obtain ⟨nd, rfl⟩ := hSw
                obtain ⟨k0, k1, k2, k3, k4, k5, k6, k7⟩ := CellsAt.c8 ((HN10.out).drew nd)
                obtain ⟨p0, p1, p2, p3, _⟩ := c4_at (HP10.out.drew nd)
                go_simp
                try with_reducible rfl
              try simp only [Act.put, List.setIfInBounds_toArray, List.set_cons_zero, List.set_cons_succ]
              refine wpAnyH_take (i := 7) (oi := { dst := some 68, op := Op.binOp BinOp.eql 3 (Operand.tmp 65) (Operand.tmp 67) 3, type := 4, pos := "trie.go:129", after := #[{ on := 4, ground := Ground.data }, { on := 6, ground := Ground.data }], guard := none }) (v := ?_) rfl (by kernel_rfl) (by kernel_rfl) (by kernel_rfl) (fun _ _ _ h => h) (Or.inl ⟨by rfl, ?_⟩) hHeld ?_
              rotate_left
              · intro w hSw
                clear hSw
                go_simp
                try with_reducible rfl
              try simp only [Act.put, List.setIfInBounds_toArray, List.set_cons_zero, List.set_cons_succ]
              refine wpAnyH_done (by kernel_rfl) ?_ _
              clear hHeld
              have HC11 : Hid (CellsAt w10.drew c #[.pointer F2] 68) := HC10.out.drew 1
              have HN11 : Hid (CellsAt w10.drew b (nodeC a has v0 ql qr) 76) := HN10.out.drew 1
              have HP11 : Hid (CellsAt w10.drew w.heap.size #[.int .i64 p.fam, .int .u64 p.rd, .string p.addr, .int .i64 (p.len : Nat)] 30) := HP10.out.drew 1
              have HGX11 : Hid (GrownX (fun x => x = c) w2 w10.drew) := HGX10.out.drew 1
              clear HC10 HN10 HP10 HGX10
              generalize w10.drew = w11 at HC11 HN11 HP11 HGX11 ⊢
              have HLS : Hid (∀ s, s ∈ Sl → s ∈ r.S) := fun s hs => HSS.out s (HN2.out.sub.2.1 s hs)
              have HRS : Hid (∀ s, s ∈ Sr → s ∈ r.S) := fun s hs => HSS.out s (HN2.out.sub.2.2.1 s hs)
              have HM : Hid (wayM p.len (.pointer (some ⟨b, 0, none⟩)) wr = p.len + 2 - a.len) := wayM_at ((CellsAt.c HNr.out 3).trans rfl)
              by_cases hbit : p.bit a.len = 0
              · have HBIT : Hid (∀ w, Calls Try.prog 44 #[.string p.addr, .int .i64 (a.len : Nat)] w fun e w' => e = .returned (.int .i64 0) ∧ w' = w) := fun w => by
                  have := HBB.out w
                  rw [show bitV p.addr a.len = 0 from hbit] at this
                  exact this
                have HL2 : Hid (lk p l (hv has a v0 FV) = r.t.look p) := by
                  have := HLD.out
                  rw [if_pos hbit, HLK.out] at this
                  exact this.symm
                obtain ⟨A2, rfl⟩ := HN2.out.l.form
                clear hbit
                go_wp2_with fail
                refine wp_region_held_drew (S := fun w' => ∃ nd, w' = w11.drewN nd) (by kernel_rfl) (⟨1, rfl⟩) (fun hHeld => ?_)
                refine wpAnyH_take (i := 0) (oi := { dst := some 69, op := Op.move (Operand.tmp 8), type := 68, pos := "trie.go:132", after := #[], guard := none }) (v := ?_) rfl (by kernel_rfl) (by kernel_rfl) (by kernel_rfl) (fun _ _ _ h => h) (Or.inl ⟨by rfl, ?_⟩) hHeld ?_
                rotate_left
                · intro w hSw
                  clear hSw
                  go_simp
                  try with_reducible rfl
                try simp only [Act.put, List.setIfInBounds_toArray, List.set_cons_zero, List.set_cons_succ]
                refine wpAnyH_take (i := 1) (oi := { dst := some 70, op := Op.fieldAddr 30 (Operand.tmp 4) 2, type := 0, pos := "trie.go:132", after := #[], guard := none }) (v := ?_) rfl (by kernel_rfl) (by kernel_rfl) (by kernel_rfl) (fun _ _ _ h => h) (Or.inl ⟨by rfl, ?_⟩) hHeld ?_
                rotate_left
                · intro w hSw
                  clear hSw
                  go_simp
                  try with_reducible rfl
                try simp only [Act.put, List.setIfInBounds_toArray, List.set_cons_zero, List.set_cons_succ]
                refine wpAnyH_take (i := 2) (oi := { dst := some 71, op := Op.load 9 (Operand.tmp 70), type := 9, pos := "trie.go:132", after := #[{ on := 1, ground := Ground.data }], guard := none }) (v := ?_) rfl (by kernel_rfl) (by kernel_rfl) (by kernel_rfl) (fun _ _ _ h => h) (Or.inl ⟨by rfl, ?_⟩) hHeld ?_
                rotate_left
                · intro w hSw
                  obtain ⟨nd, rfl⟩ := hSw
                  obtain ⟨k0, k1, k2, k3, k4, k5, k6, k7⟩ := CellsAt.c8 ((HN11.out).drew nd)
                  obtain ⟨p0, p1, p2, p3, _⟩ := c4_at (HP11.out.drew nd)
                  go_simp
                  try with_reducible rfl
                try simp only [Act.put, List.setIfInBounds_toArray, List.set_cons_zero, List.set_cons_succ]
                refine wpAnyH_take (i := 3) (oi := { dst := some 72, op := Op.move (Operand.tmp 8), type := 68, pos := "trie.go:132", after := #[], guard := none }) (v := ?_) rfl (by kernel_rfl) (by kernel_rfl) (by kernel_rfl) (fun _ _ _ h => h) (Or.inl ⟨by rfl, ?_⟩) hHeld ?_
                rotate_left
                · intro w hSw
                  clear hSw
                  go_simp
                  try with_reducible rfl
                try simp only [Act.put, List.setIfInBounds_toArray, List.set_cons_zero, List.set_cons_succ]
                refine wpAnyH_take (i := 4) (oi := { dst := some 73, op := Op.nilCheck (Operand.tmp 72), type := 0, pos := "trie.go:132", after := #[{ on := 3, ground := Ground.data }], guard := none }) (v := ?_) rfl (by kernel_rfl) (by kernel_rfl) (by kernel_rfl) (fun _ _ _ h => h) (Or.inl ⟨by rfl, ?_⟩) hHeld ?_
                rotate_left
                · intro w hSw
                  clear hSw
                  go_simp
                  try with_reducible rfl
                try simp only [Act.put, List.setIfInBounds_toArray, List.set_cons_zero, List.set_cons_succ]
                refine wpAnyH_take (i := 5) (oi := { dst := some 74, op := Op.fieldAddr 76 (Operand.tmp 73) 0, type := 0, pos := "trie.go:132", after := #[{ on := 4, ground := Ground.data }], guard := none }) (v := ?_) rfl (by kernel_rfl) (by kernel_rfl) (by kernel_rfl) (fun _ _ _ h => h) (Or.inl ⟨by rfl, ?_⟩) hHeld ?_
                rotate_left
                · intro w hSw
                  clear hSw
                  go_simp
                  try with_reducible rfl
                try simp only [Act.put, List.setIfInBounds_toArray, List.set_cons_zero, List.set_cons_succ]
                refine wpAnyH_take (i := 6) (oi := { dst := some 75, op := Op.fieldAddr 30 (Operand.tmp 74) 3, type := 0, pos := "trie.go:132", after := #[{ on := 5, ground := Ground.data }], guard := none }) (v := ?_) rfl (by kernel_rfl) (by kernel_rfl) (by kernel_rfl) (fun _ _ _ h => h) (Or.inl ⟨by rfl, ?_⟩) hHeld ?_
                rotate_left
                · intro w hSw
                  clear hSw
                  go_simp
                  try with_reducible rfl
                try simp only [Act.put, List.setIfInBounds_toArray, List.set_cons_zero, List.set_cons_succ]
                refine wpAnyH_take (i := 7) (oi := { dst := some 76, op := Op.load 3 (Operand.tmp 75), type := 3, pos := "trie.go:132", after := #[{ on := 6, ground := Ground.data }], guard := none }) (v := ?_) rfl (by kernel_rfl) (by kernel_rfl) (by kernel_rfl) (fun _ _ _ h => h) (Or.inl ⟨by rfl, ?_⟩) hHeld ?_
                rotate_left
                · intro w hSw
                  obtain ⟨nd, rfl⟩ := hSw
                  obtain ⟨k0, k1, k2, k3, k4, k5, k6, k7⟩ := CellsAt.c8 ((HN11.out).drew nd)
                  obtain ⟨p0, p1, p2, p3, _⟩ := c4_at (HP11.out.drew nd)
                  go_simp
                  try with_reducible rfl
                try simp only [Act.put, List.setIfInBounds_toArray, List.set_cons_zero, List.set_cons_succ]
                refine wpAnyH_take (i := 9) (oi := { dst := some 78, op := Op.nilCheck (Operand.tmp 69), type := 0, pos := "trie.go:132", after := #[{ on := 0, ground := Ground.data }], guard := none }) (v := ?_) rfl (by kernel_rfl) (by kernel_rfl) (by kernel_rfl) (fun _ _ _ h => h) (Or.inl ⟨by rfl, ?_⟩) hHeld ?_
                rotate_left
                · intro w hSw
                  clear hSw
                  go_simp
                  try with_reducible rfl
                try simp only [Act.put, List.setIfInBounds_toArray, List.set_cons_zero, List.set_cons_succ]
                refine wpAnyH_take (i := 10) (oi := { dst := some 79, op := Op.fieldAddr 76 (Operand.tmp 78) 3, type := 0, pos := "trie.go:132", after := #[{ on := 9, ground := Ground.data }], guard := none }) (v := ?_) rfl (by kernel_rfl) (by kernel_rfl) (by kernel_rfl) (fun _ _ _ h => h) (Or.inl ⟨by rfl, ?_⟩) hHeld ?_
                rotate_left
                · intro w hSw
                  clear hSw
                  go_simp
                  try with_reducible rfl
                try simp only [Act.put, List.setIfInBounds_toArray, List.set_cons_zero, List.set_cons_succ]
                refine wpAnyH_ready (rs := [8]) (by kernel_rfl) (by simp) ?_
                refine AllReadyH.cons (o := { dst := some 77, op := Op.call { callee := Callee.value (Operand.func 44), args := #[Operand.tmp 71, Operand.tmp 76], argTypes := #[9, 3] }, type := 3, pos := "trie.go:132", after := #[{ on := 2, ground := Ground.data }, { on := 7, ground := Ground.data }], guard := none }) rfl (fun K hK => ?_) AllReadyH.nil
                go_simp
                refine (HBIT.out _).mono ?_
                rintro e wb ⟨rfl, hwb⟩
                rw [hwb]
                clear hwb
                go_wp2_with fail
                refine hK.out _ _ (hHeld) (fun hHeld => ?_)
                clear hK K
                try simp only [Act.put, List.setIfInBounds_toArray, List.set_cons_zero, List.set_cons_succ]
                refine wpAnyH_take (i := 11) (oi := { dst := some 80, op := Op.indexAddr 74 (Operand.tmp 79) (Operand.tmp 77), type := 0, pos := "trie.go:132", after := #[{ on := 10, ground := Ground.data }, { on := 8, ground := Ground.data }], guard := none }) (v := ?_) rfl (by kernel_rfl) (by kernel_rfl) (by kernel_rfl) (fun _ _ _ h => h) (Or.inl ⟨by rfl, ?_⟩) hHeld ?_
                rotate_left
                · intro w hSw
                  clear hSw
                  go_simp
                  try with_reducible rfl
                try simp only [Act.put, List.setIfInBounds_toArray, List.set_cons_zero, List.set_cons_succ]
                refine wpAnyH_take (i := 12) (oi := { dst := some 81, op := Op.load 68 (Operand.tmp 80), type := 68, pos := "trie.go:132", after := #[{ on := 11, ground := Ground.data }], guard := none }) (v := ?_) rfl (by kernel_rfl) (by kernel_rfl) (by kernel_rfl) (fun _ _ _ h => h) (Or.inl ⟨by rfl, ?_⟩) hHeld ?_
                rotate_left
                · intro w hSw
                  obtain ⟨nd, rfl⟩ := hSw
                  obtain ⟨k0, k1, k2, k3, k4, k5, k6, k7⟩ := CellsAt.c8 ((HN11.out).drew nd)
                  obtain ⟨p0, p1, p2, p3, _⟩ := c4_at (HP11.out.drew nd)
                  go_simp
                  try with_reducible rfl
                try simp only [Act.put, List.setIfInBounds_toArray, List.set_cons_zero, List.set_cons_succ]
                refine wpAnyH_take (i := 13) (oi := { dst := some 8, op := Op.assign (Operand.tmp 81), type := 68, pos := "trie.go:132", after := #[{ on := 12, ground := Ground.data }, { on := 8, ground := Ground.chain }, { on := 0, ground := Ground.phase }, { on := 1, ground := Ground.phase }, { on := 2, ground := Ground.phase }, { on := 3, ground := Ground.phase }, { on := 4, ground := Ground.phase }, { on := 5, ground := Ground.phase }, { on := 6, ground := Ground.phase }, { on := 7, ground := Ground.phase }, { on := 8, ground := Ground.phase }, { on := 9, ground := Ground.phase }, { on := 10, ground := Ground.phase }, { on := 11, ground := Ground.phase }, { on := 12, ground := Ground.phase }], guard := none }) (v := ?_) rfl (by kernel_rfl) (by kernel_rfl) (by kernel_rfl) (fun _ _ _ h => h) (Or.inl ⟨by rfl, ?_⟩) hHeld ?_
                rotate_left
                · intro w hSw
                  clear hSw
                  go_simp
                  try with_reducible rfl
                try simp only [Act.put, List.setIfInBounds_toArray, List.set_cons_zero, List.set_cons_succ]
                refine wpAnyH_done (by kernel_rfl) ?_ _
                clear hHeld
                go_wp2_with fail
                exact ⟨⟨A2, Sl, l, hv has a v0 FV, F2, rfl, HN2.out.l, HLS, ⟨_, HGL.out.1⟩, HGX11.out.drew 1, HC11.out.drew 1, HFo10, HL2⟩, by
                  rw [HM.out]
                  exact (HN2.out.l.grownX (HGX11.out.drew 1) (fun x hx e => HCS.out (e ▸ HLS.out x hx))).wayM_lt HGL.out.1 hlen⟩
              · have hb1 := bit_one hbit
                have HBIT : Hid (∀ w, Calls Try.prog 44 #[.string p.addr, .int .i64 (a.len : Nat)] w fun e w' => e = .returned (.int .i64 1) ∧ w' = w) := fun w => by
                  have := HBB.out w
                  rw [show bitV p.addr a.len = 1 from hb1] at this
                  exact this
                have HL2 : Hid (lk p r' (hv has a v0 FV) = r.t.look p) := by
                  have := HLD.out
                  rw [if_neg hbit, HLK.out] at this
                  exact this.symm
                obtain ⟨A2, rfl⟩ := HN2.out.r.form
                clear hbit hb1
                go_wp2_with fail
                refine wp_region_held_drew (S := fun w' => ∃ nd, w' = w11.drewN nd) (by kernel_rfl) (⟨1, rfl⟩) (fun hHeld => ?_)
                refine wpAnyH_take (i := 0) (oi := { dst := some 69, op := Op.move (Operand.tmp 8), type := 68, pos := "trie.go:132", after := #[], guard := none }) (v := ?_) rfl (by kernel_rfl) (by kernel_rfl) (by kernel_rfl) (fun _ _ _ h => h) (Or.inl ⟨by rfl, ?_⟩) hHeld ?_
                rotate_left
                · intro w hSw
                  clear hSw
                  go_simp
                  try with_reducible rfl
                try simp only [Act.put, List.setIfInBounds_toArray, List.set_cons_zero, List.set_cons_succ]
                refine wpAnyH_take (i := 1) (oi := { dst := some 70, op := Op.fieldAddr 30 (Operand.tmp 4) 2, type := 0, pos := "trie.go:132", after := #[], guard := none }) (v := ?_) rfl (by kernel_rfl) (by kernel_rfl) (by kernel_rfl) (fun _ _ _ h => h) (Or.inl ⟨by rfl, ?_⟩) hHeld ?_
                rotate_left
                · intro w hSw
                  clear hSw
                  go_simp
                  try with_reducible rfl
                try simp only [Act.put, List.setIfInBounds_toArray, List.set_cons_zero, List.set_cons_succ]
                refine wpAnyH_take (i := 2) (oi := { dst := some 71, op := Op.load 9 (Operand.tmp 70), type := 9, pos := "trie.go:132", after := #[{ on := 1, ground := Ground.data }], guard := none }) (v := ?_) rfl (by kernel_rfl) (by kernel_rfl) (by kernel_rfl) (fun _ _ _ h => h) (Or.inl ⟨by rfl, ?_⟩) hHeld ?_
                rotate_left
                · intro w hSw
                  obtain ⟨nd, rfl⟩ := hSw
                  obtain ⟨k0, k1, k2, k3, k4, k5, k6, k7⟩ := CellsAt.c8 ((HN11.out).drew nd)
                  obtain ⟨p0, p1, p2, p3, _⟩ := c4_at (HP11.out.drew nd)
                  go_simp
                  try with_reducible rfl
                try simp only [Act.put, List.setIfInBounds_toArray, List.set_cons_zero, List.set_cons_succ]
                refine wpAnyH_take (i := 3) (oi := { dst := some 72, op := Op.move (Operand.tmp 8), type := 68, pos := "trie.go:132", after := #[], guard := none }) (v := ?_) rfl (by kernel_rfl) (by kernel_rfl) (by kernel_rfl) (fun _ _ _ h => h) (Or.inl ⟨by rfl, ?_⟩) hHeld ?_
                rotate_left
                · intro w hSw
                  clear hSw
                  go_simp
                  try with_reducible rfl
                try simp only [Act.put, List.setIfInBounds_toArray, List.set_cons_zero, List.set_cons_succ]
                refine wpAnyH_take (i := 4) (oi := { dst := some 73, op := Op.nilCheck (Operand.tmp 72), type := 0, pos := "trie.go:132", after := #[{ on := 3, ground := Ground.data }], guard := none }) (v := ?_) rfl (by kernel_rfl) (by kernel_rfl) (by kernel_rfl) (fun _ _ _ h => h) (Or.inl ⟨by rfl, ?_⟩) hHeld ?_
                rotate_left
                · intro w hSw
                  clear hSw
                  go_simp
                  try with_reducible rfl
                try simp only [Act.put, List.setIfInBounds_toArray, List.set_cons_zero, List.set_cons_succ]
                refine wpAnyH_take (i := 5) (oi := { dst := some 74, op := Op.fieldAddr 76 (Operand.tmp 73) 0, type := 0, pos := "trie.go:132", after := #[{ on := 4, ground := Ground.data }], guard := none }) (v := ?_) rfl (by kernel_rfl) (by kernel_rfl) (by kernel_rfl) (fun _ _ _ h => h) (Or.inl ⟨by rfl, ?_⟩) hHeld ?_
                rotate_left
                · intro w hSw
                  clear hSw
                  go_simp
                  try with_reducible rfl
                try simp only [Act.put, List.setIfInBounds_toArray, List.set_cons_zero, List.set_cons_succ]
                refine wpAnyH_take (i := 6) (oi := { dst := some 75, op := Op.fieldAddr 30 (Operand.tmp 74) 3, type := 0, pos := "trie.go:132", after := #[{ on := 5, ground := Ground.data }], guard := none }) (v := ?_) rfl (by kernel_rfl) (by kernel_rfl) (by kernel_rfl) (fun _ _ _ h => h) (Or.inl ⟨by rfl, ?_⟩) hHeld ?_
                rotate_left
                · intro w hSw
                  clear hSw
                  go_simp
                  try with_reducible rfl
                try simp only [Act.put, List.setIfInBounds_toArray, List.set_cons_zero, List.set_cons_succ]
                refine wpAnyH_take (i := 7) (oi := { dst := some 76, op := Op.load 3 (Operand.tmp 75), type := 3, pos := "trie.go:132", after := #[{ on := 6, ground := Ground.data }], guard := none }) (v := ?_) rfl (by kernel_rfl) (by kernel_rfl) (by kernel_rfl) (fun _ _ _ h => h) (Or.inl ⟨by rfl, ?_⟩) hHeld ?_
                rotate_left
                · intro w hSw
                  obtain ⟨nd, rfl⟩ := hSw
                  obtain ⟨k0, k1, k2, k3, k4, k5, k6, k7⟩ := CellsAt.c8 ((HN11.out).drew nd)
                  obtain ⟨p0, p1, p2, p3, _⟩ := c4_at (HP11.out.drew nd)
                  go_simp
                  try with_reducible rfl
                try simp only [Act.put, List.setIfInBounds_toArray, List.set_cons_zero, List.set_cons_succ]
                refine wpAnyH_take (i := 9) (oi := { dst := some 78, op := Op.nilCheck (Operand.tmp 69), type := 0, pos := "trie.go:132", after := #[{ on := 0, ground := Ground.data }], guard := none }) (v := ?_) rfl (by kernel_rfl) (by kernel_rfl) (by kernel_rfl) (fun _ _ _ h => h) (Or.inl ⟨by rfl, ?_⟩) hHeld ?_
                rotate_left
                · intro w hSw
                  clear hSw
                  go_simp
                  try with_reducible rfl
                try simp only [Act.put, List.setIfInBounds_toArray, List.set_cons_zero, List.set_cons_succ]
                refine wpAnyH_take (i := 10) (oi := { dst := some 79, op := Op.fieldAddr 76 (Operand.tmp 78) 3, type := 0, pos := "trie.go:132", after := #[{ on := 9, ground := Ground.data }], guard := none }) (v := ?_) rfl (by kernel_rfl) (by kernel_rfl) (by kernel_rfl) (fun _ _ _ h => h) (Or.inl ⟨by rfl, ?_⟩) hHeld ?_
                rotate_left
                · intro w hSw
                  clear hSw
                  go_simp
                  try with_reducible rfl
                try simp only [Act.put, List.setIfInBounds_toArray, List.set_cons_zero, List.set_cons_succ]
                refine wpAnyH_ready (rs := [8]) (by kernel_rfl) (by simp) ?_
                refine AllReadyH.cons (o := { dst := some 77, op := Op.call { callee := Callee.value (Operand.func 44), args := #[Operand.tmp 71, Operand.tmp 76], argTypes := #[9, 3] }, type := 3, pos := "trie.go:132", after := #[{ on := 2, ground := Ground.data }, { on := 7, ground := Ground.data }], guard := none }) rfl (fun K hK => ?_) AllReadyH.nil
                go_simp
                refine (HBIT.out _).mono ?_
                rintro e wb ⟨rfl, hwb⟩
                rw [hwb]
                clear hwb
                go_wp2_with fail
                refine hK.out _ _ (hHeld) (fun hHeld => ?_)
                clear hK K
                try simp only [Act.put, List.setIfInBounds_toArray, List.set_cons_zero, List.set_cons_succ]
                refine wpAnyH_take (i := 11) (oi := { dst := some 80, op := Op.indexAddr 74 (Operand.tmp 79) (Operand.tmp 77), type := 0, pos := "trie.go:132", after := #[{ on := 10, ground := Ground.data }, { on := 8, ground := Ground.data }], guard := none }) (v := ?_) rfl (by kernel_rfl) (by kernel_rfl) (by kernel_rfl) (fun _ _ _ h => h) (Or.inl ⟨by rfl, ?_⟩) hHeld ?_
                rotate_left
                · intro w hSw
                  clear hSw
                  go_simp
                  try with_reducible rfl
                try simp only [Act.put, List.setIfInBounds_toArray, List.set_cons_zero, List.set_cons_succ]
                refine wpAnyH_take (i := 12) (oi := { dst := some 81, op := Op.load 68 (Operand.tmp 80), type := 68, pos := "trie.go:132", after := #[{ on := 11, ground := Ground.data }], guard := none }) (v := ?_) rfl (by kernel_rfl) (by kernel_rfl) (by kernel_rfl) (fun _ _ _ h => h) (Or.inl ⟨by rfl, ?_⟩) hHeld ?_
                rotate_left
                · intro w hSw
                  obtain ⟨nd, rfl⟩ := hSw
                  obtain ⟨k0, k1, k2, k3, k4, k5, k6, k7⟩ := CellsAt.c8 ((HN11.out).drew nd)
                  obtain ⟨p0, p1, p2, p3, _⟩ := c4_at (HP11.out.drew nd)
                  go_simp
                  try with_reducible rfl
                try simp only [Act.put, List.setIfInBounds_toArray, List.set_cons_zero, List.set_cons_succ]
                refine wpAnyH_take (i := 13) (oi := { dst := some 8, op := Op.assign (Operand.tmp 81), type := 68, pos := "trie.go:132", after := #[{ on := 12, ground := Ground.data }, { on := 8, ground := Ground.chain }, { on := 0, ground := Ground.phase }, { on := 1, ground := Ground.phase }, { on := 2, ground := Ground.phase }, { on := 3, ground := Ground.phase }, { on := 4, ground := Ground.phase }, { on := 5, ground := Ground.phase }, { on := 6, ground := Ground.phase }, { on := 7, ground := Ground.phase }, { on := 8, ground := Ground.phase }, { on := 9, ground := Ground.phase }, { on := 10, ground := Ground.phase }, { on := 11, ground := Ground.phase }, { on := 12, ground := Ground.phase }], guard := none }) (v := ?_) rfl (by kernel_rfl) (by kernel_rfl) (by kernel_rfl) (fun _ _ _ h => h) (Or.inl ⟨by rfl, ?_⟩) hHeld ?_
                rotate_left
                · intro w hSw
                  clear hSw
                  go_simp
                  try with_reducible rfl
                try simp only [Act.put, List.setIfInBounds_toArray, List.set_cons_zero, List.set_cons_succ]
                refine wpAnyH_done (by kernel_rfl) ?_ _
                clear hHeld
                go_wp2_with fail
                exact ⟨⟨A2, Sr, r', hv has a v0 FV, F2, rfl, HN2.out.r, HRS, ⟨_, HGL.out.2⟩, HGX11.out.drew 1, HC11.out.drew 1, HFo10, HL2⟩, by
                  rw [HM.out]
                  exact (HN2.out.r.grownX (HGX11.out.drew 1) (fun x hx e => HCS.out (e ▸ HRS.out x hx))).wayM_lt HGL.out.2 hlen⟩
          · have HLE : Hid (lk p (.node a has v0 l r') FV = FV) := lk_off hk
            have e1 : (((cmN a p : Nat) : Int) == (a.len : Int)) = false := by rw [beq_eq_false_iff_ne]; omega
            clear hk
            generalize HKK : cmN a p = K at e1
            have HCMA := Lib.hid (fun w => HCM.out a w HAO.out HAF.out)
            rw [HKK] at HCMA
            clear HKK
            go_wp2_with fail
            refine wp_region_held_drew (S := fun w' => Below wr.heap.size wr w') (by kernel_rfl) (below_drewN (Below.refl _ _) 1) (fun hHeld => ?_)
            refine wpAnyH_take (i := 0) (oi := { dst := some 32, op := Op.move (Operand.tmp 8), type := 68, pos := "trie.go:127", after := #[], guard := none }) (v := ?_) rfl (by kernel_rfl) (by kernel_rfl) (by kernel_rfl) (fun _ _ _ h => h) (Or.inl ⟨by rfl, ?_⟩) hHeld ?_
            rotate_left
            · intro w hSw
              clear hSw
              go_simp
              try with_reducible rfl
            try simp only [Act.put, List.setIfInBounds_toArray, List.set_cons_zero, List.set_cons_succ]
            refine wpAnyH_take (i := 1) (oi := { dst := some 33, op := Op.binOp BinOp.neq 68 (Operand.tmp 32) (Operand.const (Value.pointer none)) 68, type := 4, pos := "trie.go:127", after := #[{ on := 0, ground := Ground.data }], guard := none }) (v := ?_) rfl (by kernel_rfl) (by kernel_rfl) (by kernel_rfl) (fun _ _ _ h => h) (Or.inl ⟨by rfl, ?_⟩) hHeld ?_
            rotate_left
            · intro w hSw
              clear hSw
              go_simp
              try with_reducible rfl
            try simp only [Act.put, List.setIfInBounds_toArray, List.set_cons_zero, List.set_cons_succ]
            refine wpAnyH_take (i := 2) (oi := { dst := some 34, op := Op.move (Operand.tmp 33), type := 4, pos := "trie.go:127", after := #[{ on := 1, ground := Ground.data }], guard := none }) (v := ?_) rfl (by kernel_rfl) (by kernel_rfl) (by kernel_rfl) (fun _ _ _ h => h) (Or.inl ⟨by rfl, ?_⟩) hHeld ?_
            rotate_left
            · intro w hSw
              clear hSw
              go_simp
              try with_reducible rfl
            try simp only [Act.put, List.setIfInBounds_toArray, List.set_cons_zero, List.set_cons_succ]
            refine wpAnyH_take (i := 3) (oi := { dst := some 35, op := Op.move (Operand.tmp 8), type := 68, pos := "trie.go:127", after := #[{ on := 2, ground := Ground.guard }], guard := some (2, true) }) (v := ?_) rfl (by kernel_rfl) (by kernel_rfl) (by kernel_rfl) (fun _ _ _ h => h) (Or.inl ⟨by rfl, ?_⟩) hHeld ?_
            rotate_left
            · intro w hSw
              clear hSw
              go_simp
              try with_reducible rfl
            try simp only [Act.put, List.setIfInBounds_toArray, List.set_cons_zero, List.set_cons_succ]
            refine wpAnyH_take (i := 4) (oi := { dst := some 36, op := Op.nilCheck (Operand.tmp 35), type := 0, pos := "trie.go:127", after := #[{ on := 3, ground := Ground.data }, { on := 2, ground := Ground.guard }], guard := some (2, true) }) (v := ?_) rfl (by kernel_rfl) (by kernel_rfl) (by kernel_rfl) (fun _ _ _ h => h) (Or.inl ⟨by rfl, ?_⟩) hHeld ?_
            rotate_left
            · intro w hSw
              clear hSw
              go_simp
              try with_reducible rfl
            try simp only [Act.put, List.setIfInBounds_toArray, List.set_cons_zero, List.set_cons_succ]
            refine wpAnyH_take (i := 5) (oi := { dst := some 37, op := Op.fieldAddr 76 (Operand.tmp 36) 0, type := 0, pos := "trie.go:127", after := #[{ on := 4, ground := Ground.data }, { on := 2, ground := Ground.guard }], guard := some (2, true) }) (v := ?_) rfl (by kernel_rfl) (by kernel_rfl) (by kernel_rfl) (fun _ _ _ h => h) (Or.inl ⟨by rfl, ?_⟩) hHeld ?_
            rotate_left
            · intro w hSw
              clear hSw
              go_simp
              try with_reducible rfl
            try simp only [Act.put, List.setIfInBounds_toArray, List.set_cons_zero, List.set_cons_succ]
            refine wpAnyH_take (i := 6) (oi := { dst := some 38, op := Op.fieldAddr 30 (Operand.tmp 37) 3, type := 0, pos := "trie.go:127", after := #[{ on := 5, ground := Ground.data }, { on := 2, ground := Ground.guard }], guard := some (2, true) }) (v := ?_) rfl (by kernel_rfl) (by kernel_rfl) (by kernel_rfl) (fun _ _ _ h => h) (Or.inl ⟨by rfl, ?_⟩) hHeld ?_
            rotate_left
            · intro w hSw
              clear hSw
              go_simp
              try with_reducible rfl
            try simp only [Act.put, List.setIfInBounds_toArray, List.set_cons_zero, List.set_cons_succ]
            refine wpAnyH_take (i := 7) (oi := { dst := some 39, op := Op.load 3 (Operand.tmp 38), type := 3, pos := "trie.go:127", after := #[{ on := 6, ground := Ground.data }, { on := 2, ground := Ground.guard }], guard := some (2, true) }) (v := ?_) rfl (by kernel_rfl) (by kernel_rfl) (by kernel_rfl) (fun _ _ _ h => h) (Or.inl ⟨by rfl, ?_⟩) hHeld ?_
            rotate_left
            · intro w hSw
              obtain ⟨k0, k1, k2, k3, _⟩ := CellsAt.c8 (HNr.out.below hSw HNr.out.lt)
              obtain ⟨p0, p1, p2, p3, _⟩ := c4_at (HPr.out.below hSw HPr.out.lt)
              go_simp
              try with_reducible rfl
            try simp only [Act.put, List.setIfInBounds_toArray, List.set_cons_zero, List.set_cons_succ]
            refine wpAnyH_take (i := 8) (oi := { dst := some 40, op := Op.fieldAddr 30 (Operand.tmp 4) 3, type := 0, pos := "trie.go:127", after := #[{ on := 2, ground := Ground.guard }], guard := some (2, true) }) (v := ?_) rfl (by kernel_rfl) (by kernel_rfl) (by kernel_rfl) (fun _ _ _ h => h) (Or.inl ⟨by rfl, ?_⟩) hHeld ?_
            rotate_left
            · intro w hSw
              clear hSw
              go_simp
              try with_reducible rfl
            try simp only [Act.put, List.setIfInBounds_toArray, List.set_cons_zero, List.set_cons_succ]
            refine wpAnyH_take (i := 9) (oi := { dst := some 41, op := Op.load 3 (Operand.tmp 40), type := 3, pos := "trie.go:127", after := #[{ on := 8, ground := Ground.data }, { on := 2, ground := Ground.guard }], guard := some (2, true) }) (v := ?_) rfl (by kernel_rfl) (by kernel_rfl) (by kernel_rfl) (fun _ _ _ h => h) (Or.inl ⟨by rfl, ?_⟩) hHeld ?_
            rotate_left
            · intro w hSw
              obtain ⟨k0, k1, k2, k3, _⟩ := CellsAt.c8 (HNr.out.below hSw HNr.out.lt)
              obtain ⟨p0, p1, p2, p3, _⟩ := c4_at (HPr.out.below hSw HPr.out.lt)
              go_simp
              try with_reducible rfl
            try simp only [Act.put, List.setIfInBounds_toArray, List.set_cons_zero, List.set_cons_succ]
            refine wpAnyH_take (i := 10) (oi := { dst := some 42, op := Op.binOp BinOp.leq 3 (Operand.tmp 39) (Operand.tmp 41) 3, type := 4, pos := "trie.go:127", after := #[{ on := 7, ground := Ground.data }, { on := 9, ground := Ground.data }, { on := 2, ground := Ground.guard }], guard := some (2, true) }) (v := ?_) rfl (by kernel_rfl) (by kernel_rfl) (by kernel_rfl) (fun _ _ _ h => h) (Or.inl ⟨by rfl, ?_⟩) hHeld ?_
            rotate_left
            · intro w hSw
              clear hSw
              go_simp
              try with_reducible rfl
            try simp only [Act.put, List.setIfInBounds_toArray, List.set_cons_zero, List.set_cons_succ]
            refine wpAnyH_take (i := 11) (oi := { dst := some 43, op := Op.pick (Operand.tmp 34) (Operand.tmp 42) (Operand.const (Value.bool false)), type := 4, pos := "trie.go:127", after := #[{ on := 2, ground := Ground.data }, { on := 10, ground := Ground.data }], guard := none }) (v := ?_) rfl (by kernel_rfl) (by kernel_rfl) (by kernel_rfl) (fun _ _ _ h => h) (Or.inl ⟨by rfl, ?_⟩) hHeld ?_
            rotate_left
            · intro w hSw
              clear hSw
              go_simp
              try with_reducible rfl
            try simp only [Act.put, List.setIfInBounds_toArray, List.set_cons_zero, List.set_cons_succ]
            refine wpAnyH_take (i := 12) (oi := { dst := some 44, op := Op.move (Operand.tmp 43), type := 4, pos := "trie.go:127", after := #[{ on := 11, ground := Ground.data }, { on := 2, ground := Ground.chain }], guard := none }) (v := ?_) rfl (by kernel_rfl) (by kernel_rfl) (by kernel_rfl) (fun _ _ _ h => h) (Or.inl ⟨by rfl, ?_⟩) hHeld ?_
            rotate_left
            · intro w hSw
              clear hSw
              go_simp
              try with_reducible rfl
            try simp only [Act.put, List.setIfInBounds_toArray, List.set_cons_zero, List.set_cons_succ]
            refine wpAnyH_take (i := 13) (oi := { dst := some 45, op := Op.move (Operand.tmp 8), type := 68, pos := "trie.go:127", after := #[{ on := 12, ground := Ground.guard }], guard := some (12, true) }) (v := ?_) rfl (by kernel_rfl) (by kernel_rfl) (by kernel_rfl) (fun _ _ _ h => h) (Or.inl ⟨by rfl, ?_⟩) hHeld ?_
            rotate_left
            · intro w hSw
              clear hSw
              go_simp
              try with_reducible rfl
            try simp only [Act.put, List.setIfInBounds_toArray, List.set_cons_zero, List.set_cons_succ]
            refine wpAnyH_take (i := 14) (oi := { dst := some 46, op := Op.nilCheck (Operand.tmp 45), type := 0, pos := "trie.go:127", after := #[{ on := 13, ground := Ground.data }, { on := 12, ground := Ground.guard }], guard := some (12, true) }) (v := ?_) rfl (by kernel_rfl) (by kernel_rfl) (by kernel_rfl) (fun _ _ _ h => h) (Or.inl ⟨by rfl, ?_⟩) hHeld ?_
            rotate_left
            · intro w hSw
              clear hSw
              go_simp
              try with_reducible rfl
            try simp only [Act.put, List.setIfInBounds_toArray, List.set_cons_zero, List.set_cons_succ]
            refine wpAnyH_take (i := 15) (oi := { dst := some 47, op := Op.fieldAddr 76 (Operand.tmp 46) 0, type := 0, pos := "trie.go:127", after := #[{ on := 14, ground := Ground.data }, { on := 12, ground := Ground.guard }], guard := some (12, true) }) (v := ?_) rfl (by kernel_rfl) (by kernel_rfl) (by kernel_rfl) (fun _ _ _ h => h) (Or.inl ⟨by rfl, ?_⟩) hHeld ?_
            rotate_left
            · intro w hSw
              clear hSw
              go_simp
              try with_reducible rfl
            try simp only [Act.put, List.setIfInBounds_toArray, List.set_cons_zero, List.set_cons_succ]
            refine wpAnyH_take (i := 16) (oi := { dst := some 48, op := Op.load 30 (Operand.tmp 47), type := 30, pos := "trie.go:127", after := #[{ on := 15, ground := Ground.data }, { on := 12, ground := Ground.guard }], guard := some (12, true) }) (v := ?_) rfl (by kernel_rfl) (by kernel_rfl) (by kernel_rfl) (fun _ _ _ h => h) (Or.inl ⟨by rfl, ?_⟩) hHeld ?_
            rotate_left
            · intro w hSw
              obtain ⟨k0, k1, k2, k3, _⟩ := CellsAt.c8 (HNr.out.below hSw HNr.out.lt)
              obtain ⟨p0, p1, p2, p3, _⟩ := c4_at (HPr.out.below hSw HPr.out.lt)
              go_simp
              try with_reducible rfl
            try simp only [Act.put, List.setIfInBounds_toArray, List.set_cons_zero, List.set_cons_succ]
            refine wpAnyH_take (i := 17) (oi := { dst := some 49, op := Op.load 30 (Operand.tmp 4), type := 30, pos := "trie.go:127", after := #[{ on := 12, ground := Ground.guard }], guard := some (12, true) }) (v := ?_) rfl (by kernel_rfl) (by kernel_rfl) (by kernel_rfl) (fun _ _ _ h => h) (Or.inl ⟨by rfl, ?_⟩) hHeld ?_
            rotate_left
            · intro w hSw
              obtain ⟨k0, k1, k2, k3, _⟩ := CellsAt.c8 (HNr.out.below hSw HNr.out.lt)
              obtain ⟨p0, p1, p2, p3, _⟩ := c4_at (HPr.out.below hSw HPr.out.lt)
              go_simp
              try with_reducible rfl
            try simp only [Act.put, List.setIfInBounds_toArray, List.set_cons_zero, List.set_cons_succ]
            refine wpAnyH_take (i := 19) (oi := { dst := some 51, op := Op.move (Operand.tmp 8), type := 68, pos := "trie.go:127", after := #[{ on := 12, ground := Ground.guard }], guard := some (12, true) }) (v := ?_) rfl (by kernel_rfl) (by kernel_rfl) (by kernel_rfl) (fun _ _ _ h => h) (Or.inl ⟨by rfl, ?_⟩) hHeld ?_
            rotate_left
            · intro w hSw
              clear hSw
              go_simp
              try with_reducible rfl
            try simp only [Act.put, List.setIfInBounds_toArray, List.set_cons_zero, List.set_cons_succ]
            refine wpAnyH_take (i := 20) (oi := { dst := some 52, op := Op.nilCheck (Operand.tmp 51), type := 0, pos := "trie.go:127", after := #[{ on := 19, ground := Ground.data }, { on := 12, ground := Ground.guard }], guard := some (12, true) }) (v := ?_) rfl (by kernel_rfl) (by kernel_rfl) (by kernel_rfl) (fun _ _ _ h => h) (Or.inl ⟨by rfl, ?_⟩) hHeld ?_
            rotate_left
            · intro w hSw
              clear hSw
              go_simp
              try with_reducible rfl
            try simp only [Act.put, List.setIfInBounds_toArray, List.set_cons_zero, List.set_cons_succ]
            refine wpAnyH_take (i := 21) (oi := { dst := some 53, op := Op.fieldAddr 76 (Operand.tmp 52) 0, type := 0, pos := "trie.go:127", after := #[{ on := 20, ground := Ground.data }, { on := 12, ground := Ground.guard }], guard := some (12, true) }) (v := ?_) rfl (by kernel_rfl) (by kernel_rfl) (by kernel_rfl) (fun _ _ _ h => h) (Or.inl ⟨by rfl, ?_⟩) hHeld ?_
            rotate_left
            · intro w hSw
              clear hSw
              go_simp
              try with_reducible rfl
            try simp only [Act.put, List.setIfInBounds_toArray, List.set_cons_zero, List.set_cons_succ]
            refine wpAnyH_take (i := 22) (oi := { dst := some 54, op := Op.fieldAddr 30 (Operand.tmp 53) 3, type := 0, pos := "trie.go:127", after := #[{ on := 21, ground := Ground.data }, { on := 12, ground := Ground.guard }], guard := some (12, true) }) (v := ?_) rfl (by kernel_rfl) (by kernel_rfl) (by kernel_rfl) (fun _ _ _ h => h) (Or.inl ⟨by rfl, ?_⟩) hHeld ?_
            rotate_left
            · intro w hSw
              clear hSw
              go_simp
              try with_reducible rfl
            try simp only [Act.put, List.setIfInBounds_toArray, List.set_cons_zero, List.set_cons_succ]
            refine wpAnyH_take (i := 23) (oi := { dst := some 55, op := Op.load 3 (Operand.tmp 54), type := 3, pos := "trie.go:127", after := #[{ on := 22, ground := Ground.data }, { on := 12, ground := Ground.guard }], guard := some (12, true) }) (v := ?_) rfl (by kernel_rfl) (by kernel_rfl) (by kernel_rfl) (fun _ _ _ h => h) (Or.inl ⟨by rfl, ?_⟩) hHeld ?_
            rotate_left
            · intro w hSw
              obtain ⟨k0, k1, k2, k3, _⟩ := CellsAt.c8 (HNr.out.below hSw HNr.out.lt)
              obtain ⟨p0, p1, p2, p3, _⟩ := c4_at (HPr.out.below hSw HPr.out.lt)
              go_simp
              try with_reducible rfl
            try simp only [Act.put, List.setIfInBounds_toArray, List.set_cons_zero, List.set_cons_succ]
            refine wpAnyH_ready (rs := [18]) (by kernel_rfl) (by simp) ?_
            refine AllReadyH.cons (o := { dst := some 50, op := Op.call { callee := Callee.value (Operand.func 43), args := #[Operand.tmp 48, Operand.tmp 49], argTypes := #[30, 30] }, type := 3, pos := "trie.go:127", after := #[{ on := 16, ground := Ground.data }, { on := 17, ground := Ground.data }, { on := 12, ground := Ground.chain }, { on := 12, ground := Ground.guard }], guard := some (12, true) }) rfl (fun K hK => ?_) AllReadyH.nil
            go_simp
            refine (HCMA.out _).mono ?_
            rintro e w9 ⟨rfl, hb9⟩
            go_wp2_with fail
            refine hK.out _ _ (hHeld.trans (hb9.mono hHeld.size)) (fun hHeld => ?_)
            clear hK K
            try simp only [Act.put, List.setIfInBounds_toArray, List.set_cons_zero, List.set_cons_succ]
            refine wpAnyH_take (i := 24) (oi := { dst := some 56, op := Op.binOp BinOp.eql 3 (Operand.tmp 50) (Operand.tmp 55) 3, type := 4, pos := "trie.go:127", after := #[{ on := 18, ground := Ground.data }, { on := 23, ground := Ground.data }, { on := 12, ground := Ground.guard }], guard := some (12, true) }) (v := ?_) rfl (by kernel_rfl) (by kernel_rfl) (by kernel_rfl) (fun _ _ _ h => h) (Or.inl ⟨by rfl, ?_⟩) hHeld ?_
            rotate_left
            · intro w hSw
              clear hSw
              go_simp
              try with_reducible rfl
            try simp only [Act.put, List.setIfInBounds_toArray, List.set_cons_zero, List.set_cons_succ]
            refine wpAnyH_take (i := 25) (oi := { dst := some 57, op := Op.pick (Operand.tmp 44) (Operand.tmp 56) (Operand.const (Value.bool false)), type := 4, pos := "trie.go:127", after := #[{ on := 12, ground := Ground.data }, { on := 24, ground := Ground.data }], guard := none }) (v := ?_) rfl (by kernel_rfl) (by kernel_rfl) (by kernel_rfl) (fun _ _ _ h => h) (Or.inl ⟨by rfl, ?_⟩) hHeld ?_
            rotate_left
            · intro w hSw
              clear hSw
              go_simp
              try with_reducible rfl
            try simp only [Act.put, List.setIfInBounds_toArray, List.set_cons_zero, List.set_cons_succ]
            refine wpAnyH_done (by kernel_rfl) ?_ _
            have HB9 : Hid (Below wr.heap.size wr w9) := hHeld
            clear hHeld hb9
            go_wp2_with fail
            go_end0
            exact ⟨rfl, (GrownX.of_below HB2.out).trans (HGX.out.trans (GrownX.of_below HB9.out)), F, FV, HCr.out.below HB9.out HCr.out.lt, (HFo.out.1.grownX HGX.out (fun b hb e => HCS.out (e ▸ HFo.out.2 b hb))).below_ HB9.out, by rw [← HLK.out, HLE.out] at HL; exact HL.out⟩
        · have HLE : Hid (lk p (.node a has v0 l r') FV = FV) := lk_off (fun e => by
            have := (cmN_spec a p).2.1
            omega)
          have hlei : (p.len : Int) < (a.len : Int) := by omega
          have e1 : decide ((a.len : Int) ≤ (p.len : Int)) = false := decide_eq_false (by omega)
          clear hlen
          go_wp2_with fail
          refine wp_region_held_drew (S := fun w' => Below wr.heap.size wr w') (by kernel_rfl) (below_drewN (Below.refl _ _) 1) (fun hHeld => ?_)
          refine wpAnyH_take (i := 0) (oi := { dst := some 32, op := Op.move (Operand.tmp 8), type := 68, pos := "trie.go:127", after := #[], guard := none }) (v := ?_) rfl (by kernel_rfl) (by kernel_rfl) (by kernel_rfl) (fun _ _ _ h => h) (Or.inl ⟨by rfl, ?_⟩) hHeld ?_
          rotate_left
          · intro w hSw
            clear hSw
            go_simp
            try with_reducible rfl
          try simp only [Act.put, List.setIfInBounds_toArray, List.set_cons_zero, List.set_cons_succ]
          refine wpAnyH_take (i := 1) (oi := { dst := some 33, op := Op.binOp BinOp.neq 68 (Operand.tmp 32) (Operand.const (Value.pointer none)) 68, type := 4, pos := "trie.go:127", after := #[{ on := 0, ground := Ground.data }], guard := none }) (v := ?_) rfl (by kernel_rfl) (by kernel_rfl) (by kernel_rfl) (fun _ _ _ h => h) (Or.inl ⟨by rfl, ?_⟩) hHeld ?_
          rotate_left
          · intro w hSw
            clear hSw
            go_simp
            try with_reducible rfl
          try simp only [Act.put, List.setIfInBounds_toArray, List.set_cons_zero, List.set_cons_succ]
          refine wpAnyH_take (i := 2) (oi := { dst := some 34, op := Op.move (Operand.tmp 33), type := 4, pos := "trie.go:127", after := #[{ on := 1, ground := Ground.data }], guard := none }) (v := ?_) rfl (by kernel_rfl) (by kernel_rfl) (by kernel_rfl) (fun _ _ _ h => h) (Or.inl ⟨by rfl, ?_⟩) hHeld ?_
          rotate_left
          · intro w hSw
            clear hSw
            go_simp
            try with_reducible rfl
          try simp only [Act.put, List.setIfInBounds_toArray, List.set_cons_zero, List.set_cons_succ]
          refine wpAnyH_take (i := 3) (oi := { dst := some 35, op := Op.move (Operand.tmp 8), type := 68, pos := "trie.go:127", after := #[{ on := 2, ground := Ground.guard }], guard := some (2, true) }) (v := ?_) rfl (by kernel_rfl) (by kernel_rfl) (by kernel_rfl) (fun _ _ _ h => h) (Or.inl ⟨by rfl, ?_⟩) hHeld ?_
          rotate_left
          · intro w hSw
            clear hSw
            go_simp
            try with_reducible rfl
          try simp only [Act.put, List.setIfInBounds_toArray, List.set_cons_zero, List.set_cons_succ]
          refine wpAnyH_take (i := 4) (oi := { dst := some 36, op := Op.nilCheck (Operand.tmp 35), type := 0, pos := "trie.go:127", after := #[{ on := 3, ground := Ground.data }, { on := 2, ground := Ground.guard }], guard := some (2, true) }) (v := ?_) rfl (by kernel_rfl) (by kernel_rfl) (by kernel_rfl) (fun _ _ _ h => h) (Or.inl ⟨by rfl, ?_⟩) hHeld ?_
          rotate_left
          · intro w hSw
            clear hSw
            go_simp
            try with_reducible rfl
          try simp only [Act.put, List.setIfInBounds_toArray, List.set_cons_zero, List.set_cons_succ]
          refine wpAnyH_take (i := 5) (oi := { dst := some 37, op := Op.fieldAddr 76 (Operand.tmp 36) 0, type := 0, pos := "trie.go:127", after := #[{ on := 4, ground := Ground.data }, { on := 2, ground := Ground.guard }], guard := some (2, true) }) (v := ?_) rfl (by kernel_rfl) (by kernel_rfl) (by kernel_rfl) (fun _ _ _ h => h) (Or.inl ⟨by rfl, ?_⟩) hHeld ?_
          rotate_left
          · intro w hSw
            clear hSw
            go_simp
            try with_reducible rfl
          try simp only [Act.put, List.setIfInBounds_toArray, List.set_cons_zero, List.set_cons_succ]
          refine wpAnyH_take (i := 6) (oi := { dst := some 38, op := Op.fieldAddr 30 (Operand.tmp 37) 3, type := 0, pos := "trie.go:127", after := #[{ on := 5, ground := Ground.data }, { on := 2, ground := Ground.guard }], guard := some (2, true) }) (v := ?_) rfl (by kernel_rfl) (by kernel_rfl) (by kernel_rfl) (fun _ _ _ h => h) (Or.inl ⟨by rfl, ?_⟩) hHeld ?_
          rotate_left
          · intro w hSw
            clear hSw
            go_simp
            try with_reducible rfl
          try simp only [Act.put, List.setIfInBounds_toArray, List.set_cons_zero, List.set_cons_succ]
          refine wpAnyH_take (i := 7) (oi := { dst := some 39, op := Op.load 3 (Operand.tmp 38), type := 3, pos := "trie.go:127", after := #[{ on := 6, ground := Ground.data }, { on := 2, ground := Ground.guard }], guard := some (2, true) }) (v := ?_) rfl (by kernel_rfl) (by kernel_rfl) (by kernel_rfl) (fun _ _ _ h => h) (Or.inl ⟨by rfl, ?_⟩) hHeld ?_
          rotate_left
          · intro w hSw
            obtain ⟨k0, k1, k2, k3, _⟩ := CellsAt.c8 (HNr.out.below hSw HNr.out.lt)
            obtain ⟨p0, p1, p2, p3, _⟩ := c4_at (HPr.out.below hSw HPr.out.lt)
            go_simp
            try with_reducible rfl
          try simp only [Act.put, List.setIfInBounds_toArray, List.set_cons_zero, List.set_cons_succ]
          refine wpAnyH_take (i := 8) (oi := { dst := some 40, op := Op.fieldAddr 30 (Operand.tmp 4) 3, type := 0, pos := "trie.go:127", after := #[{ on := 2, ground := Ground.guard }], guard := some (2, true) }) (v := ?_) rfl (by kernel_rfl) (by kernel_rfl) (by kernel_rfl) (fun _ _ _ h => h) (Or.inl ⟨by rfl, ?_⟩) hHeld ?_
          rotate_left
          · intro w hSw
            clear hSw
            go_simp
            try with_reducible rfl
          try simp only [Act.put, List.setIfInBounds_toArray, List.set_cons_zero, List.set_cons_succ]
          refine wpAnyH_take (i := 9) (oi := { dst := some 41, op := Op.load 3 (Operand.tmp 40), type := 3, pos := "trie.go:127", after := #[{ on := 8, ground := Ground.data }, { on := 2, ground := Ground.guard }], guard := some (2, true) }) (v := ?_) rfl (by kernel_rfl) (by kernel_rfl) (by kernel_rfl) (fun _ _ _ h => h) (Or.inl ⟨by rfl, ?_⟩) hHeld ?_
          rotate_left
          · intro w hSw
            obtain ⟨k0, k1, k2, k3, _⟩ := CellsAt.c8 (HNr.out.below hSw HNr.out.lt)
            obtain ⟨p0, p1, p2, p3, _⟩ := c4_at (HPr.out.below hSw HPr.out.lt)
            go_simp
            try with_reducible rfl
          try simp only [Act.put, List.setIfInBounds_toArray, List.set_cons_zero, List.set_cons_succ]
          refine wpAnyH_take (i := 10) (oi := { dst := some 42, op := Op.binOp BinOp.leq 3 (Operand.tmp 39) (Operand.tmp 41) 3, type := 4, pos := "trie.go:127", after := #[{ on := 7, ground := Ground.data }, { on := 9, ground := Ground.data }, { on := 2, ground := Ground.guard }], guard := some (2, true) }) (v := .bool false) rfl (by kernel_rfl) (by kernel_rfl) (by kernel_rfl) (fun _ _ _ h => h) (Or.inl ⟨by rfl, ?_⟩) hHeld ?_
          · intro w hSw
            clear hSw
            go_simp
            try (first | exact e1 | (simp; omega) | omega)
          try simp only [Act.put, List.setIfInBounds_toArray, List.set_cons_zero, List.set_cons_succ]
          refine wpAnyH_take (i := 11) (oi := { dst := some 43, op := Op.pick (Operand.tmp 34) (Operand.tmp 42) (Operand.const (Value.bool false)), type := 4, pos := "trie.go:127", after := #[{ on := 2, ground := Ground.data }, { on := 10, ground := Ground.data }], guard := none }) (v := ?_) rfl (by kernel_rfl) (by kernel_rfl) (by kernel_rfl) (fun _ _ _ h => h) (Or.inl ⟨by rfl, ?_⟩) hHeld ?_
          rotate_left
          · intro w hSw
            clear hSw
            go_simp
            try with_reducible rfl
          try simp only [Act.put, List.setIfInBounds_toArray, List.set_cons_zero, List.set_cons_succ]
          refine wpAnyH_take (i := 12) (oi := { dst := some 44, op := Op.move (Operand.tmp 43), type := 4, pos := "trie.go:127", after := #[{ on := 11, ground := Ground.data }, { on := 2, ground := Ground.chain }], guard := none }) (v := ?_) rfl (by kernel_rfl) (by kernel_rfl) (by kernel_rfl) (fun _ _ _ h => h) (Or.inl ⟨by rfl, ?_⟩) hHeld ?_
          rotate_left
          · intro w hSw
            clear hSw
            go_simp
            try with_reducible rfl
          try simp only [Act.put, List.setIfInBounds_toArray, List.set_cons_zero, List.set_cons_succ]
          refine wpAnyH_take (i := 13) (oi := { dst := some 45, op := Op.move (Operand.tmp 8), type := 68, pos := "trie.go:127", after := #[{ on := 12, ground := Ground.guard }], guard := some (12, true) }) (v := undef) rfl (by kernel_rfl) (by kernel_rfl) (by kernel_rfl) (fun _ _ _ h => h) (Or.inr ⟨by rfl, rfl⟩) hHeld ?_
          try simp only [Act.put, List.setIfInBounds_toArray, List.set_cons_zero, List.set_cons_succ]
          refine wpAnyH_take (i := 14) (oi := { dst := some 46, op := Op.nilCheck (Operand.tmp 45), type := 0, pos := "trie.go:127", after := #[{ on := 13, ground := Ground.data }, { on := 12, ground := Ground.guard }], guard := some (12, true) }) (v := undef) rfl (by kernel_rfl) (by kernel_rfl) (by kernel_rfl) (fun _ _ _ h => h) (Or.inr ⟨by rfl, rfl⟩) hHeld ?_
          try simp only [Act.put, List.setIfInBounds_toArray, List.set_cons_zero, List.set_cons_succ]
          refine wpAnyH_take (i := 15) (oi := { dst := some 47, op := Op.fieldAddr 76 (Operand.tmp 46) 0, type := 0, pos := "trie.go:127", after := #[{ on := 14, ground := Ground.data }, { on := 12, ground := Ground.guard }], guard := some (12, true) }) (v := undef) rfl (by kernel_rfl) (by kernel_rfl) (by kernel_rfl) (fun _ _ _ h => h) (Or.inr ⟨by rfl, rfl⟩) hHeld ?_
          try simp only [Act.put, List.setIfInBounds_toArray, List.set_cons_zero, List.set_cons_succ]
          refine wpAnyH_take (i := 16) (oi := { dst := some 48, op := Op.load 30 (Operand.tmp 47), type := 30, pos := "trie.go:127", after := #[{ on := 15, ground := Ground.data }, { on := 12, ground := Ground.guard }], guard := some (12, true) }) (v := undef) rfl (by kernel_rfl) (by kernel_rfl) (by kernel_rfl) (fun _ _ _ h => h) (Or.inr ⟨by rfl, rfl⟩) hHeld ?_
          try simp only [Act.put, List.setIfInBounds_toArray, List.set_cons_zero, List.set_cons_succ]
          refine wpAnyH_take (i := 17) (oi := { dst := some 49, op := Op.load 30 (Operand.tmp 4), type := 30, pos := "trie.go:127", after := #[{ on := 12, ground := Ground.guard }], guard := some (12, true) }) (v := undef) rfl (by kernel_rfl) (by kernel_rfl) (by kernel_rfl) (fun _ _ _ h => h) (Or.inr ⟨by rfl, rfl⟩) hHeld ?_
          try simp only [Act.put, List.setIfInBounds_toArray, List.set_cons_zero, List.set_cons_succ]
          refine wpAnyH_take (i := 18) (oi := { dst := some 50, op := Op.call { callee := Callee.value (Operand.func 43), args := #[Operand.tmp 48, Operand.tmp 49], argTypes := #[30, 30] }, type := 3, pos := "trie.go:127", after := #[{ on := 16, ground := Ground.data }, { on := 17, ground := Ground.data }, { on := 12, ground := Ground.chain }, { on := 12, ground := Ground.guard }], guard := some (12, true) }) (v := undef) rfl (by kernel_rfl) (by kernel_rfl) (by kernel_rfl) (fun _ _ _ h => h) (Or.inr ⟨by rfl, rfl⟩) hHeld ?_
          try simp only [Act.put, List.setIfInBounds_toArray, List.set_cons_zero, List.set_cons_succ]
          refine wpAnyH_take (i := 19) (oi := { dst := some 51, op := Op.move (Operand.tmp 8), type := 68, pos := "trie.go:127", after := #[{ on := 12, ground := Ground.guard }], guard := some (12, true) }) (v := undef) rfl (by kernel_rfl) (by kernel_rfl) (by kernel_rfl) (fun _ _ _ h => h) (Or.inr ⟨by rfl, rfl⟩) hHeld ?_
          try simp only [Act.put, List.setIfInBounds_toArray, List.set_cons_zero, List.set_cons_succ]
          refine wpAnyH_take (i := 20) (oi := { dst := some 52, op := Op.nilCheck (Operand.tmp 51), type := 0, pos := "trie.go:127", after := #[{ on := 19, ground := Ground.data }, { on := 12, ground := Ground.guard }], guard := some (12, true) }) (v := undef) rfl (by kernel_rfl) (by kernel_rfl) (by kernel_rfl) (fun _ _ _ h => h) (Or.inr ⟨by rfl, rfl⟩) hHeld ?_
          try simp only [Act.put, List.setIfInBounds_toArray, List.set_cons_zero, List.set_cons_succ]
          refine wpAnyH_take (i := 21) (oi := { dst := some 53, op := Op.fieldAddr 76 (Operand.tmp 52) 0, type := 0, pos := "trie.go:127", after := #[{ on := 20, ground := Ground.data }, { on := 12, ground := Ground.guard }], guard := some (12, true) }) (v := undef) rfl (by kernel_rfl) (by kernel_rfl) (by kernel_rfl) (fun _ _ _ h => h) (Or.inr ⟨by rfl, rfl⟩) hHeld ?_
          try simp only [Act.put, List.setIfInBounds_toArray, List.set_cons_zero, List.set_cons_succ]
          refine wpAnyH_take (i := 22) (oi := { dst := some 54, op := Op.fieldAddr 30 (Operand.tmp 53) 3, type := 0, pos := "trie.go:127", after := #[{ on := 21, ground := Ground.data }, { on := 12, ground := Ground.guard }], guard := some (12, true) }) (v := undef) rfl (by kernel_rfl) (by kernel_rfl) (by kernel_rfl) (fun _ _ _ h => h) (Or.inr ⟨by rfl, rfl⟩) hHeld ?_
          try simp only [Act.put, List.setIfInBounds_toArray, List.set_cons_zero, List.set_cons_succ]
          refine wpAnyH_take (i := 23) (oi := { dst := some 55, op := Op.load 3 (Operand.tmp 54), type := 3, pos := "trie.go:127", after := #[{ on := 22, ground := Ground.data }, { on := 12, ground := Ground.guard }], guard := some (12, true) }) (v := undef) rfl (by kernel_rfl) (by kernel_rfl) (by kernel_rfl) (fun _ _ _ h => h) (Or.inr ⟨by rfl, rfl⟩) hHeld ?_
          try simp only [Act.put, List.setIfInBounds_toArray, List.set_cons_zero, List.set_cons_succ]
          refine wpAnyH_take (i := 24) (oi := { dst := some 56, op := Op.binOp BinOp.eql 3 (Operand.tmp 50) (Operand.tmp 55) 3, type := 4, pos := "trie.go:127", after := #[{ on := 18, ground := Ground.data }, { on := 23, ground := Ground.data }, { on := 12, ground := Ground.guard }], guard := some (12, true) }) (v := undef) rfl (by kernel_rfl) (by kernel_rfl) (by kernel_rfl) (fun _ _ _ h => h) (Or.inr ⟨by rfl, rfl⟩) hHeld ?_
          try simp only [Act.put, List.setIfInBounds_toArray, List.set_cons_zero, List.set_cons_succ]
          refine wpAnyH_take (i := 25) (oi := { dst := some 57, op := Op.pick (Operand.tmp 44) (Operand.tmp 56) (Operand.const (Value.bool false)), type := 4, pos := "trie.go:127", after := #[{ on := 12, ground := Ground.data }, { on := 24, ground := Ground.data }], guard := none }) (v := ?_) rfl (by kernel_rfl) (by kernel_rfl) (by kernel_rfl) (fun _ _ _ h => h) (Or.inl ⟨by rfl, ?_⟩) hHeld ?_
          rotate_left
          · intro w hSw
            clear hSw
            go_simp
            try with_reducible rfl
          try simp only [Act.put, List.setIfInBounds_toArray, List.set_cons_zero, List.set_cons_succ]
          refine wpAnyH_done (by kernel_rfl) ?_ _
          clear hHeld
          go_wp2_with fail
          go_end0
          exact ⟨rfl, (GrownX.of_below HB2.out).trans (HGX.out.trans (GrownX.of_below (below_drewN (Below.refl wr.heap.size wr) 1))), F, FV, HCr.out.below (below_drewN (Below.refl wr.heap.size wr) 1) HCr.out.lt, (HFo.out.1.grownX HGX.out (fun b hb e => HCS.out (e ▸ HFo.out.2 b hb))).below_ (below_drewN (Below.refl wr.heap.size wr) 1), by rw [← HLK.out, HLE.out] at HL; exact HL.out⟩
end Go.Proofs.Ythnjepehiddogaa
