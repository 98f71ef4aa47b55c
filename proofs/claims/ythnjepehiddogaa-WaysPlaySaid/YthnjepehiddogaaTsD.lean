/-
  trie.walk: the tree's items come in order. Conditions: none.
-/
import Derived.RangeFuncNested
import Derived.RangeFuncBound
import Derived.RangeFuncCalls
import Derived.RangeFuncLeaves
import Derived.Shelf.Abstract
import Derived.WalkKit
import Derived.OwnWalkIn
import Derived.RegionIn
import Derived.TacticsInMore
import Derived.LoopNIn
import Derived.LoopIn
import Derived.Test.YthnjepehiddogaaTrY
set_option linter.unusedVariables false
set_option linter.unusedSimpArgs false
namespace Go.Proofs.Ythnjepehiddogaa
open Go.RowKit Go.MapKept

theorem wide_fn (k : Nat) : Fence.wide.fn k = True := rfl
attribute [local go_sem] Oper.semAt_some wide_fn

theorem room_of_none2 {F : Fence} (hd : F.depth = none) (k : Nat) : F.room k := fun d h => by rw [hd] at h; cases h
theorem RoundIn.anyDepth2 {F : Fence} (hd : F.depth = none) {m m' : Nat} {P : Program} {l : Nat} {f : FuncId} {tmps : Array Value} {assign body : Code} {w : World} {R : Ending → World → Prop}
    (h : RoundIn F m P l f tmps assign body w R) : RoundIn F m' P l f tmps assign body w R := ⟨h.1, fun c cs _ => h.2 c cs (room_of_none2 hd _)⟩
theorem yieldAt_anyDepth {F : Fence} (hd : F.depth = none) {m : Nat} (m' : Nat) {P : Program} {l : Nat} {args : Array Value} {W : World} {R : Ending → World → Prop} (h : YieldAt F m P l args W R) : YieldAt F m' P l args W R := by
  obtain ⟨fn, tmps, assign, body, hy, hR⟩ := h
  exact ⟨fn, tmps, assign, body, hy, RoundIn.anyDepth2 hd hR⟩
/-- what a tree holds, in order -/
def Tt.items : Tt Int → List (Tp × Int)
  | .nil => []
  | .node a has v l r => (if has = true then [(a, v)] else []) ++ (l.items ++ r.items)
theorem Tt.items_mem : ∀ {t : Tt Int} {q : Tp} {x : Int}, (q, x) ∈ t.items ↔ t.Mem q x
  | .nil, q, x => by simp [Tt.items, Tt.Mem]
  | .node a has v l r, q, x => by
    simp only [Tt.items, Tt.Mem, List.mem_append, Tt.items_mem (t := l), Tt.items_mem (t := r)]
    cases has with
    | true => simp [eq_comm]
    | false => simp
def good (x : Tp × Int) : Prop := x.1.Ok ∧ (x.1.fam = 1 ∨ x.1.fam = 2) ∧ x.1.rd = 0
open Classical in
/-- whatever comes, as a good one -/
noncomputable def fx (x : Tp × Int) : Tp × Int := if good x then x else (⟨1, 0, ⟨#[0, 0, 0, 0]⟩, 0⟩, 0)
theorem fx_of {x : Tp × Int} (h : good x) : fx x = x := if_pos h
theorem fx_good (x : Tp × Int) : good (fx x) := by
  unfold fx
  by_cases h : good x
  · rw [if_pos h]; exact h
  · rw [if_neg h]
    exact ⟨by show PrefOk 1 0 ⟨#[0, 0, 0, 0]⟩ ((0 : Nat) : Int); decide +kernel, Or.inl rfl, rfl⟩
noncomputable def encI (x : Tp × Int) : Array Value := #[(fx x).1.v, .int .i64 (fx x).2]

set_option maxHeartbeats 1000000 in
theorem let_any (n : Nat) (p : Tp) (w : World) :
    CallsIn Fence.wide n Try.prog 47 #[p.v] w fun e w' => e = .returned (.bool true) ∧ w' = w.alloc (.cells #[.int .i64 p.fam, .int .u64 p.rd, .string p.addr, .int .i64 (p.len : Nat)] 30) := by
  unfold Tp.v
  refine callsIn_of_wp Try.func47 rfl trivial ?_ rfl
  simp only [Try.ntmps47, List.size_toArray, List.length_cons, List.length_nil, Nat.reduceAdd, Nat.reduceSub, Array.replicate_succ, Array.replicate_zero, List.push_toArray, List.append_toArray, List.nil_append, List.cons_append]
  gi_wp2
  go_ret
  exact ⟨rfl, rfl⟩

theorem cellOf {W W' : World} {n₀ b : Nat} {cs : Array Value} {T : TypeId} (hb : Below n₀ W W') (h : CellsAt W b cs T) (hl : b < n₀) : CellsAt W' b cs T := h.below hb hl

set_option maxRecDepth 100000 in
set_option maxHeartbeats 8000000 in
theorem walk_in (l n₀ N : Nat) (J Jx : List (Tp × Int) → World → Prop)
    (hJ : ∀ pre W o, J pre W → J pre (W.alloc o)) (hJd : ∀ pre W, J pre W → J pre W.drew)
    (hY : ∀ m pre x W, J pre W → pre.length < N → YieldAt Fence.wide m Try.prog l (encI x) W fun e W' =>
      (e = .returned (.bool true) ∧ J (pre ++ [x]) W' ∧ Below n₀ W W') ∨ (e = .returned (.bool false) ∧ Jx (pre ++ [x]) W')) (T : Tt Int) :
    ∀ (n : Nat) (S : List Nat) (q : Value) (pre : List (Tp × Int)) (W : World), TreeAt W S q T → (∀ x ∈ S, x < n₀) → n₀ ≤ W.heap.size → (∀ x ∈ T.items, good x) → J pre W → pre.length + T.items.length ≤ N →
      CallsIn Fence.wide n Try.prog 46 #[q, .func (.func 47) #[] #[], .func (.yield l) #[] #[]] W fun e W' =>
        (e = .returned (.bool true) ∧ J (pre ++ T.items) W' ∧ Below n₀ W W') ∨ (e = .returned (.bool false) ∧ ∃ q, q <+: T.items ∧ Jx (pre ++ q) W') := by
  induction T with
  | nil =>
    intro n S q pre W ht hS hn hg hJ0 _
    obtain ⟨rfl, rfl⟩ := ht
    refine callsIn_of_wp Try.func46 rfl trivial ?_ rfl
    simp only [Try.ntmps46, List.size_toArray, List.length_cons, List.length_nil, Nat.reduceAdd, Nat.reduceSub, Array.replicate_succ, Array.replicate_zero, List.push_toArray, List.append_toArray, List.nil_append, List.cons_append]
    gi_wp2
    go_ret
    exact .inl ⟨rfl, by simpa [Tt.items] using hJ0, Below.refl _ _⟩
  | node a has v tl tr ihl ihr =>
    intro n S q pre W ht hS hn hg hJ0 hN
    obtain ⟨b, Sl, Sr, ql, qr, rfl, rfl, hc, hl, hr, hnd⟩ := ht
    have hdd : ∀ k : Nat, (Fence.wide.depth.isSome = true → 1 ≤ k) := fun k h => by cases h
    have hb : b < n₀ := hS b (by simp)
    obtain ⟨c0, c1, c2, c3, c4, c5, c6, c7⟩ := hc.c8
    unfold nodeC at hc
    have ih1 := fun (p1 : List (Tp × Int)) (W1 : World) (hb1 : Below n₀ W W1) (hj : J p1 W1) (hle : p1.length + tl.items.length + tr.items.length ≤ N) =>
      (ihl (n - 1) Sl ql p1 W1 (hl.below hb1 (fun x hx => hS x (by simp [hx]))) (fun x hx => hS x (by simp [hx])) (Nat.le_trans hn hb1.size) (fun x hx => hg x (by simp [Tt.items, hx])) hj (by omega)).mono (R' := fun e W2 =>
        (e = .returned (.bool true) ∧ W2.cell? ⟨b, 7, none⟩ = some qr ∧ Below n₀ W W2 ∧ CallsIn Fence.wide (n - 1) Try.prog 46 #[qr, .func (.func 47) #[] #[], .func (.yield l) #[] #[]] W2 fun e W' =>
          (e = .returned (.bool true) ∧ J (p1 ++ (tl.items ++ tr.items)) W' ∧ Below n₀ W W') ∨ (e = .returned (.bool false) ∧ ∃ q, q <+: tl.items ++ tr.items ∧ Jx (p1 ++ q) W')) ∨
        (e = .returned (.bool false) ∧ ∃ q, q <+: tl.items ∧ Jx (p1 ++ q) W2))
      (fun e W2 h => h.elim (fun ⟨he, hj2, hb2⟩ => .inl ⟨he, ((hb1.trans hb2).cell (p := ⟨b, 7, none⟩) hb).trans c7, hb1.trans hb2,
        (ihr (n - 1) Sr qr (p1 ++ tl.items) W2 (hr.below (hb1.trans hb2) (fun x hx => hS x (by simp [hx]))) (fun x hx => hS x (by simp [hx])) (Nat.le_trans hn (hb1.trans hb2).size) (fun x hx => hg x (by simp [Tt.items, hx])) hj2 (by simp; omega)).mono
          (fun e W3 h => h.elim (fun ⟨he, hj3, hb3⟩ => .inl ⟨he, by rw [← List.append_assoc]; exact hj3, (hb1.trans hb2).trans hb3⟩)
            (fun ⟨he, q, ⟨t, ht⟩, hx⟩ => .inr ⟨he, tl.items ++ q, ⟨t, by rw [← ht, List.append_assoc]⟩, by rw [← List.append_assoc]; exact hx⟩))⟩) .inr)
    clear ihl ihr
    simp only [Tt.items, List.length_append] at hN
    cases has with
    | false =>
      have ih := ih1 pre W.drew ((Below.refl _ W).drew) (hJd _ _ hJ0) (by simp at hN; omega)
      clear ih1
      have k6 : W.drew.cell? ⟨b, 6, none⟩ = some ql := c6
      refine callsIn_of_wp Try.func46 rfl trivial ?_ rfl
      simp only [Try.ntmps46, List.size_toArray, List.length_cons, List.length_nil, Nat.reduceAdd, Nat.reduceSub, Array.replicate_succ, Array.replicate_zero, List.push_toArray, List.append_toArray, List.nil_append, List.cons_append]
      gi_wp2
      have k4 : W.drew.cell? ⟨b, 4, none⟩ = some (.bool false) := c4
      refine wpIn_region_any (by kernel_rfl) ?_
      change wpAnyIn _ _ _ _ _ _ _ _ _ (World.drew _)
      refine wpAnyIn_take (i := 0) (oi := { dst := some 9, op := Op.move (Operand.tmp 0), type := 68, pos := "trie.go:211", after := #[], guard := none }) (v := ?_) rfl rfl (by kernel_rfl) (by kernel_rfl) (by kernel_rfl) (fun _ _ _ h => h) ⟨Or.inl ⟨by rfl, ?_⟩, fun _ => rfl⟩ ?_
      rotate_left
      · intro w
        go_simp
        try with_reducible rfl
      try simp only [Act.put, List.setIfInBounds_toArray, List.set_cons_zero, List.set_cons_succ]
      refine wpAnyIn_take (i := 1) (oi := { dst := some 10, op := Op.nilCheck (Operand.tmp 9), type := 0, pos := "trie.go:211", after := #[{ on := 0, ground := Ground.data }], guard := none }) (v := ?_) rfl rfl (by kernel_rfl) (by kernel_rfl) (by kernel_rfl) (fun _ _ _ h => h) ⟨Or.inl ⟨by rfl, ?_⟩, fun _ => rfl⟩ ?_
      rotate_left
      · intro w
        go_simp
        try with_reducible rfl
      try simp only [Act.put, List.setIfInBounds_toArray, List.set_cons_zero, List.set_cons_succ]
      refine wpAnyIn_take (i := 2) (oi := { dst := some 11, op := Op.fieldAddr 76 (Operand.tmp 10) 1, type := 0, pos := "trie.go:211", after := #[{ on := 1, ground := Ground.data }], guard := none }) (v := ?_) rfl rfl (by kernel_rfl) (by kernel_rfl) (by kernel_rfl) (fun _ _ _ h => h) ⟨Or.inl ⟨by rfl, ?_⟩, fun _ => rfl⟩ ?_
      rotate_left
      · intro w
        go_simp
        try with_reducible rfl
      try simp only [Act.put, List.setIfInBounds_toArray, List.set_cons_zero, List.set_cons_succ]
      refine wpAnyIn_ready (rs := [3]) (by kernel_rfl) (by simp) ?_
      refine AllReadyIn.cons (o := { dst := some 12, op := Op.load 4 (Operand.tmp 11), type := 4, pos := "trie.go:211", after := #[{ on := 2, ground := Ground.data }], guard := none }) rfl (fun K hK => ?_) AllReadyIn.nil
      go_simp
      refine hK _ _ ?_
      clear hK K
      try simp only [Act.put, List.setIfInBounds_toArray, List.set_cons_zero, List.set_cons_succ]
      refine wpAnyIn_take (i := 4) (oi := { dst := some 13, op := Op.move (Operand.tmp 12), type := 4, pos := "trie.go:211", after := #[{ on := 3, ground := Ground.data }], guard := none }) (v := ?_) rfl rfl (by kernel_rfl) (by kernel_rfl) (by kernel_rfl) (fun _ _ _ h => h) ⟨Or.inl ⟨by rfl, ?_⟩, fun _ => rfl⟩ ?_
      rotate_left
      · intro w
        go_simp
        try with_reducible rfl
      try simp only [Act.put, List.setIfInBounds_toArray, List.set_cons_zero, List.set_cons_succ]
      refine wpAnyIn_take (i := 5) (oi := { dst := some 14, op := Op.move (Operand.tmp 1), type := 35, pos := "trie.go:211", after := #[{ on := 4, ground := Ground.guard }], guard := some (4, true) }) (v := undef) rfl rfl (by kernel_rfl) (by kernel_rfl) (by kernel_rfl) (fun _ _ _ h => h) ⟨Or.inr ⟨by rfl, rfl⟩, fun _ => rfl⟩ ?_
      try simp only [Act.put, List.setIfInBounds_toArray, List.set_cons_zero, List.set_cons_succ]
      refine wpAnyIn_take (i := 6) (oi := { dst := some 15, op := Op.move (Operand.tmp 0), type := 68, pos := "trie.go:211", after := #[{ on := 4, ground := Ground.guard }], guard := some (4, true) }) (v := undef) rfl rfl (by kernel_rfl) (by kernel_rfl) (by kernel_rfl) (fun _ _ _ h => h) ⟨Or.inr ⟨by rfl, rfl⟩, fun _ => rfl⟩ ?_
      try simp only [Act.put, List.setIfInBounds_toArray, List.set_cons_zero, List.set_cons_succ]
      refine wpAnyIn_take (i := 7) (oi := { dst := some 16, op := Op.nilCheck (Operand.tmp 15), type := 0, pos := "trie.go:211", after := #[{ on := 6, ground := Ground.data }, { on := 4, ground := Ground.guard }], guard := some (4, true) }) (v := undef) rfl rfl (by kernel_rfl) (by kernel_rfl) (by kernel_rfl) (fun _ _ _ h => h) ⟨Or.inr ⟨by rfl, rfl⟩, fun _ => rfl⟩ ?_
      try simp only [Act.put, List.setIfInBounds_toArray, List.set_cons_zero, List.set_cons_succ]
      refine wpAnyIn_take (i := 8) (oi := { dst := some 17, op := Op.fieldAddr 76 (Operand.tmp 16) 0, type := 0, pos := "trie.go:211", after := #[{ on := 7, ground := Ground.data }, { on := 4, ground := Ground.guard }], guard := some (4, true) }) (v := undef) rfl rfl (by kernel_rfl) (by kernel_rfl) (by kernel_rfl) (fun _ _ _ h => h) ⟨Or.inr ⟨by rfl, rfl⟩, fun _ => rfl⟩ ?_
      try simp only [Act.put, List.setIfInBounds_toArray, List.set_cons_zero, List.set_cons_succ]
      refine wpAnyIn_take (i := 9) (oi := { dst := some 18, op := Op.load 30 (Operand.tmp 17), type := 30, pos := "trie.go:211", after := #[{ on := 8, ground := Ground.data }, { on := 4, ground := Ground.guard }], guard := some (4, true) }) (v := undef) rfl rfl (by kernel_rfl) (by kernel_rfl) (by kernel_rfl) (fun _ _ _ h => h) ⟨Or.inr ⟨by rfl, rfl⟩, fun _ => rfl⟩ ?_
      try simp only [Act.put, List.setIfInBounds_toArray, List.set_cons_zero, List.set_cons_succ]
      refine wpAnyIn_ready (rs := [10]) (by kernel_rfl) (by simp) ?_
      refine AllReadyIn.cons (o := { dst := some 19, op := Op.call { callee := Callee.value (Operand.tmp 14), args := #[Operand.tmp 18], argTypes := #[30] }, type := 4, pos := "trie.go:211", after := #[{ on := 5, ground := Ground.data }, { on := 9, ground := Ground.data }, { on := 4, ground := Ground.chain }, { on := 4, ground := Ground.guard }], guard := some (4, true) }) rfl (fun K hK => ?_) AllReadyIn.nil
      go_simp
      refine hK _ _ ?_
      clear hK K
      try simp only [Act.put, List.setIfInBounds_toArray, List.set_cons_zero, List.set_cons_succ]
      refine wpAnyIn_take (i := 11) (oi := { dst := some 20, op := Op.pick (Operand.tmp 13) (Operand.tmp 19) (Operand.const (Value.bool false)), type := 4, pos := "trie.go:211", after := #[{ on := 4, ground := Ground.data }, { on := 10, ground := Ground.data }], guard := none }) (v := ?_) rfl rfl (by kernel_rfl) (by kernel_rfl) (by kernel_rfl) (fun _ _ _ h => h) ⟨Or.inl ⟨by rfl, ?_⟩, fun _ => rfl⟩ ?_
      rotate_left
      · intro w
        go_simp
        try with_reducible rfl
      try simp only [Act.put, List.setIfInBounds_toArray, List.set_cons_zero, List.set_cons_succ]
      refine wpAnyIn_take (i := 12) (oi := { dst := some 21, op := Op.move (Operand.tmp 20), type := 4, pos := "trie.go:211", after := #[{ on := 11, ground := Ground.data }, { on := 10, ground := Ground.chain }], guard := none }) (v := ?_) rfl rfl (by kernel_rfl) (by kernel_rfl) (by kernel_rfl) (fun _ _ _ h => h) ⟨Or.inl ⟨by rfl, ?_⟩, fun _ => rfl⟩ ?_
      rotate_left
      · intro w
        go_simp
        try with_reducible rfl
      try simp only [Act.put, List.setIfInBounds_toArray, List.set_cons_zero, List.set_cons_succ]
      refine wpAnyIn_take (i := 13) (oi := { dst := some 22, op := Op.move (Operand.tmp 2), type := 88, pos := "trie.go:211", after := #[{ on := 12, ground := Ground.guard }], guard := some (12, true) }) (v := undef) rfl rfl (by kernel_rfl) (by kernel_rfl) (by kernel_rfl) (fun _ _ _ h => h) ⟨Or.inr ⟨by rfl, rfl⟩, fun _ => rfl⟩ ?_
      try simp only [Act.put, List.setIfInBounds_toArray, List.set_cons_zero, List.set_cons_succ]
      refine wpAnyIn_take (i := 14) (oi := { dst := some 23, op := Op.move (Operand.tmp 0), type := 68, pos := "trie.go:211", after := #[{ on := 12, ground := Ground.guard }], guard := some (12, true) }) (v := undef) rfl rfl (by kernel_rfl) (by kernel_rfl) (by kernel_rfl) (fun _ _ _ h => h) ⟨Or.inr ⟨by rfl, rfl⟩, fun _ => rfl⟩ ?_
      try simp only [Act.put, List.setIfInBounds_toArray, List.set_cons_zero, List.set_cons_succ]
      refine wpAnyIn_take (i := 15) (oi := { dst := some 24, op := Op.nilCheck (Operand.tmp 23), type := 0, pos := "trie.go:211", after := #[{ on := 14, ground := Ground.data }, { on := 12, ground := Ground.guard }], guard := some (12, true) }) (v := undef) rfl rfl (by kernel_rfl) (by kernel_rfl) (by kernel_rfl) (fun _ _ _ h => h) ⟨Or.inr ⟨by rfl, rfl⟩, fun _ => rfl⟩ ?_
      try simp only [Act.put, List.setIfInBounds_toArray, List.set_cons_zero, List.set_cons_succ]
      refine wpAnyIn_take (i := 16) (oi := { dst := some 25, op := Op.fieldAddr 76 (Operand.tmp 24) 0, type := 0, pos := "trie.go:211", after := #[{ on := 15, ground := Ground.data }, { on := 12, ground := Ground.guard }], guard := some (12, true) }) (v := undef) rfl rfl (by kernel_rfl) (by kernel_rfl) (by kernel_rfl) (fun _ _ _ h => h) ⟨Or.inr ⟨by rfl, rfl⟩, fun _ => rfl⟩ ?_
      try simp only [Act.put, List.setIfInBounds_toArray, List.set_cons_zero, List.set_cons_succ]
      refine wpAnyIn_take (i := 17) (oi := { dst := some 26, op := Op.load 30 (Operand.tmp 25), type := 30, pos := "trie.go:211", after := #[{ on := 16, ground := Ground.data }, { on := 12, ground := Ground.guard }], guard := some (12, true) }) (v := undef) rfl rfl (by kernel_rfl) (by kernel_rfl) (by kernel_rfl) (fun _ _ _ h => h) ⟨Or.inr ⟨by rfl, rfl⟩, fun _ => rfl⟩ ?_
      try simp only [Act.put, List.setIfInBounds_toArray, List.set_cons_zero, List.set_cons_succ]
      refine wpAnyIn_take (i := 18) (oi := { dst := some 27, op := Op.move (Operand.tmp 0), type := 68, pos := "trie.go:211", after := #[{ on := 12, ground := Ground.guard }], guard := some (12, true) }) (v := undef) rfl rfl (by kernel_rfl) (by kernel_rfl) (by kernel_rfl) (fun _ _ _ h => h) ⟨Or.inr ⟨by rfl, rfl⟩, fun _ => rfl⟩ ?_
      try simp only [Act.put, List.setIfInBounds_toArray, List.set_cons_zero, List.set_cons_succ]
      refine wpAnyIn_take (i := 19) (oi := { dst := some 28, op := Op.nilCheck (Operand.tmp 27), type := 0, pos := "trie.go:211", after := #[{ on := 18, ground := Ground.data }, { on := 12, ground := Ground.guard }], guard := some (12, true) }) (v := undef) rfl rfl (by kernel_rfl) (by kernel_rfl) (by kernel_rfl) (fun _ _ _ h => h) ⟨Or.inr ⟨by rfl, rfl⟩, fun _ => rfl⟩ ?_
      try simp only [Act.put, List.setIfInBounds_toArray, List.set_cons_zero, List.set_cons_succ]
      refine wpAnyIn_take (i := 20) (oi := { dst := some 29, op := Op.fieldAddr 76 (Operand.tmp 28) 2, type := 0, pos := "trie.go:211", after := #[{ on := 19, ground := Ground.data }, { on := 12, ground := Ground.guard }], guard := some (12, true) }) (v := undef) rfl rfl (by kernel_rfl) (by kernel_rfl) (by kernel_rfl) (fun _ _ _ h => h) ⟨Or.inr ⟨by rfl, rfl⟩, fun _ => rfl⟩ ?_
      try simp only [Act.put, List.setIfInBounds_toArray, List.set_cons_zero, List.set_cons_succ]
      refine wpAnyIn_take (i := 21) (oi := { dst := some 30, op := Op.load 3 (Operand.tmp 29), type := 3, pos := "trie.go:211", after := #[{ on := 20, ground := Ground.data }, { on := 12, ground := Ground.guard }], guard := some (12, true) }) (v := undef) rfl rfl (by kernel_rfl) (by kernel_rfl) (by kernel_rfl) (fun _ _ _ h => h) ⟨Or.inr ⟨by rfl, rfl⟩, fun _ => rfl⟩ ?_
      try simp only [Act.put, List.setIfInBounds_toArray, List.set_cons_zero, List.set_cons_succ]
      refine wpAnyIn_ready (rs := [22]) (by kernel_rfl) (by simp) ?_
      refine AllReadyIn.cons (o := { dst := some 31, op := Op.call { callee := Callee.value (Operand.tmp 22), args := #[Operand.tmp 26, Operand.tmp 30], argTypes := #[30, 3] }, type := 4, pos := "trie.go:211", after := #[{ on := 13, ground := Ground.data }, { on := 17, ground := Ground.data }, { on := 21, ground := Ground.data }, { on := 12, ground := Ground.chain }, { on := 12, ground := Ground.guard }], guard := some (12, true) }) rfl (fun K hK => ?_) AllReadyIn.nil
      go_simp
      try refine ⟨fun _ h => (by cases h), ?_⟩
      refine hK _ _ ?_
      clear hK K
      try simp only [Act.put, List.setIfInBounds_toArray, List.set_cons_zero, List.set_cons_succ]
      refine wpAnyIn_take (i := 23) (oi := { dst := some 32, op := Op.unOp UnOp.not 4 (Operand.tmp 31), type := 4, pos := "trie.go:211", after := #[{ on := 22, ground := Ground.data }, { on := 12, ground := Ground.guard }], guard := some (12, true) }) (v := undef) rfl rfl (by kernel_rfl) (by kernel_rfl) (by kernel_rfl) (fun _ _ _ h => h) ⟨Or.inr ⟨by rfl, rfl⟩, fun _ => rfl⟩ ?_
      try simp only [Act.put, List.setIfInBounds_toArray, List.set_cons_zero, List.set_cons_succ]
      refine wpAnyIn_take (i := 24) (oi := { dst := some 33, op := Op.pick (Operand.tmp 21) (Operand.tmp 32) (Operand.const (Value.bool false)), type := 4, pos := "trie.go:211", after := #[{ on := 12, ground := Ground.data }, { on := 23, ground := Ground.data }], guard := none }) (v := ?_) rfl rfl (by kernel_rfl) (by kernel_rfl) (by kernel_rfl) (fun _ _ _ h => h) ⟨Or.inl ⟨by rfl, ?_⟩, fun _ => rfl⟩ ?_
      rotate_left
      · intro w
        go_simp
        try with_reducible rfl
      try simp only [Act.put, List.setIfInBounds_toArray, List.set_cons_zero, List.set_cons_succ]
      refine wpAnyIn_done (by kernel_rfl) ?_ _
      gi_wp2_with (first
        | ((try refine ⟨hdd _, ?_⟩); gi_at_call 46; refine ih.mono ?_; clear ih; rintro e W1 (⟨rfl, c7', hb1, hR⟩ | ⟨rfl, q, hq, hx1⟩))
        | ((try refine ⟨hdd _, ?_⟩); gi_at_call 46; refine hR.mono ?_; clear hR; rintro e W3 (⟨rfl, hJ3, hb3⟩ | ⟨rfl, q, hq, hx3⟩)))
      · go_ret
        exact .inl ⟨rfl, by simpa [Tt.items] using hJ3, hb3⟩
      · go_ret
        exact .inr ⟨rfl, q, by simpa [Tt.items] using hq, hx3⟩
      · go_ret
        exact .inr ⟨rfl, q, by simpa [Tt.items] using hq.trans (List.prefix_append _ _), hx1⟩
    | true =>
      have k4 : W.drew.cell? ⟨b, 4, none⟩ = some (.bool true) := c4
      have k0 : W.drew.cell? ⟨b, 0, none⟩ = some (.int .i64 a.fam) := c0
      have k1 : W.drew.cell? ⟨b, 1, none⟩ = some (.int .u64 a.rd) := c1
      have k2 : W.drew.cell? ⟨b, 2, none⟩ = some (.string a.addr) := c2
      have k3 : W.drew.cell? ⟨b, 3, none⟩ = some (.int .i64 (a.len : Nat)) := c3
      have HW9 : ∀ W9, W9 = W.drew.alloc (.cells #[.int .i64 a.fam, .int .u64 a.rd, .string a.addr, .int .i64 (a.len : Nat)] 30) →
          W9.cell? ⟨b, 0, none⟩ = some (.int .i64 a.fam) ∧ W9.cell? ⟨b, 1, none⟩ = some (.int .u64 a.rd) ∧ W9.cell? ⟨b, 2, none⟩ = some (.string a.addr) ∧ W9.cell? ⟨b, 3, none⟩ = some (.int .i64 (a.len : Nat)) ∧ W9.cell? ⟨b, 5, none⟩ = some (.int .i64 v) ∧
          YieldAt Fence.wide (n - 1) Try.prog l #[.agg #[.int .i64 a.fam, .int .u64 a.rd, .string a.addr, .int .i64 (a.len : Nat)], .int .i64 v] W9 fun e W2 =>
            (e = .returned (.bool true) ∧ W2.cell? ⟨b, 6, none⟩ = some ql ∧ J (pre ++ [(a, v)]) W2 ∧ Below n₀ W W2) ∨ (e = .returned (.bool false) ∧ Jx (pre ++ [(a, v)]) W2) := by
        rintro W9 rfl
        have hb9 : Below n₀ W (W.drew.alloc (.cells #[.int .i64 a.fam, .int .u64 a.rd, .string a.addr, .int .i64 (a.len : Nat)] 30)) := ((Below.refl n₀ W).drew).alloc hn _
        have hc9 := cellOf hb9 hc hb
        have hy := hY (n - 1) pre (a, v) _ (hJ _ _ (.cells #[.int .i64 a.fam, .int .u64 a.rd, .string a.addr, .int .i64 (a.len : Nat)] 30) (hJd _ _ hJ0)) (by simp at hN; omega)
        rw [encI, fx_of (hg (a, v) (by simp [Tt.items]))] at hy
        obtain ⟨d0, d1, d2, d3, d4, d5, d6, d7⟩ := CellsAt.c8 hc9
        refine ⟨d0, d1, d2, d3, d5, YieldAt.mono hy fun e W2 h => h.elim (fun ⟨he, hj, hb2⟩ => .inl ⟨he, (hb2.cell (p := ⟨b, 6, none⟩) hb).trans d6, hj, hb9.trans hb2⟩) .inr⟩
      have HIH := Lib.hid ih1
      clear ih1 hY hJ hJd
      have HR := Lib.hid hN
      clear hN
      refine callsIn_of_wp Try.func46 rfl trivial ?_ rfl
      simp only [Try.ntmps46, List.size_toArray, List.length_cons, List.length_nil, Nat.reduceAdd, Nat.reduceSub, Array.replicate_succ, Array.replicate_zero, List.push_toArray, List.append_toArray, List.nil_append, List.cons_append]
      gi_wp2
      refine wpIn_region_any (by kernel_rfl) ?_
      change wpAnyIn _ _ _ _ _ _ _ _ _ (World.drew _)
      refine wpAnyIn_take (i := 0) (oi := { dst := some 9, op := Op.move (Operand.tmp 0), type := 68, pos := "trie.go:211", after := #[], guard := none }) (v := ?_) rfl rfl (by kernel_rfl) (by kernel_rfl) (by kernel_rfl) (fun _ _ _ h => h) ⟨Or.inl ⟨by rfl, ?_⟩, fun _ => rfl⟩ ?_
      rotate_left
      · intro w
        go_simp
        try with_reducible rfl
      try simp only [Act.put, List.setIfInBounds_toArray, List.set_cons_zero, List.set_cons_succ]
      refine wpAnyIn_take (i := 1) (oi := { dst := some 10, op := Op.nilCheck (Operand.tmp 9), type := 0, pos := "trie.go:211", after := #[{ on := 0, ground := Ground.data }], guard := none }) (v := ?_) rfl rfl (by kernel_rfl) (by kernel_rfl) (by kernel_rfl) (fun _ _ _ h => h) ⟨Or.inl ⟨by rfl, ?_⟩, fun _ => rfl⟩ ?_
      rotate_left
      · intro w
        go_simp
        try with_reducible rfl
      try simp only [Act.put, List.setIfInBounds_toArray, List.set_cons_zero, List.set_cons_succ]
      refine wpAnyIn_take (i := 2) (oi := { dst := some 11, op := Op.fieldAddr 76 (Operand.tmp 10) 1, type := 0, pos := "trie.go:211", after := #[{ on := 1, ground := Ground.data }], guard := none }) (v := ?_) rfl rfl (by kernel_rfl) (by kernel_rfl) (by kernel_rfl) (fun _ _ _ h => h) ⟨Or.inl ⟨by rfl, ?_⟩, fun _ => rfl⟩ ?_
      rotate_left
      · intro w
        go_simp
        try with_reducible rfl
      try simp only [Act.put, List.setIfInBounds_toArray, List.set_cons_zero, List.set_cons_succ]
      refine wpAnyIn_ready (rs := [3]) (by kernel_rfl) (by simp) ?_
      refine AllReadyIn.cons (o := { dst := some 12, op := Op.load 4 (Operand.tmp 11), type := 4, pos := "trie.go:211", after := #[{ on := 2, ground := Ground.data }], guard := none }) rfl (fun K hK => ?_) AllReadyIn.nil
      go_simp
      refine hK _ _ ?_
      clear hK K
      try simp only [Act.put, List.setIfInBounds_toArray, List.set_cons_zero, List.set_cons_succ]
      refine wpAnyIn_take (i := 4) (oi := { dst := some 13, op := Op.move (Operand.tmp 12), type := 4, pos := "trie.go:211", after := #[{ on := 3, ground := Ground.data }], guard := none }) (v := ?_) rfl rfl (by kernel_rfl) (by kernel_rfl) (by kernel_rfl) (fun _ _ _ h => h) ⟨Or.inl ⟨by rfl, ?_⟩, fun _ => rfl⟩ ?_
      rotate_left
      · intro w
        go_simp
        try with_reducible rfl
      try simp only [Act.put, List.setIfInBounds_toArray, List.set_cons_zero, List.set_cons_succ]
      refine wpAnyIn_take (i := 5) (oi := { dst := some 14, op := Op.move (Operand.tmp 1), type := 35, pos := "trie.go:211", after := #[{ on := 4, ground := Ground.guard }], guard := some (4, true) }) (v := ?_) rfl rfl (by kernel_rfl) (by kernel_rfl) (by kernel_rfl) (fun _ _ _ h => h) ⟨Or.inl ⟨by rfl, ?_⟩, fun _ => rfl⟩ ?_
      rotate_left
      · intro w
        go_simp
        try with_reducible rfl
      try simp only [Act.put, List.setIfInBounds_toArray, List.set_cons_zero, List.set_cons_succ]
      refine wpAnyIn_take (i := 6) (oi := { dst := some 15, op := Op.move (Operand.tmp 0), type := 68, pos := "trie.go:211", after := #[{ on := 4, ground := Ground.guard }], guard := some (4, true) }) (v := ?_) rfl rfl (by kernel_rfl) (by kernel_rfl) (by kernel_rfl) (fun _ _ _ h => h) ⟨Or.inl ⟨by rfl, ?_⟩, fun _ => rfl⟩ ?_
      rotate_left
      · intro w
        go_simp
        try with_reducible rfl
      try simp only [Act.put, List.setIfInBounds_toArray, List.set_cons_zero, List.set_cons_succ]
      refine wpAnyIn_take (i := 7) (oi := { dst := some 16, op := Op.nilCheck (Operand.tmp 15), type := 0, pos := "trie.go:211", after := #[{ on := 6, ground := Ground.data }, { on := 4, ground := Ground.guard }], guard := some (4, true) }) (v := ?_) rfl rfl (by kernel_rfl) (by kernel_rfl) (by kernel_rfl) (fun _ _ _ h => h) ⟨Or.inl ⟨by rfl, ?_⟩, fun _ => rfl⟩ ?_
      rotate_left
      · intro w
        go_simp
        try with_reducible rfl
      try simp only [Act.put, List.setIfInBounds_toArray, List.set_cons_zero, List.set_cons_succ]
      refine wpAnyIn_take (i := 8) (oi := { dst := some 17, op := Op.fieldAddr 76 (Operand.tmp 16) 0, type := 0, pos := "trie.go:211", after := #[{ on := 7, ground := Ground.data }, { on := 4, ground := Ground.guard }], guard := some (4, true) }) (v := ?_) rfl rfl (by kernel_rfl) (by kernel_rfl) (by kernel_rfl) (fun _ _ _ h => h) ⟨Or.inl ⟨by rfl, ?_⟩, fun _ => rfl⟩ ?_
      rotate_left
      · intro w
        go_simp
        try with_reducible rfl
      try simp only [Act.put, List.setIfInBounds_toArray, List.set_cons_zero, List.set_cons_succ]
      refine wpAnyIn_ready (rs := [9]) (by kernel_rfl) (by simp) ?_
      refine AllReadyIn.cons (o := { dst := some 18, op := Op.load 30 (Operand.tmp 17), type := 30, pos := "trie.go:211", after := #[{ on := 8, ground := Ground.data }, { on := 4, ground := Ground.guard }], guard := some (4, true) }) rfl (fun K hK => ?_) AllReadyIn.nil
      go_simp
      refine hK _ _ ?_
      clear hK K
      try simp only [Act.put, List.setIfInBounds_toArray, List.set_cons_zero, List.set_cons_succ]
      refine wpAnyIn_ready (rs := [10]) (by kernel_rfl) (by simp) ?_
      refine AllReadyIn.cons (o := { dst := some 19, op := Op.call { callee := Callee.value (Operand.tmp 14), args := #[Operand.tmp 18], argTypes := #[30] }, type := 4, pos := "trie.go:211", after := #[{ on := 5, ground := Ground.data }, { on := 9, ground := Ground.data }, { on := 4, ground := Ground.chain }, { on := 4, ground := Ground.guard }], guard := some (4, true) }) rfl (fun K hK => ?_) AllReadyIn.nil
      go_simp
      refine ⟨hdd _, ?_⟩
      refine (let_any _ a _).mono ?_
      rintro e W9 ⟨rfl, h9⟩
      obtain ⟨d0, d1, d2, d3, d5, fn, tmps, assign, body, hy, hR⟩ := HW9 W9 h9
      clear h9 HW9
      try go_simp
      refine hK _ _ ?_
      clear hK K
      try simp only [Act.put, List.setIfInBounds_toArray, List.set_cons_zero, List.set_cons_succ]
      refine wpAnyIn_take (i := 11) (oi := { dst := some 20, op := Op.pick (Operand.tmp 13) (Operand.tmp 19) (Operand.const (Value.bool false)), type := 4, pos := "trie.go:211", after := #[{ on := 4, ground := Ground.data }, { on := 10, ground := Ground.data }], guard := none }) (v := ?_) rfl rfl (by kernel_rfl) (by kernel_rfl) (by kernel_rfl) (fun _ _ _ h => h) ⟨Or.inl ⟨by rfl, ?_⟩, fun _ => rfl⟩ ?_
      rotate_left
      · intro w
        go_simp
        try with_reducible rfl
      try simp only [Act.put, List.setIfInBounds_toArray, List.set_cons_zero, List.set_cons_succ]
      refine wpAnyIn_take (i := 12) (oi := { dst := some 21, op := Op.move (Operand.tmp 20), type := 4, pos := "trie.go:211", after := #[{ on := 11, ground := Ground.data }, { on := 10, ground := Ground.chain }], guard := none }) (v := ?_) rfl rfl (by kernel_rfl) (by kernel_rfl) (by kernel_rfl) (fun _ _ _ h => h) ⟨Or.inl ⟨by rfl, ?_⟩, fun _ => rfl⟩ ?_
      rotate_left
      · intro w
        go_simp
        try with_reducible rfl
      try simp only [Act.put, List.setIfInBounds_toArray, List.set_cons_zero, List.set_cons_succ]
      refine wpAnyIn_take (i := 13) (oi := { dst := some 22, op := Op.move (Operand.tmp 2), type := 88, pos := "trie.go:211", after := #[{ on := 12, ground := Ground.guard }], guard := some (12, true) }) (v := ?_) rfl rfl (by kernel_rfl) (by kernel_rfl) (by kernel_rfl) (fun _ _ _ h => h) ⟨Or.inl ⟨by rfl, ?_⟩, fun _ => rfl⟩ ?_
      rotate_left
      · intro w
        go_simp
        try with_reducible rfl
      try simp only [Act.put, List.setIfInBounds_toArray, List.set_cons_zero, List.set_cons_succ]
      refine wpAnyIn_take (i := 14) (oi := { dst := some 23, op := Op.move (Operand.tmp 0), type := 68, pos := "trie.go:211", after := #[{ on := 12, ground := Ground.guard }], guard := some (12, true) }) (v := ?_) rfl rfl (by kernel_rfl) (by kernel_rfl) (by kernel_rfl) (fun _ _ _ h => h) ⟨Or.inl ⟨by rfl, ?_⟩, fun _ => rfl⟩ ?_
      rotate_left
      · intro w
        go_simp
        try with_reducible rfl
      try simp only [Act.put, List.setIfInBounds_toArray, List.set_cons_zero, List.set_cons_succ]
      refine wpAnyIn_take (i := 15) (oi := { dst := some 24, op := Op.nilCheck (Operand.tmp 23), type := 0, pos := "trie.go:211", after := #[{ on := 14, ground := Ground.data }, { on := 12, ground := Ground.guard }], guard := some (12, true) }) (v := ?_) rfl rfl (by kernel_rfl) (by kernel_rfl) (by kernel_rfl) (fun _ _ _ h => h) ⟨Or.inl ⟨by rfl, ?_⟩, fun _ => rfl⟩ ?_
      rotate_left
      · intro w
        go_simp
        try with_reducible rfl
      try simp only [Act.put, List.setIfInBounds_toArray, List.set_cons_zero, List.set_cons_succ]
      refine wpAnyIn_take (i := 16) (oi := { dst := some 25, op := Op.fieldAddr 76 (Operand.tmp 24) 0, type := 0, pos := "trie.go:211", after := #[{ on := 15, ground := Ground.data }, { on := 12, ground := Ground.guard }], guard := some (12, true) }) (v := ?_) rfl rfl (by kernel_rfl) (by kernel_rfl) (by kernel_rfl) (fun _ _ _ h => h) ⟨Or.inl ⟨by rfl, ?_⟩, fun _ => rfl⟩ ?_
      rotate_left
      · intro w
        go_simp
        try with_reducible rfl
      try simp only [Act.put, List.setIfInBounds_toArray, List.set_cons_zero, List.set_cons_succ]
      refine wpAnyIn_take (i := 18) (oi := { dst := some 27, op := Op.move (Operand.tmp 0), type := 68, pos := "trie.go:211", after := #[{ on := 12, ground := Ground.guard }], guard := some (12, true) }) (v := ?_) rfl rfl (by kernel_rfl) (by kernel_rfl) (by kernel_rfl) (fun _ _ _ h => h) ⟨Or.inl ⟨by rfl, ?_⟩, fun _ => rfl⟩ ?_
      rotate_left
      · intro w
        go_simp
        try with_reducible rfl
      try simp only [Act.put, List.setIfInBounds_toArray, List.set_cons_zero, List.set_cons_succ]
      refine wpAnyIn_take (i := 19) (oi := { dst := some 28, op := Op.nilCheck (Operand.tmp 27), type := 0, pos := "trie.go:211", after := #[{ on := 18, ground := Ground.data }, { on := 12, ground := Ground.guard }], guard := some (12, true) }) (v := ?_) rfl rfl (by kernel_rfl) (by kernel_rfl) (by kernel_rfl) (fun _ _ _ h => h) ⟨Or.inl ⟨by rfl, ?_⟩, fun _ => rfl⟩ ?_
      rotate_left
      · intro w
        go_simp
        try with_reducible rfl
      try simp only [Act.put, List.setIfInBounds_toArray, List.set_cons_zero, List.set_cons_succ]
      refine wpAnyIn_take (i := 20) (oi := { dst := some 29, op := Op.fieldAddr 76 (Operand.tmp 28) 2, type := 0, pos := "trie.go:211", after := #[{ on := 19, ground := Ground.data }, { on := 12, ground := Ground.guard }], guard := some (12, true) }) (v := ?_) rfl rfl (by kernel_rfl) (by kernel_rfl) (by kernel_rfl) (fun _ _ _ h => h) ⟨Or.inl ⟨by rfl, ?_⟩, fun _ => rfl⟩ ?_
      rotate_left
      · intro w
        go_simp
        try with_reducible rfl
      try simp only [Act.put, List.setIfInBounds_toArray, List.set_cons_zero, List.set_cons_succ]
      refine wpAnyIn_ready (rs := [17, 21]) (by kernel_rfl) (by simp) ?_
      refine AllReadyIn.cons (o := { dst := some 26, op := Op.load 30 (Operand.tmp 25), type := 30, pos := "trie.go:211", after := #[{ on := 16, ground := Ground.data }, { on := 12, ground := Ground.guard }], guard := some (12, true) }) rfl (fun K hK => ?_) (AllReadyIn.cons (o := { dst := some 30, op := Op.load 3 (Operand.tmp 29), type := 3, pos := "trie.go:211", after := #[{ on := 20, ground := Ground.data }, { on := 12, ground := Ground.guard }], guard := some (12, true) }) rfl (fun K hK => ?_) AllReadyIn.nil)
      · go_simp
        refine hK _ _ ?_
        clear hK K
        try simp only [Act.put, List.setIfInBounds_toArray, List.set_cons_zero, List.set_cons_succ]
        refine wpAnyIn_ready (rs := [21]) (by kernel_rfl) (by simp) ?_
        refine AllReadyIn.cons (o := { dst := some 30, op := Op.load 3 (Operand.tmp 29), type := 3, pos := "trie.go:211", after := #[{ on := 20, ground := Ground.data }, { on := 12, ground := Ground.guard }], guard := some (12, true) }) rfl (fun K hK => ?_) AllReadyIn.nil
        go_simp
        refine hK _ _ ?_
        clear hK K
        try simp only [Act.put, List.setIfInBounds_toArray, List.set_cons_zero, List.set_cons_succ]
        refine wpAnyIn_ready (rs := [22]) (by kernel_rfl) (by simp) ?_
        refine AllReadyIn.cons (o := { dst := some 31, op := Op.call { callee := Callee.value (Operand.tmp 22), args := #[Operand.tmp 26, Operand.tmp 30], argTypes := #[30, 3] }, type := 4, pos := "trie.go:211", after := #[{ on := 13, ground := Ground.data }, { on := 17, ground := Ground.data }, { on := 21, ground := Ground.data }, { on := 12, ground := Ground.chain }, { on := 12, ground := Ground.guard }], guard := some (12, true) }) rfl (fun K hK => ?_) AllReadyIn.nil
        go_simp
        refine ⟨hdd _, ?_⟩
        refine hR.mono ?_
        clear hR
        rintro e W2 (⟨rfl, k6, hJ2, hb2⟩ | ⟨rfl, hx2⟩)
        · try go_simp
          refine hK _ _ ?_
          clear hK K
          try simp only [Act.put, List.setIfInBounds_toArray, List.set_cons_zero, List.set_cons_succ]
          refine wpAnyIn_take (i := 23) (oi := { dst := some 32, op := Op.unOp UnOp.not 4 (Operand.tmp 31), type := 4, pos := "trie.go:211", after := #[{ on := 22, ground := Ground.data }, { on := 12, ground := Ground.guard }], guard := some (12, true) }) (v := ?_) rfl rfl (by kernel_rfl) (by kernel_rfl) (by kernel_rfl) (fun _ _ _ h => h) ⟨Or.inl ⟨by rfl, ?_⟩, fun _ => rfl⟩ ?_
          rotate_left
          · intro w
            go_simp
            try with_reducible rfl
          try simp only [Act.put, List.setIfInBounds_toArray, List.set_cons_zero, List.set_cons_succ]
          refine wpAnyIn_take (i := 24) (oi := { dst := some 33, op := Op.pick (Operand.tmp 21) (Operand.tmp 32) (Operand.const (Value.bool false)), type := 4, pos := "trie.go:211", after := #[{ on := 12, ground := Ground.data }, { on := 23, ground := Ground.data }], guard := none }) (v := ?_) rfl rfl (by kernel_rfl) (by kernel_rfl) (by kernel_rfl) (fun _ _ _ h => h) ⟨Or.inl ⟨by rfl, ?_⟩, fun _ => rfl⟩ ?_
          rotate_left
          · intro w
            go_simp
            try with_reducible rfl
          try simp only [Act.put, List.setIfInBounds_toArray, List.set_cons_zero, List.set_cons_succ]
          refine wpAnyIn_done (by kernel_rfl) ?_ _
          have ih := HIH.out _ _ hb2 hJ2 (by have := HR.out; simp at this ⊢; omega)
          clear HIH
          gi_wp2_with (first
            | ((try refine ⟨hdd _, ?_⟩); gi_at_call 46; refine ih.mono ?_; clear ih; rintro e W1 (⟨rfl, c7', hb1, hR⟩ | ⟨rfl, q, hq, hx1⟩))
            | ((try refine ⟨hdd _, ?_⟩); gi_at_call 46; refine hR.mono ?_; clear hR; rintro e W3 (⟨rfl, hJ3, hb3⟩ | ⟨rfl, q, hq, hx3⟩)))
          · go_ret
            exact .inl ⟨rfl, by simpa [Tt.items] using hJ3, hb3⟩
          · go_ret
            exact .inr ⟨rfl, (a, v) :: q, by simpa [Tt.items] using hq, by simpa using hx3⟩
          · go_ret
            exact .inr ⟨rfl, (a, v) :: q, by simpa [Tt.items] using hq.trans (List.prefix_append _ _), by simpa using hx1⟩
        · try go_simp
          refine hK _ _ ?_
          clear hK K
          try simp only [Act.put, List.setIfInBounds_toArray, List.set_cons_zero, List.set_cons_succ]
          refine wpAnyIn_take (i := 23) (oi := { dst := some 32, op := Op.unOp UnOp.not 4 (Operand.tmp 31), type := 4, pos := "trie.go:211", after := #[{ on := 22, ground := Ground.data }, { on := 12, ground := Ground.guard }], guard := some (12, true) }) (v := ?_) rfl rfl (by kernel_rfl) (by kernel_rfl) (by kernel_rfl) (fun _ _ _ h => h) ⟨Or.inl ⟨by rfl, ?_⟩, fun _ => rfl⟩ ?_
          rotate_left
          · intro w
            go_simp
            try with_reducible rfl
          try simp only [Act.put, List.setIfInBounds_toArray, List.set_cons_zero, List.set_cons_succ]
          refine wpAnyIn_take (i := 24) (oi := { dst := some 33, op := Op.pick (Operand.tmp 21) (Operand.tmp 32) (Operand.const (Value.bool false)), type := 4, pos := "trie.go:211", after := #[{ on := 12, ground := Ground.data }, { on := 23, ground := Ground.data }], guard := none }) (v := ?_) rfl rfl (by kernel_rfl) (by kernel_rfl) (by kernel_rfl) (fun _ _ _ h => h) ⟨Or.inl ⟨by rfl, ?_⟩, fun _ => rfl⟩ ?_
          rotate_left
          · intro w
            go_simp
            try with_reducible rfl
          try simp only [Act.put, List.setIfInBounds_toArray, List.set_cons_zero, List.set_cons_succ]
          refine wpAnyIn_done (by kernel_rfl) ?_ _
          gi_wp2
          go_ret
          exact .inr ⟨rfl, [(a, v)], by simp [Tt.items], hx2⟩
      · go_simp
        refine hK _ _ ?_
        clear hK K
        try simp only [Act.put, List.setIfInBounds_toArray, List.set_cons_zero, List.set_cons_succ]
        refine wpAnyIn_ready (rs := [17]) (by kernel_rfl) (by simp) ?_
        refine AllReadyIn.cons (o := { dst := some 26, op := Op.load 30 (Operand.tmp 25), type := 30, pos := "trie.go:211", after := #[{ on := 16, ground := Ground.data }, { on := 12, ground := Ground.guard }], guard := some (12, true) }) rfl (fun K hK => ?_) AllReadyIn.nil
        go_simp
        refine hK _ _ ?_
        clear hK K
        try simp only [Act.put, List.setIfInBounds_toArray, List.set_cons_zero, List.set_cons_succ]
        refine wpAnyIn_ready (rs := [22]) (by kernel_rfl) (by simp) ?_
        refine AllReadyIn.cons (o := { dst := some 31, op := Op.call { callee := Callee.value (Operand.tmp 22), args := #[Operand.tmp 26, Operand.tmp 30], argTypes := #[30, 3] }, type := 4, pos := "trie.go:211", after := #[{ on := 13, ground := Ground.data }, { on := 17, ground := Ground.data }, { on := 21, ground := Ground.data }, { on := 12, ground := Ground.chain }, { on := 12, ground := Ground.guard }], guard := some (12, true) }) rfl (fun K hK => ?_) AllReadyIn.nil
        go_simp
        refine ⟨hdd _, ?_⟩
        refine hR.mono ?_
        clear hR
        rintro e W2 (⟨rfl, k6, hJ2, hb2⟩ | ⟨rfl, hx2⟩)
        · try go_simp
          refine hK _ _ ?_
          clear hK K
          try simp only [Act.put, List.setIfInBounds_toArray, List.set_cons_zero, List.set_cons_succ]
          refine wpAnyIn_take (i := 23) (oi := { dst := some 32, op := Op.unOp UnOp.not 4 (Operand.tmp 31), type := 4, pos := "trie.go:211", after := #[{ on := 22, ground := Ground.data }, { on := 12, ground := Ground.guard }], guard := some (12, true) }) (v := ?_) rfl rfl (by kernel_rfl) (by kernel_rfl) (by kernel_rfl) (fun _ _ _ h => h) ⟨Or.inl ⟨by rfl, ?_⟩, fun _ => rfl⟩ ?_
          rotate_left
          · intro w
            go_simp
            try with_reducible rfl
          try simp only [Act.put, List.setIfInBounds_toArray, List.set_cons_zero, List.set_cons_succ]
          refine wpAnyIn_take (i := 24) (oi := { dst := some 33, op := Op.pick (Operand.tmp 21) (Operand.tmp 32) (Operand.const (Value.bool false)), type := 4, pos := "trie.go:211", after := #[{ on := 12, ground := Ground.data }, { on := 23, ground := Ground.data }], guard := none }) (v := ?_) rfl rfl (by kernel_rfl) (by kernel_rfl) (by kernel_rfl) (fun _ _ _ h => h) ⟨Or.inl ⟨by rfl, ?_⟩, fun _ => rfl⟩ ?_
          rotate_left
          · intro w
            go_simp
            try with_reducible rfl
          try simp only [Act.put, List.setIfInBounds_toArray, List.set_cons_zero, List.set_cons_succ]
          refine wpAnyIn_done (by kernel_rfl) ?_ _
          have ih := HIH.out _ _ hb2 hJ2 (by have := HR.out; simp at this ⊢; omega)
          clear HIH
          gi_wp2_with (first
            | ((try refine ⟨hdd _, ?_⟩); gi_at_call 46; refine ih.mono ?_; clear ih; rintro e W1 (⟨rfl, c7', hb1, hR⟩ | ⟨rfl, q, hq, hx1⟩))
            | ((try refine ⟨hdd _, ?_⟩); gi_at_call 46; refine hR.mono ?_; clear hR; rintro e W3 (⟨rfl, hJ3, hb3⟩ | ⟨rfl, q, hq, hx3⟩)))
          · go_ret
            exact .inl ⟨rfl, by simpa [Tt.items] using hJ3, hb3⟩
          · go_ret
            exact .inr ⟨rfl, (a, v) :: q, by simpa [Tt.items] using hq, by simpa using hx3⟩
          · go_ret
            exact .inr ⟨rfl, (a, v) :: q, by simpa [Tt.items] using hq.trans (List.prefix_append _ _), by simpa using hx1⟩
        · try go_simp
          refine hK _ _ ?_
          clear hK K
          try simp only [Act.put, List.setIfInBounds_toArray, List.set_cons_zero, List.set_cons_succ]
          refine wpAnyIn_take (i := 23) (oi := { dst := some 32, op := Op.unOp UnOp.not 4 (Operand.tmp 31), type := 4, pos := "trie.go:211", after := #[{ on := 22, ground := Ground.data }, { on := 12, ground := Ground.guard }], guard := some (12, true) }) (v := ?_) rfl rfl (by kernel_rfl) (by kernel_rfl) (by kernel_rfl) (fun _ _ _ h => h) ⟨Or.inl ⟨by rfl, ?_⟩, fun _ => rfl⟩ ?_
          rotate_left
          · intro w
            go_simp
            try with_reducible rfl
          try simp only [Act.put, List.setIfInBounds_toArray, List.set_cons_zero, List.set_cons_succ]
          refine wpAnyIn_take (i := 24) (oi := { dst := some 33, op := Op.pick (Operand.tmp 21) (Operand.tmp 32) (Operand.const (Value.bool false)), type := 4, pos := "trie.go:211", after := #[{ on := 12, ground := Ground.data }, { on := 23, ground := Ground.data }], guard := none }) (v := ?_) rfl rfl (by kernel_rfl) (by kernel_rfl) (by kernel_rfl) (fun _ _ _ h => h) ⟨Or.inl ⟨by rfl, ?_⟩, fun _ => rfl⟩ ?_
          rotate_left
          · intro w
            go_simp
            try with_reducible rfl
          try simp only [Act.put, List.setIfInBounds_toArray, List.set_cons_zero, List.set_cons_succ]
          refine wpAnyIn_done (by kernel_rfl) ?_ _
          gi_wp2
          go_ret
          exact .inr ⟨rfl, [(a, v)], by simp [Tt.items], hx2⟩
end Go.Proofs.Ythnjepehiddogaa
