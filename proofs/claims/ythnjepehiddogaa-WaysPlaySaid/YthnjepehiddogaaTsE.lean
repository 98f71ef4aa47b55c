/-
  The iterator over a trie: its contract. Conditions: none.
-/
import Derived.Test.YthnjepehiddogaaTsD
set_option linter.unusedVariables false
set_option linter.unusedSimpArgs false
namespace Go.Proofs.Ythnjepehiddogaa
open Go.RowKit Go.MapKept

attribute [local go_sem] Oper.semAt_some wide_fn

def rItems (R : List Rt) : List (Tp × Int) := R.flatMap fun r => r.t.items
theorem rItems_step {R : List Rt} {k : Nat} {r : Rt} (h : R[k]? = some r) : rItems (R.take (k + 1)) = rItems (R.take k) ++ r.t.items := by
  unfold rItems
  rw [List.take_add_one, h, List.flatMap_append]
  simp
theorem rItems_pre (R : List Rt) (k : Nat) : rItems (R.take k) <+: rItems R := by
  refine ⟨rItems (R.drop k), ?_⟩
  unfold rItems
  rw [← List.flatMap_append, List.take_append_drop]
theorem rItems_mem {R : List Rt} {q : Tp} {x : Int} : (q, x) ∈ rItems R ↔ RMem R q x := by
  unfold rItems RMem
  simp only [List.mem_flatMap, Tt.items_mem]
theorem TrieAt.good {w : World} {bt base : Nat} {v : Value} {n : Int} {R : List Rt} (h : TrieAt w bt base v n R) {r : Rt} (hr : r ∈ R) : ∀ x ∈ r.t.items, good x := fun ⟨q, x⟩ hx => by
  obtain ⟨h1, h2, h3⟩ := (h.g r hr).memf (Tt.items_mem.1 hx)
  have := h.f r hr
  exact ⟨h1, by show q.fam = 1 ∨ q.fam = 2; rw [h2]; exact this.1, by show q.rd = 0; rw [h3]; exact this.2⟩
theorem OwnM.form' {w : World} {base : Nat} {e : TypeId} {size n : Nat} {v : Value} {xs : List Value} (h : OwnM w base e size v n xs) : ∃ A cap, v = .slice A n cap := OwnM.form h

set_option maxRecDepth 100000 in
set_option maxHeartbeats 4000000 in
theorem all1_in (n : Nat) (l Bt n₀ bt base : Nat) (v : Value) (nn : Int) (R : List Rt) (J Jx : List (Tp × Int) → World → Prop)
    (hJ : ∀ pre W o, J pre W → J pre (W.alloc o)) (hJd : ∀ pre W, J pre W → J pre W.drew)
    (hY : ∀ m pre x W, J pre W → pre.length < (rItems R).length → YieldAt Fence.wide m Try.prog l (encI x) W fun e W' =>
      (e = .returned (.bool true) ∧ J (pre ++ [x]) W' ∧ Below n₀ W W') ∨ (e = .returned (.bool false) ∧ Jx (pre ++ [x]) W'))
    (W : World) (hBt : W.cell? ⟨Bt, 0, none⟩ = some (.pointer (some ⟨bt, 0, none⟩))) (hT : TrieAt W bt base v nn R) (hX : ∀ x, trX bt v R x → x < n₀) (hn : n₀ ≤ W.heap.size) (h0 : J [] W) :
    CallsIn Fence.wide n Try.prog 45 #[.func (.yield l) #[] #[], .pointer (some ⟨Bt, 0, none⟩)] W fun e W' => (∃ v, e = .returned v) ∧
      ((∃ ys, ys = rItems R ∧ J ys W') ∨ (∃ pre, pre <+: rItems R ∧ Jx pre W')) := by
  obtain ⟨A, cap, rfl⟩ := OwnM.form' hT.o
  obtain ⟨t0, t1, t2, _⟩ := hT.c3
  have hdd : ∀ k : Nat, (Fence.wide.depth.isSome = true → 1 ≤ k) := fun k h => by cases h
  have h2 := hT.two
  have HT := Lib.hid hT
  have HX := Lib.hid hX
  have HWK : Hid (∀ (m : Nat) (k : Nat) (r : Rt) (wr : World) (o : Obj), R[k]? = some r → J (rItems (R.take k)) wr → Below n₀ W wr →
      CallsIn Fence.wide m Try.prog 46 #[.pointer r.A, .func (.func 47) #[] #[], .func (.yield l) #[] #[]] (wr.alloc o) fun e W' =>
        (e = .returned (.bool true) ∧ J (rItems (R.take (k + 1))) W' ∧ Below n₀ W W') ∨ (e = .returned (.bool false) ∧ ∃ q, q <+: rItems R ∧ Jx q W')) := by
    show ∀ (m : Nat) (k : Nat) (r : Rt) (wr : World) (o : Obj), _
    intro m k r wr o hr hj hb
    have hm := List.mem_of_getElem? hr
    have hb2 : Below n₀ W (wr.alloc o) := hb.alloc (Nat.le_trans hn hb.size) o
    have hS : ∀ x ∈ r.S, x < n₀ := fun x hx => hX x (Or.inr (Or.inr ⟨r, hm, hx⟩))
    have e := rItems_step hr
    have hpre := rItems_pre R (k + 1)
    rw [e] at hpre
    have hle := hpre.length_le
    rw [List.length_append] at hle
    refine (walk_in l n₀ (rItems R).length J Jx hJ hJd hY r.t m r.S (.pointer r.A) (rItems (R.take k)) (wr.alloc o) ((hT.t r hm).below hb2 hS) hS (Nat.le_trans hn hb2.size) (hT.good hm) (hJ _ _ _ hj) hle).mono ?_
    rintro e2 W2 (⟨rfl, h3, h4⟩ | ⟨rfl, q, h3, h4⟩)
    · exact .inl ⟨rfl, by rw [e]; exact h3, hb2.trans h4⟩
    · exact .inr ⟨rfl, _, ((List.prefix_append_right_inj _).2 h3).trans hpre, h4⟩
  have HNO := Lib.hid (tnone_any bt W t0)
  have HN := Lib.hid hn
  have HJ0 : Hid (J (rItems (R.take 0)) W) := h0
  clear hT hX hn hY hJ hJd h0
  refine callsIn_of_wp Try.func45 rfl trivial ?_ rfl
  simp only [Try.ntmps45, List.size_toArray, List.length_cons, List.length_nil, Nat.reduceAdd, Nat.reduceSub, Array.replicate_succ, Array.replicate_zero, List.push_toArray, List.append_toArray, List.nil_append, List.cons_append]
  gi_wp2_with ((try refine ⟨hdd _, ?_⟩); gi_at_call 30; refine (callsIn_wide.2 HNO.out).mono ?_; rintro e W9 ⟨rfl, h9⟩; have h9 := h9.symm; subst h9)
  gi_loopw [12] (fun i wr => ∃ k : Nat, k ≤ R.length ∧ i = .int .i64 k ∧ Hid (J (rItems (R.take k)) wr) ∧ Hid (Below n₀ W wr)) (fun i _ => R.length + 1 - (intOf i).toNat)
  case atStart => exact ⟨0, Nat.zero_le _, rfl, HJ0, Below.refl _ _⟩
  case round =>
    obtain ⟨k, hk, rfl, HJr, HBr⟩ := hrel
    by_cases hlt : k < R.length
    · obtain ⟨r, hr⟩ : ∃ r, R[k]? = some r := ⟨R[k], List.getElem?_eq_getElem hlt⟩
      have HRr := Lib.hid hr
      have hgz := Nat.le_trans HN.out HBr.out.size
      have HTr : Hid (TrieAt wr bt base (.slice A R.length cap) nn R) := HT.out.keep fun x hx => HBr.out.block x (HX.out x hx)
      obtain ⟨g, cap2, hv, hgl, hnc, hcm, _, _, _, r0, r1, r2, _⟩ := HTr.out.at_ hr
      simp only [Value.slice.injEq] at hv
      obtain ⟨rfl, _, rfl⟩ := hv
      clear hr
      obtain ⟨f, d, A2, S2, T2⟩ := r
      simp only at r0 r1 r2
      have hw := HWK.out (n - 1) k _ wr (.cells #[.int .i64 f, .int .u64 d, .pointer A2] 70) HRr.out HJr.out HBr.out
      gi_wp2_with ((try refine ⟨hdd _, ?_⟩); gi_at_call 46; refine hw.mono ?_; clear hw; rintro e W9 (⟨rfl, h3, h4⟩ | ⟨rfl, q, h3, h4⟩))
      · exact ⟨⟨k + 1, hlt, by simp, h3, h4⟩, by simp [intOf]; omega⟩
      · refine bodyPost_ret (results_none rfl _ _ _) rfl ?_
        exact ⟨⟨_, rfl⟩, .inr ⟨q, h3, h4⟩⟩
    · obtain rfl : k = R.length := by omega
      gi_wp2
      go_end0
      exact ⟨⟨_, rfl⟩, .inl ⟨_, by rw [List.take_length], HJr.out⟩⟩
set_option maxHeartbeats 1000000 in
theorem all_any (n : Nat) (p : Option Addr) (w : World) :
    CallsIn Fence.wide n Try.prog 42 #[.pointer p] w fun e w' => e = .returned (.func (.func 45) #[] #[.pointer (some ⟨w.heap.size, 0, none⟩)]) ∧ w' = w.alloc (.cells #[.pointer p] 48) := by
  refine callsIn_of_wp Try.func42 rfl trivial ?_ rfl
  simp only [Try.ntmps42, List.size_toArray, List.length_cons, List.length_nil, Nat.reduceAdd, Nat.reduceSub, Array.replicate_succ, Array.replicate_zero, List.push_toArray, List.append_toArray, List.nil_append, List.cons_append]
  gi_wp2
  go_ret
  exact ⟨rfl, rfl⟩
theorem all_stops (n : Nat) (Bt n₀ bt base : Nat) (v : Value) (nn : Int) (R : List Rt) (w : World) (hBt : Bt < w.heap.size) (hn₀ : n₀ ≤ w.heap.size)
    (hc : w.cell? ⟨Bt, 0, none⟩ = some (.pointer (some ⟨bt, 0, none⟩))) (hT : TrieAt w bt base v nn R) (hX : ∀ x, trX bt v R x → x < n₀) :
    SeqStopsK Fence.wide n Try.prog 45 #[.pointer (some ⟨Bt, 0, none⟩)] encI (Below n₀) (fun ys => ys = rItems R) (fun pre => pre <+: rItems R) (rItems R).length w := fun l J Jx W hW hJ _ hY h0 =>
  all1_in n l Bt n₀ bt base v nn R J Jx (fun _ _ o h => hJ _ _ _ none h (World.grownBy_alloc _ o none) (fun r e => by cases e)) (fun _ W h => hJ _ _ _ none h (show W.grownBy W.drew none from ⟨rfl, rfl, rfl, Nat.le_refl _, fun _ _ _ => rfl⟩) (fun r e => by cases e))
    (fun m pre x W hj hl => yieldAt_anyDepth rfl m (hY pre x W hj hl)) W ((hW.cell (p := ⟨Bt, 0, none⟩) hBt).trans hc) (hT.keep fun x hx => hW.block x (Nat.lt_of_lt_of_le (hX x hx) hn₀)) hX (Nat.le_trans hn₀ hW.size) h0
end Go.Proofs.Ythnjepehiddogaa
