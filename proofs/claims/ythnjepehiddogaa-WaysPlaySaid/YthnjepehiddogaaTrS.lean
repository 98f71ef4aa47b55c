/-
  Ways: two ways that work; what costs are, plainly. Conditions: none.
-/
import Derived.Test.YthnjepehiddogaaTrR
set_option linter.unusedVariables false
set_option linter.unusedSimpArgs false
namespace Go.Proofs.Ythnjepehiddogaa
open Go.RowKit Go.MapKept

theorem results_cell1 {fn : Func} {p : Tmp} {t : TypeId} (h : fn.results = #[.cell p t]) (tmps : Array Value) (P : Program) (w : World) :
    (results fn tmps).run P w = ((asAddr (tmps.getD p undef)).run P w).andThen fun a w₁ => (loadVar t a).run P w₁ := by
  simp only [results, h]
  simp [Sem.run_bind, Result.andThen]
theorem conv4 {W : World} {b : Nat} {T : TypeId} (x : UInt8) (h : CellsAt W b #[.int .u8 10, .int .u8 (x.toNat : Nat), .int .u8 0, .int .u8 0] T) : (convert 63 9 (.slice (some ⟨b, 0, none⟩) 4 4)).run Try.prog W = .ok (.string ⟨#[10, x, 0, 0]⟩) W := by
  refine run_convert_bytes_back (P := Try.prog) W 63 9 5 ⟨b, 0, none⟩ 4 [10, x, 0, 0] Try.underlying63 Try.underlying5 Try.underlying9 (fun j hj => ?_)
  rw [add_flat, h.c j]
  have hj4 : j < 4 := hj
  rcases (show j = 0 ∨ j = 1 ∨ j = 2 ∨ j = 3 by omega) with rfl | rfl | rfl | rfl <;> rfl
set_option maxRecDepth 100000 in
set_option maxHeartbeats 4000000 in
theorem v4_any (x : UInt8) (n : Int) (w : World) : Calls Try.prog 16 #[.int .u8 10, .int .u8 (x.toNat : Nat), .int .i64 n] w fun e w' => e = .returned (.agg #[.int .i64 1, .int .u64 0, .string (ByteArray.mk #[10, x, 0, 0]), .int .i64 n]) ∧ Below w.heap.size w w' := by
  have hC : CellsAt ((w.alloc (.cells #[.int .i64 0, .int .u64 0, .string (ByteArray.mk #[]), .int .i64 0] 30)).alloc (.cells #[.int .u8 10, .int .u8 (x.toNat : Nat), .int .u8 0, .int .u8 0] 5)) (w.heap.size + 1) #[.int .u8 10, .int .u8 (x.toNat : Nat), .int .u8 0, .int .u8 0] 5 := CellsAt.new' _ _ (by simp) _ _
  have hcv := conv4 x hC
  have HB : Hid (Below w.heap.size w ((w.alloc (.cells #[.int .i64 0, .int .u64 0, .string (ByteArray.mk #[]), .int .i64 0] 30)).alloc (.cells #[.int .u8 10, .int .u8 (x.toNat : Nat), .int .u8 0, .int .u8 0] 5))) := by
    show Below _ _ _
    exact ((Below.refl _ _).alloc (Nat.le_refl _) _).alloc (by simp) _
  clear hC
  go_enter Try.func16, Try.ntmps16
  go_wp2_with fail
  try simp only [Exit.inBlock, Exit.then]
  refine bodyPost_ret (v := .agg #[.int .i64 1, .int .u64 0, .string (ByteArray.mk #[10, x, 0, 0]), .int .i64 n]) (by rw [results_cell1 rfl]; go_simp) rfl ⟨rfl, ?_⟩
  clear hcv
  repeat' (first | with_reducible exact HB.out | with_reducible exact Below.refl _ _ | with_reducible refine Below.setCell ?_ (by simp) _ | with_reducible refine Below.alloc ?_ (by simp <;> omega) _)

/-- costs are what they are -/
theorem LongM.yes {M : Tp → Int → Prop} {p q : Tp} {x y : Int} {b : Bool} (h : LongM M p x b) (hq : M q y) (h1 : q.fam = p.fam) (h2 : q.rd = p.rd) (h3 : cov q p) (hu : ∀ q' z, M q' z → q'.fam = p.fam → q'.rd = p.rd → cov q' p → q.len ≤ q'.len → z = y) : x = y ∧ b = true := by
  cases b with
  | false => exact absurd h3 (h.2 q y hq h1 h2)
  | true =>
    obtain ⟨q', g1, g2, g3, g4, g5⟩ := h
    exact ⟨hu q' x g1 g2 g3 g4 (g5 q y hq h1 h2 h3), rfl⟩
theorem LongM.no {M : Tp → Int → Prop} {p : Tp} {x : Int} {b : Bool} (h : LongM M p x b) (hn : ∀ q y, M q y → q.fam = p.fam → q.rd = p.rd → ¬ cov q p) : x = 0 ∧ b = false := by
  cases b with
  | false => exact ⟨h.1, rfl⟩
  | true =>
    obtain ⟨q, g1, g2, g3, g4, g5⟩ := h
    exact absurd g4 (hn q x g1 g2 g3)
instance (a b : Tp) : Decidable (cov a b) := by unfold cov eqb; infer_instance
def wk1 : Tp := ⟨1, 0, ByteArray.mk #[10, 0, 0, 0], 8⟩
def wk2 : Tp := ⟨1, 0, ByteArray.mk #[10, 1, 0, 0], 16⟩
def wkM (q : Tp) (x : Int) : Prop := setM (setM (fun _ _ => False) wk1 5) wk2 2 q x
theorem wk_in {q : Tp} {x : Int} (h : wkM q x) : (q = wk2 ∧ x = 2) ∨ (q = wk1 ∧ x = 5) := by
  rcases h with h | ⟨_, h | ⟨_, h⟩⟩
  · exact Or.inl h
  · exact Or.inr h
  · exact h.elim
instance (fam rd : Int) (addr : ByteArray) (len cost : Int) : Decidable (wOk fam rd addr len cost) := by unfold wOk; infer_instance
theorem wk_ok1 : wOk 1 0 (ByteArray.mk #[10, 0, 0, 0]) 8 5 := by decide +kernel
theorem wk_ok2 : wOk 1 0 (ByteArray.mk #[10, 1, 0, 0]) 16 2 := by decide +kernel
theorem wk_c1 : cov wk1 ⟨1, 0, ByteArray.mk #[10, 1, 2, 3], 32⟩ := by decide +kernel
theorem wk_c2 : cov wk2 ⟨1, 0, ByteArray.mk #[10, 1, 2, 3], 32⟩ := by decide +kernel
theorem wk_c3 : cov wk1 ⟨1, 0, ByteArray.mk #[10, 2, 0, 1], 32⟩ := by decide +kernel
theorem wk_c4 : ¬ cov wk2 ⟨1, 0, ByteArray.mk #[10, 2, 0, 1], 32⟩ := by decide +kernel
theorem wk_c5 : ¬ cov wk1 ⟨1, 0, ByteArray.mk #[11, 0, 0, 1], 32⟩ := by decide +kernel
theorem wk_c6 : ¬ cov wk2 ⟨1, 0, ByteArray.mk #[11, 0, 0, 1], 32⟩ := by decide +kernel
theorem wk_ne : wk1 ≠ wk2 := fun e => by
  have h1 : wk1.len = wk2.len := by rw [e]
  exact absurd h1 (by decide)
theorem wk_a {x : Int} {b : Bool} (h : CostOf wkM (ByteArray.mk #[10, 1, 2, 3]) x b) : x = 2 ∧ b = true := by
  unfold CostOf at h
  rw [if_pos (by rfl)] at h
  refine h.yes (q := wk2) (Or.inl ⟨rfl, rfl⟩) rfl rfl wk_c2 fun q' z hz _ _ _ hl => ?_
  rcases wk_in hz with ⟨_, h⟩ | ⟨h, _⟩
  · exact h
  · rw [h] at hl
    exact absurd hl (by decide)
theorem wk_b {x : Int} {b : Bool} (h : CostOf wkM (ByteArray.mk #[10, 2, 0, 1]) x b) : x = 5 ∧ b = true := by
  unfold CostOf at h
  rw [if_pos (by rfl)] at h
  refine h.yes (q := wk1) (Or.inr ⟨wk_ne, Or.inl ⟨rfl, rfl⟩⟩) rfl rfl wk_c3 fun q' z hz _ _ hc _ => ?_
  rcases wk_in hz with ⟨h, _⟩ | ⟨_, h⟩
  · rw [h] at hc
    exact absurd hc wk_c4
  · exact h
theorem wk_d {x : Int} {b : Bool} (h : CostOf wkM (ByteArray.mk #[11, 0, 0, 1]) x b) : x = 0 ∧ b = false := by
  unfold CostOf at h
  rw [if_pos (by rfl)] at h
  refine h.no fun q y hq _ _ hc => ?_
  rcases wk_in hq with ⟨h, _⟩ | ⟨h, _⟩
  · rw [h] at hc
    exact wk_c6 hc
  · rw [h] at hc
    exact wk_c5 hc
/-- an Add that may be -/
theorem AddPost.yes {w w' : World} {bw : Nat} {M : Tp → Int → Prop} {X : Nat → Prop} {fam rd : Int} {addr : ByteArray} {len cost : Int} {e : Ending} (h : AddPost w bw M X fam rd addr len cost e w') (hok : wOk fam rd addr len cost) : e = .returned (.int .i64 0) ∧ ∃ X', WaysIs w' bw (setM M ⟨fam, rd, addr, len.toNat⟩ cost) X' ∧ GrownX X w w' ∧ ∀ x, X' x → X x ∨ w.heap.size ≤ x := by
  rcases h with ⟨h, _⟩ | ⟨_, h1, h2⟩
  · exact absurd hok h
  · exact ⟨h1, h2⟩
set_option maxRecDepth 100000 in
set_option maxHeartbeats 4000000 in
theorem works_any (w : World) : Calls Try.prog 6 #[] w fun e w' => e = .returned (.bool true) ∧ Below w.heap.size w w' := by
  go_enter Try.func6, Try.ntmps6
  go_wp2_with fail
  refine (wnew_any w).mono ?_
  rintro e w1 ⟨rfl, hw1⟩
  have HW1 := Lib.hid (ways_new w)
  have HB1 : Hid (Below w.heap.size w w1) := by
    rw [hw1]
    show Below _ _ _
    exact ((Below.refl _ _).alloc (Nat.le_refl _) _).alloc (by simp) _
  rw [← hw1] at HW1
  clear hw1
  go_wp2_with fail
  refine (v4_any 0 8 _).mono ?_
  rintro e w2 ⟨rfl, hb2⟩
  have HB2 : Hid (Below w.heap.size w w2) := HB1.out.trans (hb2.mono HB1.out.size)
  have HW2 := Lib.hid (HW1.out.below hb2)
  clear hb2 HW1 HB1
  go_wp2_with fail
  refine (add_any 1 0 (ByteArray.mk #[10, 0, 0, 0]) 8 5 (by decide) _ _ _ _ HW2.out).mono ?_
  rintro e w3 hp
  obtain ⟨rfl, X3, hw3, hg3, hx3⟩ := hp.yes wk_ok1
  have HB3 : Hid (Below w.heap.size w w3) := hg3.below HB2.out (fun x hx => by omega) HB2.out.size
  have HW3 := Lib.hid hw3
  have HX3 : Hid (∀ x, X3 x → w.heap.size ≤ x) := fun x hx => by
    have := HB2.out.size
    rcases hx3 x hx with k | k
    · omega
    · omega
  clear hp hw3 hg3 hx3 HW2 HB2
  go_wp2_with fail
  refine (v4_any 1 16 _).mono ?_
  rintro e w4 ⟨rfl, hb4⟩
  have HB4 : Hid (Below w.heap.size w w4) := HB3.out.trans (hb4.mono HB3.out.size)
  have HW4 := Lib.hid (HW3.out.below hb4)
  clear hb4 HW3 HB3
  go_wp2_with fail
  refine (add_any 1 0 (ByteArray.mk #[10, 1, 0, 0]) 16 2 (by decide) _ _ _ _ HW4.out).mono ?_
  rintro e w5 hp
  obtain ⟨rfl, X5, hw5, hg5, hx5⟩ := hp.yes wk_ok2
  have HB5 : Hid (Below w.heap.size w w5) := hg5.below HB4.out HX3.out HB4.out.size
  have HW5 := Lib.hid hw5
  clear hp hw5 hg5 hx5 HW4 HB4 HX3
  go_wp2_with fail
  refine (cost_any _ _ _ _ _ HW5.out).mono ?_
  rintro e w6 ⟨hb6, x, b, rfl, hc6⟩
  obtain ⟨rfl, rfl⟩ := wk_a hc6
  have HB6 : Hid (Below w.heap.size w w6) := HB5.out.trans (hb6.mono HB5.out.size)
  have HW6 := Lib.hid (HW5.out.below hb6)
  clear hb6 HW5 HB5 hc6
  go_wp2_with fail
  refine (cost_any _ _ _ _ _ HW6.out).mono ?_
  rintro e w7 ⟨hb7, x, b, rfl, hc7⟩
  obtain ⟨rfl, rfl⟩ := wk_b hc7
  have HB7 : Hid (Below w.heap.size w w7) := HB6.out.trans (hb7.mono HB6.out.size)
  have HW7 := Lib.hid (HW6.out.below hb7)
  clear hb7 HW6 HB6 hc7
  go_wp2_with fail
  refine (cost_any _ _ _ _ _ HW7.out).mono ?_
  rintro e w8 ⟨hb8, x, b, rfl, hc8⟩
  obtain ⟨rfl, rfl⟩ := wk_d hc8
  have HB8 : Hid (Below w.heap.size w w8) := HB7.out.trans (hb8.mono HB7.out.size)
  clear hb8 HW7 HB7 hc8
  go_wp2_with fail
  go_ret
  exact ⟨rfl, HB8.out⟩
end Go.Proofs.Ythnjepehiddogaa
