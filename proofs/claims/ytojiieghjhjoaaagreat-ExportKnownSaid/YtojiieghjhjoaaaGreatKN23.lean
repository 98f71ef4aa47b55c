/-
  Several texts in one.
-/
import Derived.Test.YtojiieghjhjoaaaGreatKN22
set_option linter.unusedVariables false
set_option linter.unusedSimpArgs false
namespace Go.Proofs.YtojiieghjhjoaaaGreat
open Go.RowKit Go.MapKept Go.Shelf
open Go.Lib hiding intOf

theorem run_index_str (w : World) (s : ByteArray) (k : Nat) (x : UInt8) (hx : s.data.toList[k]? = some x) {z : Int} (hz : (k : Int) = z) : (Instr.index 9 (.string s) (.int .i64 z)).run Tryz.prog w = .ok (.int .u8 (x.toNat : Nat)) w := by
  subst hz
  have hk := (List.getElem?_eq_some_iff.1 hx).1
  have e : s.data.toList.length = s.size := by rw [Array.length_toList]; rfl
  have hlt : k < s.size := by omega
  have hg : s[k] = x := by
    have := (List.getElem?_eq_some_iff.1 hx).2
    rw [← this]
    rfl
  simp [go_sem, hlt, hg]
theorem rb_name {P : Program} {c : Code} {Q : Exit → Act → World → Prop} {a : Act} {w : World} (h : ∀ W, W = w → Code.wp P c Q a W) : Code.wp P c Q a w := h w rfl
theorem new1 (w : World) (z : Obj) (cs : Array Value) (T : TypeId) : CellsAt ((w.alloc (.cells cs T)).alloc z) w.heap.size cs T := (CellsAt.new _ _ _).alloc _
theorem new2b (w : World) (x : Obj) (cs : Array Value) (T : TypeId) : CellsAt ((w.alloc x).alloc (.cells cs T)) (w.heap.size + 1) cs T := by
  have h := CellsAt.new (w.alloc x) cs T
  rwa [show (w.alloc x).heap.size = w.heap.size + 1 by simp] at h
theorem below2 (w : World) (x y : Obj) : Below w.heap.size w ((w.alloc x).alloc y) := ((Below.refl _ _).alloc (Nat.le_refl _) _).alloc (by simp) _
theorem below1 (w : World) (x : Obj) : Below w.heap.size w (w.alloc x) := (Below.refl _ _).alloc (Nat.le_refl _) _

theorem okc_any (x : Nat) (w : World) : Calls Tryz.prog 107 #[.int .i32 (x : Nat)] w fun e w' => e = .returned (.bool (!okB x)) ∧ w' = w := by
  obtain ⟨P, hP⟩ : ∃ P, P = !okB x := ⟨_, rfl⟩
  rw [← hP]
  have HP := Lib.hid hP
  clear hP
  unfold okB at HP
  by_cases h1 : 97 ≤ x ∧ x ≤ 122
  · skip
    have da : decide ((x : Int) < 97) = false := decide_eq_false (by omega)
    have ea : ¬ ((x : Int) < 97) := by omega
    have db : decide (122 < (x : Int)) = false := decide_eq_false (by omega)
    have eb : ¬ (122 < (x : Int)) := by omega
    obtain rfl : P = false := by rw [HP.out]; simp; omega
    clear HP
    try clear h1
    try clear h2
    try clear h3
    try clear h4
    try clear h5
    go_enter Tryz.func107, Tryz.ntmps107
    go_wp2_with fail
    go_ret
    exact ⟨rfl, rfl⟩
  by_cases h2 : 48 ≤ x ∧ x ≤ 57
  · skip
    have da : decide ((x : Int) < 97) = true := decide_eq_true (by omega)
    have ea : ((x : Int) < 97) := by omega
    have dc : decide ((x : Int) < 48) = false := decide_eq_false (by omega)
    have ec : ¬ ((x : Int) < 48) := by omega
    have dd : decide (57 < (x : Int)) = false := decide_eq_false (by omega)
    have ed : ¬ (57 < (x : Int)) := by omega
    obtain rfl : P = false := by rw [HP.out]; simp; omega
    clear HP
    try clear h1
    try clear h2
    try clear h3
    try clear h4
    try clear h5
    go_enter Tryz.func107, Tryz.ntmps107
    go_wp2_with fail
    go_ret
    exact ⟨rfl, rfl⟩
  by_cases h3 : x = 45
  · skip
    have da : decide ((x : Int) < 97) = true := decide_eq_true (by omega)
    have ea : ((x : Int) < 97) := by omega
    have dc : decide ((x : Int) < 48) = true := decide_eq_true (by omega)
    have ec : ((x : Int) < 48) := by omega
    have n1 : ((x : Int) == 45) = true := beq_iff_eq.2 (by omega)
    have n2 : ((x : Int) != 45) = false := by simp; omega
    have n3 : (x : Int) = 45 := by omega
    obtain rfl : P = false := by rw [HP.out]; simp; omega
    clear HP
    try clear h1
    try clear h2
    try clear h3
    try clear h4
    try clear h5
    go_enter Tryz.func107, Tryz.ntmps107
    go_wp2_with fail
    go_ret
    exact ⟨rfl, rfl⟩
  by_cases h4 : x < 48
  · skip
    have da : decide ((x : Int) < 97) = true := decide_eq_true (by omega)
    have ea : ((x : Int) < 97) := by omega
    have dc : decide ((x : Int) < 48) = true := decide_eq_true (by omega)
    have ec : ((x : Int) < 48) := by omega
    have n1 : ((x : Int) == 45) = false := beq_eq_false_iff_ne.2 (by omega)
    have n2 : ((x : Int) != 45) = true := by simp; omega
    have n3 : ¬ (x : Int) = 45 := by omega
    obtain rfl : P = true := by rw [HP.out]; simp; omega
    clear HP
    try clear h1
    try clear h2
    try clear h3
    try clear h4
    try clear h5
    go_enter Tryz.func107, Tryz.ntmps107
    go_wp2_with fail
    go_ret
    exact ⟨rfl, rfl⟩
  by_cases h5 : x < 97
  · skip
    have da : decide ((x : Int) < 97) = true := decide_eq_true (by omega)
    have ea : ((x : Int) < 97) := by omega
    have dc : decide ((x : Int) < 48) = false := decide_eq_false (by omega)
    have ec : ¬ ((x : Int) < 48) := by omega
    have dd : decide (57 < (x : Int)) = true := decide_eq_true (by omega)
    have ed : (57 < (x : Int)) := by omega
    have n1 : ((x : Int) == 45) = false := beq_eq_false_iff_ne.2 (by omega)
    have n2 : ((x : Int) != 45) = true := by simp; omega
    have n3 : ¬ (x : Int) = 45 := by omega
    obtain rfl : P = true := by rw [HP.out]; simp; omega
    clear HP
    try clear h1
    try clear h2
    try clear h3
    try clear h4
    try clear h5
    go_enter Tryz.func107, Tryz.ntmps107
    go_wp2_with fail
    go_ret
    exact ⟨rfl, rfl⟩
  have da : decide ((x : Int) < 97) = false := decide_eq_false (by omega)
  have ea : ¬ ((x : Int) < 97) := by omega
  have db : decide (122 < (x : Int)) = true := decide_eq_true (by omega)
  have eb : (122 < (x : Int)) := by omega
  have dc : decide ((x : Int) < 48) = false := decide_eq_false (by omega)
  have ec : ¬ ((x : Int) < 48) := by omega
  have dd : decide (57 < (x : Int)) = true := decide_eq_true (by omega)
  have ed : (57 < (x : Int)) := by omega
  have n1 : ((x : Int) == 45) = false := beq_eq_false_iff_ne.2 (by omega)
  have n2 : ((x : Int) != 45) = true := by simp; omega
  have n3 : ¬ (x : Int) = 45 := by omega
  obtain rfl : P = true := by rw [HP.out]; simp; omega
  clear HP
  try clear h1
  try clear h2
  try clear h3
  try clear h4
  try clear h5
  go_enter Tryz.func107, Tryz.ntmps107
  go_wp2_with fail
  go_ret
  exact ⟨rfl, rfl⟩
theorem okc_grows (w : World) : PredGrows Tryz.prog 107 #[] (fun r => !okB r) w := fun W x _ _ => (okc_any x W).mono fun e w' h => ⟨h.1, h.2 ▸ Below.refl _ _⟩
theorem has_bad (s : ByteArray) (w : World) : Calls Tryz.prog 106 #[.string s, .func (.func 107) #[] #[]] w fun e w' => e = .returned (.bool (!allB s)) ∧ Below w.heap.size w w' := by
  have h := Tryz.strings_ContainsFunc_grows 107 #[] (enters_of Tryz.func107 (by kernel_rfl) rfl) (fun r => !okB r) s w (okc_grows w)
  rw [idx_name] at h
  exact h
theorem headB_some {s : ByteArray} {c : UInt8} (h : s.data.toList[0]? = some c) : headB s = lowB c.toNat := by
  unfold headB
  cases hl : s.data.toList with
  | nil => rw [hl] at h; cases h
  | cons x r => rw [hl] at h; injection h with h; subst h; rfl
theorem ba_first {s : ByteArray} (h : 1 ≤ s.size) : ∃ c, s.data.toList[0]? = some c := by
  have e := ba_length s
  exact ⟨s.data.toList[0]'(by omega), List.getElem?_eq_getElem _⟩

set_option maxRecDepth 100000 in
set_option maxHeartbeats 4000000 in
theorem isname_any (s : ByteArray) (w : World) : Calls Tryz.prog 89 #[.string s] w fun e w' => e = .returned (.bool (nameF s)) ∧ Below w.heap.size w w' := by
  obtain ⟨P, hP⟩ : ∃ P, P = nameF s := ⟨_, rfl⟩
  rw [← hP]
  have HP := Lib.hid hP
  clear hP
  unfold nameF at HP
  by_cases h1 : 1 ≤ s.size
  · have d1 : decide ((s.size : Int) < 1) = false := decide_eq_false (by omega)
    have e1 : ¬ (s.size : Int) < 1 := by omega
    have e1' : ¬ s.size = 0 := by omega
    obtain ⟨c, hc⟩ := ba_first h1
    have hh := headB_some hc
    have i1 : ∀ w, (Instr.index 9 (.string s) (.int .i64 0)).run Tryz.prog w = .ok (.int .u8 (c.toNat : Nat)) w := fun w => run_index_str w s 0 c hc rfl
    by_cases h2 : s.size ≤ 16
    · have d2 : decide (16 < (s.size : Int)) = false := decide_eq_false (by omega)
      have e2 : ¬ 16 < (s.size : Int) := by omega
      have e2' : ¬ 16 < s.size := by omega
      unfold lowB at hh
      by_cases h3 : 97 ≤ c.toNat
      · have d3 : decide ((c.toNat : Int) < 97) = false := decide_eq_false (by omega)
        have e3 : ¬ (c.toNat : Int) < 97 := by omega
        have e3' : ¬ c.toNat < 97 := by omega
        by_cases h4 : c.toNat ≤ 122
        · have d4 : decide (122 < (c.toNat : Int)) = false := decide_eq_false (by omega)
          have e4 : ¬ 122 < (c.toNat : Int) := by omega
          have e4' : ¬ 122 < c.toNat := by omega
          have HB := Lib.hid (has_bad s)
          have HQ : Hid (P = allB s) := by
            show P = allB s
            rw [HP.out, hh, decide_eq_true h1, decide_eq_true h2, decide_eq_true h3, decide_eq_true h4]
            simp
          clear hh HP
          go_enter Tryz.func89, Tryz.ntmps89
          go_wp2_with fail
          refine (HB.out _).mono ?_
          rintro e w2 ⟨rfl, hb⟩
          have HBB := Lib.hid hb
          clear hb
          have hq : allB s = P := HQ.out.symm
          rw [hq]
          go_wp2_with fail
          go_ret
          exact ⟨by simp, HBB.out⟩
        · have d4 : decide (122 < (c.toNat : Int)) = true := decide_eq_true (by omega)
          have e4 : 122 < (c.toNat : Int) := by omega
          have e4' : 122 < c.toNat := by omega
          obtain rfl : P = false := by rw [HP.out]; rw [hh, decide_eq_false h4]; simp
          clear HP
          clear hh
          go_enter Tryz.func89, Tryz.ntmps89
          go_wp2_with fail
          go_ret
          exact ⟨rfl, Below.refl _ _⟩
      · have d3 : decide ((c.toNat : Int) < 97) = true := decide_eq_true (by omega)
        have e3 : (c.toNat : Int) < 97 := by omega
        have e3' : c.toNat < 97 := by omega
        obtain rfl : P = false := by rw [HP.out]; rw [hh, decide_eq_false h3]; simp
        clear HP
        clear hh
        go_enter Tryz.func89, Tryz.ntmps89
        go_wp2_with fail
        go_ret
        exact ⟨rfl, Below.refl _ _⟩
    · have d2 : decide (16 < (s.size : Int)) = true := decide_eq_true (by omega)
      have e2 : 16 < (s.size : Int) := by omega
      have e2' : 16 < s.size := by omega
      obtain rfl : P = false := by rw [HP.out]; rw [decide_eq_false h2]; simp
      clear HP
      clear hh
      go_enter Tryz.func89, Tryz.ntmps89
      go_wp2_with fail
      go_ret
      exact ⟨rfl, Below.refl _ _⟩
  · have d1 : decide ((s.size : Int) < 1) = true := decide_eq_true (by omega)
    have e1 : (s.size : Int) < 1 := by omega
    have e1' : s.size = 0 := by omega
    obtain rfl : P = false := by rw [HP.out]; rw [decide_eq_false h1]; simp
    clear HP
    go_enter Tryz.func89, Tryz.ntmps89
    go_wp2_with fail
    go_ret
    exact ⟨rfl, Below.refl _ _⟩
set_option maxRecDepth 100000 in
set_option maxHeartbeats 4000000 in
theorem internal_any (g : Cfg) (t : Pr) (w : World) : Calls Tryz.prog 31 #[.agg g.ar, .agg t.ar] w fun e w' => e = .returned (.int .i64 (kindOf g t)) ∧ Below w.heap.size w w' := by
  have HB : Hid (∀ x y, Below w.heap.size w ((w.alloc x).alloc y)) := fun x y => below2 w x y
  obtain ⟨P, hP⟩ : ∃ P, P = kindOf g t := ⟨_, rfl⟩
  rw [← hP]
  unfold kindOf kindF at hP
  by_cases h1 : t.as_ = g.as_
  · have e1 : ((t.as_ : Int) == (g.as_ : Int)) = true := by rw [h1]; exact beq_self_eq_true _
    have e1b : (t.as_ == g.as_) = true := by rw [h1]; exact beq_self_eq_true _
    rw [if_pos h1] at hP
    cases h2 : t.client with
    | true =>
      rw [h2, if_pos rfl] at hP
      subst hP
      unfold Cfg.ar Pr.ar
      rw [h2]
      go_enter Tryz.func31, Tryz.ntmps31
      go_wp2_with fail
      go_ret
      exact ⟨rfl, HB.out _ _⟩
    | false =>
      rw [h2, if_neg Bool.false_ne_true] at hP
      subst hP
      unfold Cfg.ar Pr.ar
      rw [h2]
      go_enter Tryz.func31, Tryz.ntmps31
      go_wp2_with fail
      go_ret
      exact ⟨rfl, HB.out _ _⟩
  · have e1 : ((t.as_ : Int) == (g.as_ : Int)) = false := beq_eq_false_iff_ne.2 (by omega)
    have e1b : (t.as_ == g.as_) = false := beq_eq_false_iff_ne.2 h1
    rw [if_neg h1] at hP
    cases h2 : t.confed with
    | true =>
      rw [h2, if_pos rfl] at hP
      subst hP
      unfold Cfg.ar Pr.ar
      rw [h2]
      go_enter Tryz.func31, Tryz.ntmps31
      go_wp2_with fail
      go_ret
      exact ⟨rfl, HB.out _ _⟩
    | false =>
      rw [h2, if_neg Bool.false_ne_true] at hP
      subst hP
      unfold Cfg.ar Pr.ar
      rw [h2]
      go_enter Tryz.func31, Tryz.ntmps31
      go_wp2_with fail
      go_ret
      exact ⟨rfl, HB.out _ _⟩
end Go.Proofs.YtojiieghjhjoaaaGreat
