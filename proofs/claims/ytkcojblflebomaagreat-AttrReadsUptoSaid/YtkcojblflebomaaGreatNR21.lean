/-
  Several texts in one.
-/
import Derived.Test.YtkcojblflebomaaGreatNR18
import Derived.Test.YtkcojblflebomaaGreatNR11
import Derived.StillTailTactics
import Derived.BigQuiet
import Derived.Deep.QuietTactic
import Derived.Test.YtkcojblflebomaaGreatNR16
import Derived.Test.YtkcojblflebomaaGreatNR14
import Derived.Test.YtkcojblflebomaaGreatNR15
import Derived.Test.YtkcojblflebomaaGreatNR7
import Derived.Test.YtkcojblflebomaaGreatNR19
import Derived.Test.YtkcojblflebomaaGreatNR20
set_option linter.unusedVariables false
set_option linter.unusedSimpArgs false
namespace Go.Proofs.YtkcojblflebomaaGreat
open Go.RowKit Go.MapKept Go.Shelf
open Go.Lib hiding intOf
open Go.Sort hiding Below

/-- a world that is older, with new blocks behind -/
def Grw (w w' : World) : Prop := ∃ (q : Nat) (os : Array Obj), w' = grow (w.drewN q) os
theorem Grw.refl (w : World) : Grw w w := ⟨0, #[], by rw [grow_empty]; rfl⟩
theorem Grw.alloc {w w' : World} (h : Grw w w') (o : Obj) : Grw w (w'.alloc o) := by
  obtain ⟨q, os, rfl⟩ := h
  exact ⟨q, os ++ #[o], by rw [alloc_eq_grow, grow_grow]⟩
theorem Grw.drew {w w' : World} (h : Grw w w') : Grw w w'.drew := by
  obtain ⟨q, os, rfl⟩ := h
  exact ⟨q + 1, os, rfl⟩
/-- in order -/
def srt {α : Type} (lt : α → α → Bool) (l : List α) : List α := l.mergeSort (fun x y => !lt y x)
theorem srt_len {α : Type} (lt : α → α → Bool) (l : List α) : (srt lt l).length = l.length := List.length_mergeSort l
theorem ltOf_N : ltOf (fun x y : Nat => cmpI x y) = ltN := by
  funext x y
  unfold ltOf ltN cmpI
  by_cases h : x < y
  · simp [h]
  · by_cases h2 : y < x <;> simp [h, h2]
theorem ltOf_L : ltOf cmpL = ltL := by
  funext x y
  have h := cmpL_neg x y
  unfold ltOf
  rw [Bool.eq_iff_iff, decide_eq_true_iff]
  cases hl : ltL x y
  · rw [hl] at h
    simp only [Bool.not_false, decide_eq_true_iff] at h
    simp
    omega
  · rw [hl] at h
    simp only [Bool.not_true, decide_eq_false_iff_not] at h
    simp
    omega
theorem swoN : SWO ltN where
  irrefl := fun x => by simp [ltN]
  trans := fun x y z h1 h2 => by simp [ltN] at *; omega
  ntrans := fun x y z h1 h2 => by simp [ltN] at *; omega
theorem ltL_iff (a b : Lg) : ltL a b = true ↔ (a.g < b.g ∨ a.g = b.g ∧ (a.a < b.a ∨ a.a = b.a ∧ a.b < b.b)) := by
  unfold ltL
  by_cases h1 : a.g = b.g
  · by_cases h2 : a.a = b.a
    · simp [h1, h2]
    · simp [h1, h2]
  · simp [h1]
theorem ltL_not (a b : Lg) : ltL a b = false ↔ ¬ (a.g < b.g ∨ a.g = b.g ∧ (a.a < b.a ∨ a.a = b.a ∧ a.b < b.b)) := by
  rw [← ltL_iff, Bool.not_eq_true]
theorem swoL : SWO ltL where
  irrefl := fun x => by rw [ltL_not]; omega
  trans := fun x y z h1 h2 => by rw [ltL_iff] at *; omega
  ntrans := fun x y z h1 h2 => by rw [ltL_not] at *; omega
theorem ltL_total (a b : Lg) (h : ltL b a = false) : a = b ∨ ltL a b = true := by
  rw [ltL_not] at h
  rw [ltL_iff]
  by_cases e : a.g = b.g ∧ a.a = b.a ∧ a.b = b.b
  · exact .inl (Lg.eq_iff.1 e)
  · right
    omega
instance : Inhabited Lg := ⟨⟨0, 0, 0⟩⟩
theorem u1_map (l : List Nat) : l.flatMap u1 = l.map (fun n : Nat => Value.int .u32 (n : Nat)) := by
  induction l with
  | nil => rfl
  | cons a r ih => rw [List.flatMap_cons, ih]; rfl
theorem x1_map (l : List Nat) : l.flatMap x1 = l.map (fun n : Nat => Value.int .u64 (n : Nat)) := by
  induction l with
  | nil => rfl
  | cons a r ih => rw [List.flatMap_cons, ih]; rfl
/-- what is asked of a list that is told to a function of the library: it comes back in its own block -/
def SortPost {α : Type} (w : World) (base : Nat) (T : TypeId) (C : Nat) (F : α → List Value) (v : Value) (m : List α) (e : Ending) (w' : World) : Prop :=
  e = .returned (.tuple #[]) ∧ OwnL w' base T C F v m ∧ w.grownBy w' v.ownBlock
def CmpPost {α : Type} (w : World) (base : Nat) (T : TypeId) (C : Nat) (F : α → List Value) (v : Value) (m : List α) (e : Ending) (w' : World) : Prop :=
  ∃ v', e = .returned v' ∧ OwnL w' base T C F v' m ∧ w.grownBy w' v.ownBlock ∧ v'.ownBlock = v.ownBlock
theorem OwnL.one {α : Type} {w : World} {base : Nat} {T : TypeId} {F : α → List Value} {v : Value} {l : List α} (h : OwnL w base T 1 F v l) (h0 : 0 < l.length) : ∃ g cap, v = .slice (some ⟨g, 0, none⟩) l.length cap ∧ base ≤ g ∧ g < w.heap.size ∧ l.length ≤ cap ∧ cap ≤ maxLen := by
  obtain ⟨g, cap, h1, h2, h3, h4, h5, _⟩ := OwnM.cells h h0
  exact ⟨g, cap, h1, h2, h3, h4, h5⟩
theorem sort_none {L : Type} {α : Type} {w : World} {base : Nat} {T : TypeId} {C : Nat} {F : α → List Value} {v : Value} {l : List α} {lt : α → α → Bool} {f : FuncId} {fv : Value} (h : OwnL w base T C F v l) (h0 : l.length = 0)
    (hc : ∀ (p : Option Addr) (cap : Nat), Calls Tryz.prog f #[.slice p 0 cap, fv] w fun e w' => e = .returned (.tuple #[]) ∧ w' = w) : Calls Tryz.prog f #[v, fv] w (SortPost w base T C F v (srt lt l)) := by
  obtain rfl : l = [] := List.eq_nil_of_length_eq_zero h0
  obtain ⟨A, c, rfl⟩ := h.form
  refine (hc A c).mono ?_
  rintro e w' ⟨rfl, rfl⟩
  exact ⟨rfl, by simpa [srt] using h, grown_refl _ _⟩
set_option maxHeartbeats 1000000 in
theorem sort_u32 (w : World) (base : Nat) (v : Value) (l : List Nat) (h : OwnL w base 35 1 u1 v l) (hl : l.length < 4611686018427387904) :
    Calls Tryz.prog 125 #[v, .func (.func 57) #[] #[]] w (SortPost w base 35 1 u1 v (srt ltN l)) := by
  by_cases h0 : 0 < l.length
  case neg => exact sort_none (L := Nat) h (by omega) (fun p cap => AnyF.slices_SortFunc_none { Tryz.sortU32 with } p cap _ w)
  obtain ⟨g, cap, rfl, hb, hg, hn, hc⟩ := OwnL.one h h0
  have eg : ∀ args w, (callFunc 57 args).run Tryz.prog w = .ok (.enter 57 args) w := enters_of Tryz.func57 (by kernel_rfl) rfl
  have hcmp : CmpLays1 Tryz.prog 57 #[] (fun n : Nat => Value.int .u32 (n : Nat)) (fun x y : Nat => cmpI x y) g 0 l.toArray.size w := fun m os dk hdk x y => (cmp_u32 x y _).mono fun e w' ⟨h1, h2⟩ => ⟨h1, 0, #[], by rw [← h2, grow_empty]; rfl⟩
  have hcon := Any.slices_SortFunc_total Tryz.sortU32 (fun n : Nat => Value.int .u32 (n : Nat)) (fun _ => rfl) (fun x y : Nat => cmpI x y) (by rw [ltOf_N]; exact swoN) 57 #[] g 0 cap l.toArray w eg hcmp (OwnM.holds _ _ h h0 (by rw [u1_map])) hg (by simpa using hl) (by rw [ltOf_N]; intro x y h1 h2; simp [ltN] at h1 h2; omega)
  rw [ltOf_N] at hcon
  refine Calls.mono hcon ?_
  rintro e w' ⟨rfl, n, os, rfl⟩
  have hsl := srt_len ltN l
  obtain ⟨f1, f2⟩ := OwnM.put (fun n : Nat => Value.int .u32 (n : Nat)) (srt ltN l).toArray h h0 (by rw [List.size_toArray, hsl, Nat.mul_one]) n os l.length (Nat.le_refl _) (ys := (srt ltN l).flatMap u1) (by rw [u1_map, List.take_of_length_le (by simp [hsl])])
  refine ⟨rfl, ?_, f2⟩
  unfold OwnL
  rw [hsl]
  exact f1
set_option maxHeartbeats 1000000 in
theorem sort_u64 (w : World) (base : Nat) (v : Value) (l : List Nat) (h : OwnL w base 57 1 x1 v l) (hl : l.length < 4611686018427387904) :
    Calls Tryz.prog 127 #[v, .func (.func 59) #[] #[]] w (SortPost w base 57 1 x1 v (srt ltN l)) := by
  by_cases h0 : 0 < l.length
  case neg => exact sort_none (L := Nat) h (by omega) (fun p cap => AnyF.slices_SortFunc_none { Tryz.sortU64 with } p cap _ w)
  obtain ⟨g, cap, rfl, hb, hg, hn, hc⟩ := OwnL.one h h0
  have eg : ∀ args w, (callFunc 59 args).run Tryz.prog w = .ok (.enter 59 args) w := enters_of Tryz.func59 (by kernel_rfl) rfl
  have hcmp : CmpLays1 Tryz.prog 59 #[] (fun n : Nat => Value.int .u64 (n : Nat)) (fun x y : Nat => cmpI x y) g 0 l.toArray.size w := fun m os dk hdk x y => (cmp_u64 x y _).mono fun e w' ⟨h1, h2⟩ => ⟨h1, 0, #[], by rw [← h2, grow_empty]; rfl⟩
  have hcon := Any.slices_SortFunc_total Tryz.sortU64 (fun n : Nat => Value.int .u64 (n : Nat)) (fun _ => rfl) (fun x y : Nat => cmpI x y) (by rw [ltOf_N]; exact swoN) 59 #[] g 0 cap l.toArray w eg hcmp (OwnM.holds _ _ h h0 (by rw [x1_map])) hg (by simpa using hl) (by rw [ltOf_N]; intro x y h1 h2; simp [ltN] at h1 h2; omega)
  rw [ltOf_N] at hcon
  refine Calls.mono hcon ?_
  rintro e w' ⟨rfl, n, os, rfl⟩
  have hsl := srt_len ltN l
  obtain ⟨f1, f2⟩ := OwnM.put (fun n : Nat => Value.int .u64 (n : Nat)) (srt ltN l).toArray h h0 (by rw [List.size_toArray, hsl, Nat.mul_one]) n os l.length (Nat.le_refl _) (ys := (srt ltN l).flatMap x1) (by rw [x1_map, List.take_of_length_le (by simp [hsl])])
  refine ⟨rfl, ?_, f2⟩
  unfold OwnL
  rw [hsl]
  exact f1
set_option maxRecDepth 100000 in
set_option maxHeartbeats 8000000 in
theorem larger_grw (x y : Lg) (w : World) : Calls Tryz.prog 104 #[.agg #[.int .u32 x.g, .int .u32 x.a, .int .u32 x.b], .agg #[.int .u32 y.g, .int .u32 y.a, .int .u32 y.b]] w fun e w' => e = .returned (.int .i64 (cmpL x y)) ∧ Grw w w' := by
  have HCM := Lib.hid cmp_u32
  have HOR := Lib.hid or3_any
  have HX : Hid (CellsAt ((w.alloc (.cells #[.int .u32 x.g, .int .u32 x.a, .int .u32 x.b] 59)).alloc (.cells #[.int .u32 y.g, .int .u32 y.a, .int .u32 y.b] 59)) w.heap.size #[.int .u32 x.g, .int .u32 x.a, .int .u32 x.b] 59) := (CellsAt.new _ _ _).alloc _
  have HY : Hid (CellsAt ((w.alloc (.cells #[.int .u32 x.g, .int .u32 x.a, .int .u32 x.b] 59)).alloc (.cells #[.int .u32 y.g, .int .u32 y.a, .int .u32 y.b] 59)) (w.heap.size + 1) #[.int .u32 y.g, .int .u32 y.a, .int .u32 y.b] 59) := by
    have h := CellsAt.new (w.alloc (.cells #[.int .u32 x.g, .int .u32 x.a, .int .u32 x.b] 59)) #[.int .u32 y.g, .int .u32 y.a, .int .u32 y.b] 59
    rwa [show (w.alloc (.cells #[.int .u32 x.g, .int .u32 x.a, .int .u32 x.b] 59)).heap.size = w.heap.size + 1 by simp] at h
  have HG : Hid (Grw w ((w.alloc (.cells #[.int .u32 x.g, .int .u32 x.a, .int .u32 x.b] 59)).alloc (.cells #[.int .u32 y.g, .int .u32 y.a, .int .u32 y.b] 59))) := ((Grw.refl w).alloc _).alloc _
  have hcl : Hid (cmpL x y = orI (cmpI x.g y.g) (cmpI x.a y.a) (cmpI x.b y.b)) := rfl
  go_enter Tryz.func104, Tryz.ntmps104
  go_wp2_with fail
  generalize (w.alloc (.cells #[.int .u32 x.g, .int .u32 x.a, .int .u32 x.b] 59)).alloc (.cells #[.int .u32 y.g, .int .u32 y.a, .int .u32 y.b] 59) = W at HX HY HG ⊢
  have hlx := HX.out.lt
  have hly := HY.out.lt
  obtain ⟨x0, x1, x2⟩ := HX.out.c3
  obtain ⟨y0, y1, y2⟩ := HY.out.c3
  have HCN : Hid (∀ (p q : Nat) (V : World), Calls Tryz.prog 57 #[.int .u32 p, .int .u32 q] V fun e w' => e = .returned (.int .i64 (cmpI p q)) ∧ w' = V) := fun p q V => (HCM.out p q V).mono fun e w' ⟨h1, h2⟩ => ⟨h1, h2.symm⟩
  go_still_tail 15, (by kernel_rfl)
  repeat still_step
  still_call (HCN.out x.g y.g _)
  repeat still_step
  still_call (HCN.out x.a y.a _)
  repeat still_step
  still_call (HCN.out x.b y.b _)
  repeat still_step
  refine wpStill_nil ?_
  change wpList _ _ _ _ _ W.drew
  clear x0 x1 x2 y0 y1 y2
  generalize cmpI x.g y.g = p at hcl ⊢
  generalize cmpI x.a y.a = q at hcl ⊢
  generalize cmpI x.b y.b = r at hcl ⊢
  have HGD : Hid (Grw w W.drew) := HG.out.drew
  clear HG HX HY hlx hly
  generalize W.drew = V at HGD ⊢
  go_wp2_with fail
  refine (HOR.out V.heap.size _ p q r _ (CellsAt.new V _ 3)).mono ?_
  rintro e w1 ⟨rfl, rfl⟩
  go_wp2_with fail
  go_ret
  exact ⟨by rw [hcl.out]; rfl, HGD.out.alloc _⟩
set_option maxHeartbeats 1000000 in
theorem sort_L (w : World) (base : Nat) (v : Value) (l : List Lg) (h : OwnL w base 59 3 Lg.cs v l) (hl : l.length < 4611686018427387904) :
    Calls Tryz.prog 129 #[v, .func (.func 104) #[] #[]] w (SortPost w base 59 3 Lg.cs v (srt ltL l)) := by
  by_cases h0 : 0 < l.length
  case neg => exact sort_none (L := Nat) h (by omega) (fun p cap => AnyF.slices_SortFunc_none Tryz.sortLg p cap _ w)
  obtain ⟨g, cap, rfl, hb, hg, hn, hc, _⟩ := OwnM.cells h h0
  have eg : ∀ args w, (callFunc 104 args).run Tryz.prog w = .ok (.enter 104 args) w := enters_of Tryz.func104 (by kernel_rfl) rfl
  have hcmp : CmpLays Tryz.prog 104 #[] Lg.cs 3 cmpL g 0 l.toArray.size w := fun m os dk hdk x y => (larger_grw x y _).mono fun e w' ⟨h1, q, os', h2⟩ => ⟨h1, q, os', h2⟩
  have hcon := AnyQ.slices_SortFunc_total Tryz.sortLg 3 Tryz.isAgg59 Tryz.sizeOf59 Lg.cs (fun _ => rfl) (fun x u hu => by
    simp only [Lg.cs, List.mem_cons, List.not_mem_nil, or_false] at hu
    rcases hu with rfl | rfl | rfl <;> rfl) cmpL (by rw [ltOf_L]; exact swoL) 104 #[] g 0 cap l.toArray w eg hcmp (OwnM.holds id _ h h0 (by rw [flatK_list Lg.cs 3 (by decide) Lg.cs_len]; simp)) hg (by simpa using hl) (by
      rw [ltOf_L]
      intro x y h1 h2
      rcases ltL_total y x h1 with h3 | h3
      · exact h3.symm
      · rw [h2] at h3; cases h3)
  rw [ltOf_L] at hcon
  refine Calls.mono hcon ?_
  rintro e w' ⟨rfl, n, os, rfl⟩
  have hsl := srt_len ltL l
  obtain ⟨f1, f2⟩ := OwnM.put id (flatK Lg.cs 3 (srt ltL l).toArray) h h0 (by rw [size_flatK, List.size_toArray, hsl]) n os l.length (Nat.le_refl _) (ys := (srt ltL l).flatMap Lg.cs) (by
    rw [flatK_list Lg.cs 3 (by decide) Lg.cs_len, List.map_id, List.take_of_length_le (by rw [flat_len Lg.cs_len]; simp [hsl])])
  refine ⟨rfl, ?_, f2⟩
  unfold OwnL
  rw [hsl]
  exact f1
theorem eqlN (T : TypeId) (k : IntKind) : EqlAt Tryz.prog T (fun n : Nat => Value.int k (n : Nat)) (fun x y => decide (x = y)) :=
  ⟨fun x y w => by rw [(EqlAt.intD Tryz.prog T k).1 (x : Int) (y : Int) w]; congr 2; simp; exact Int.ofNat_inj, fun op a b x y w => GuardAt.int Tryz.prog T k op a b (x : Int) (y : Int) w⟩
theorem neqN (T : TypeId) (k : IntKind) : NeqAt Tryz.prog T (fun n : Nat => Value.int k (n : Nat)) (fun x y => decide (x = y)) :=
  ⟨fun x y w => by rw [(NeqAt.intD Tryz.prog T k).1 (x : Int) (y : Int) w]; congr 3; simp; exact Int.ofNat_inj, fun op a b x y w => GuardAt.int Tryz.prog T k op a b (x : Int) (y : Int) w⟩
/-- no row: nothing to take -/
theorem cut_none {α : Type} [DecidableEq α] {w : World} {base : Nat} {T : TypeId} {C : Nat} {F : α → List Value} {v : Value} {l : List α} {f : FuncId} (h : OwnL w base T C F v l) (h0 : l.length = 0)
    (hc : ∀ (p : Option Addr) (cap : Nat), Calls Tryz.prog f #[.slice p 0 cap] w fun e w' => e = .returned (.slice p 0 cap) ∧ w' = w) : Calls Tryz.prog f #[v] w (CmpPost w base T C F v (dd l)) := by
  obtain rfl : l = [] := List.eq_nil_of_length_eq_zero h0
  obtain ⟨A, c, rfl⟩ := h.form
  refine (hc A c).mono ?_
  rintro e w' ⟨rfl, rfl⟩
  exact ⟨_, rfl, h, grown_refl _ _, rfl⟩
set_option maxHeartbeats 1000000 in
theorem none_u32 (p : Option Addr) (cap : Nat) (w : World) : Calls Tryz.prog 126 #[.slice p 0 cap] w fun e w' => e = .returned (.slice p 0 cap) ∧ w' = w := by
  go_enter Tryz.func126, Tryz.ntmps126
  go_wp2_with fail
  go_ret
  exact ⟨rfl, rfl⟩
set_option maxHeartbeats 1000000 in
theorem none_u64 (p : Option Addr) (cap : Nat) (w : World) : Calls Tryz.prog 128 #[.slice p 0 cap] w fun e w' => e = .returned (.slice p 0 cap) ∧ w' = w := by
  go_enter Tryz.func128, Tryz.ntmps128
  go_wp2_with fail
  go_ret
  exact ⟨rfl, rfl⟩
set_option maxHeartbeats 1000000 in
theorem cut_u32 (w : World) (base : Nat) (v : Value) (l : List Nat) (h : OwnL w base 35 1 u1 v l) (hl : l.length ≤ 9223372036854775807) :
    Calls Tryz.prog 126 #[v] w (CmpPost w base 35 1 u1 v (dd l)) := by
  by_cases h0 : 0 < l.length
  case neg => exact cut_none h (by omega) (fun p cap => none_u32 p cap w)
  obtain ⟨g, cap, rfl, hb, hg, hn, hc⟩ := OwnL.one h h0
  have hcon := AnyE.slices_Compact Tryz.cmpU32 (fun n : Nat => Value.int .u32 (n : Nat)) (fun _ => rfl) (eqlN _ .u32) (neqN _ .u32) 0 Tryz.zeroValue35 g 0 cap l.toArray w (OwnM.holds _ _ h h0 (by rw [u1_map])) (by simpa using hl) (by simpa using hn)
  rw [show l.toArray.size = l.length from rfl, compact_dd l l.length (Nat.le_refl _), List.take_length] at hcon
  refine Calls.mono hcon ?_
  rintro e w' ⟨rfl, q, rfl⟩
  have hd := dd_len l
  obtain ⟨f1, f2⟩ := OwnM.put (fun n : Nat => Value.int .u32 (n : Nat)) (dd l ++ List.replicate (l.length - (dd l).length) 0).toArray h h0 (by simp; omega) q #[] (dd l).length hd (ys := (dd l).flatMap u1) (by
    rw [u1_map, List.map_append, Nat.mul_one, List.take_left' (by simp)])
  rw [grow_empty] at f1 f2
  exact ⟨_, rfl, f1, f2, rfl⟩
set_option maxHeartbeats 1000000 in
theorem cut_u64 (w : World) (base : Nat) (v : Value) (l : List Nat) (h : OwnL w base 57 1 x1 v l) (hl : l.length ≤ 9223372036854775807) :
    Calls Tryz.prog 128 #[v] w (CmpPost w base 57 1 x1 v (dd l)) := by
  by_cases h0 : 0 < l.length
  case neg => exact cut_none h (by omega) (fun p cap => none_u64 p cap w)
  obtain ⟨g, cap, rfl, hb, hg, hn, hc⟩ := OwnL.one h h0
  have hcon := AnyE.slices_Compact Tryz.cmpU64 (fun n : Nat => Value.int .u64 (n : Nat)) (fun _ => rfl) (eqlN _ .u64) (neqN _ .u64) 0 Tryz.zeroValue57 g 0 cap l.toArray w (OwnM.holds _ _ h h0 (by rw [x1_map])) (by simpa using hl) (by simpa using hn)
  rw [show l.toArray.size = l.length from rfl, compact_dd l l.length (Nat.le_refl _), List.take_length] at hcon
  refine Calls.mono hcon ?_
  rintro e w' ⟨rfl, q, rfl⟩
  have hd := dd_len l
  obtain ⟨f1, f2⟩ := OwnM.put (fun n : Nat => Value.int .u64 (n : Nat)) (dd l ++ List.replicate (l.length - (dd l).length) 0).toArray h h0 (by simp; omega) q #[] (dd l).length hd (ys := (dd l).flatMap x1) (by
    rw [x1_map, List.map_append, Nat.mul_one, List.take_left' (by simp)])
  rw [grow_empty] at f1 f2
  exact ⟨_, rfl, f1, f2, rfl⟩
end Go.Proofs.YtkcojblflebomaaGreat
