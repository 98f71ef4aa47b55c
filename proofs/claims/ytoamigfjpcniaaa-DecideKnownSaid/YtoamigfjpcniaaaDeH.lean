/-
  Those that an order puts first: least walked. Conditions: sizes.
-/
import Derived.Test.YtoamigfjpcniaaaDeG
set_option linter.unusedVariables false
set_option linter.unusedSimpArgs false
namespace Go.Proofs.Ytoamigfjpcniaaa
open Go.RowKit Go.MapKept Go.Shelf
open Go.Lib hiding intOf

/-- a function of the program's own -/
def Enters (F : Nat) : Prop := ∀ (args : Array Value) (w : World), (callFunc F args).run Try.prog w = .ok (.enter F args) w
theorem enters {f : Nat} {fn : Func} {c : Code} (hf : Try.prog.funcs[f]? = some fn) (hname : (fn.name == "runtime.NumGoroutine") = false) (hb : fn.body = some c) : Enters f := fun args w => by
  have h1 : ¬ fn.name = "runtime.NumGoroutine" := by simpa using hname
  simp [callFunc, hf, h1, hb]
/-- a function answers an order -/
def OrdOk (F : Nat) (c : En → En → Int) : Prop := Enters F ∧ ∀ (x y : En) (w : World), PtOk w x.p → PtOk w y.p → Calls Try.prog F #[x.v, y.v] w fun e w' => e = .returned (.int .i64 (c x y)) ∧ Below w.heap.size w w'

set_option maxRecDepth 100000 in
set_option maxHeartbeats 4000000 in
theorem least_any (A : Option Addr) (cap : Nat) (xs : List En) (F : Nat) (c : En → En → Int) (w : World) (h : EsAt w A cap xs) (hF : OrdOk F c) (hxs : xs.length ≤ 1000000) :
    Calls Try.prog 88 #[.slice A xs.length cap, .func (.func F) #[] #[]] w fun e w' => ∃ v, e = .returned v ∧ EsOwn w' w.heap.size v (leastL c xs) ∧ Below w.heap.size w w' := by
  have HE := Lib.hid h
  have HF : Hid (OrdOk F c) := hF
  clear h hF
  go_enter Try.func88, Try.ntmps88
  go_wp2_with fail
  go_loopw [5, 11] (fun o i wr => ∃ k : Nat, k ≤ xs.length ∧ i = .int .i64 k ∧ Hid (EsOwn wr w.heap.size o (leastL c (xs.take k))) ∧ Hid (Below w.heap.size w wr)) (fun _ i _ => xs.length + 1 - (intOf i).toNat)
  case atStart => exact ⟨0, by omega, rfl, OwnM.nil _ _ _ _, Below.refl _ _⟩
  case round =>
    obtain ⟨k, hk, rfl, HO, HB⟩ := hrel
    by_cases hlt : k < xs.length
    · obtain ⟨x, hx⟩ : ∃ x, xs[k]? = some x := ⟨xs[k], List.getElem?_eq_getElem hlt⟩
      have hT := leastL_take (c := c) hx
      have hll := leastL_len (c := c) (xs := xs.take k)
      have hsub : ∀ z ∈ leastL c (xs.take k), PtOk w z.p := fun z hz => HE.out.ok z (List.mem_of_mem_take (leastL_sub hz))
      rw [List.length_take, Nat.min_eq_left hk] at hll
      generalize leastL c (xs.take k) = ys at hT HO hll hsub
      have HT := Lib.hid hT
      clear hT
      obtain ⟨b, off, rfl, hb, hr⟩ := EsAt.at_ (HE.out.below HB.out (Nat.le_refl _)) hx
      have hokx := HE.out.ok x (List.mem_of_getElem? hx)
      have HOK := Lib.hid hokx
      have HONE := Lib.hid (PtOk.ones hokx)
      have HR := Lib.hid hr
      have HSUB := Lib.hid hsub
      have hws := HB.out.size
      clear hr hokx hsub hx
      cases ys with
      | nil =>
        obtain ⟨A2, c2, rfl⟩ := OwnM.form HO.out
        rw [List.length_nil] at *
        have HO1 : Hid (EsOwn (wr.alloc (.cells x.cs 79)) w.heap.size (.slice A2 0 c2) []) := OwnM.alloc HO.out _
        have HC1 : Hid (CellsAt (wr.alloc (.cells x.cs 79)) wr.heap.size x.cs 79) := CellsAt.new _ _ _
        have HC2 : Hid (CellsAt ((wr.alloc (.cells x.cs 79)).alloc (.cells x.cs 79)) (wr.alloc (.cells x.cs 79)).heap.size x.cs 79) := CellsAt.new _ _ _
        have HB1 : Hid (Below w.heap.size w (wr.alloc (.cells x.cs 79))) := HB.out.alloc hws _
        have HBS : Hid (w.heap.size ≤ ((wr.alloc (.cells x.cs 79)).alloc (.cells x.cs 79)).heap.size) := by
          show _ ≤ _
          simp
          omega
        go_wp2_with (with_reducible show wpList _ _ _ (_ :: _) _ _; first | refine wpList_load_entry rfl (.tmp 13) rfl b (off + k * 31) rfl x HR.out ?_ | refine wpList_store_entry rfl (.tmp 7) (.tmp 14) rfl rfl x rfl rfl HONE.out ?_ | refine wpList_load_entry rfl (.tmp 7) rfl wr.heap.size 0 rfl x HC1.out.range ?_ | refine wpList_build_entry rfl (.tmp 29) rfl x rfl ?_ | refine wpList_append_entry rfl (.tmp 28) (.tmp 30) rfl w.heap.size (.slice A2 0 c2) [] rfl (Lib.hid (EsOwn.alloc HO1.out _)) x (wr.alloc (.cells x.cs 79)).heap.size rfl HC2 HONE (Nat.zero_le _) HBS.out ?_)
        intro A3 c3 w3 HOWN HBG HGR
        go_wp2_with fail
        exact ⟨⟨k + 1, by omega, by go_num, by rw [HT.out]; exact HOWN.out, HBG.out _ _ ((HB1.out.alloc (by simp; omega) _)) (Nat.le_refl _)⟩, by simp [intOf]; omega⟩
      | cons y ys =>
        obtain ⟨g, c2, rfl, hg0, hg1, hg2, hg3, hyr⟩ := EsOwn.head HO.out
        rw [List.length_cons] at *
        have HYR : Hid ((wr.alloc (.cells x.cs 79)).rangeAt g 0 y.cs.toList) := Go.World.rangeAt_alloc hyr _
        have HO1 : Hid (EsOwn (wr.alloc (.cells x.cs 79)) w.heap.size (.slice (some ⟨g, 0, none⟩) (ys.length + 1) c2) (y :: ys)) := OwnM.alloc HO.out _
        have HC1 : Hid (CellsAt (wr.alloc (.cells x.cs 79)) wr.heap.size x.cs 79) := CellsAt.new _ _ _
        have HB1 : Hid (Below w.heap.size w (wr.alloc (.cells x.cs 79))) := HB.out.alloc hws _
        have HOKA : Hid (PtOk (wr.alloc (.cells x.cs 79)) x.p) := HOK.out.below HB1.out (Nat.le_refl _)
        have HYA : Hid (PtOk (wr.alloc (.cells x.cs 79)) y.p) := (HSUB.out y (by simp)).below HB1.out (Nat.le_refl _)
        clear hyr HSUB
        go_wp2_with (with_reducible show wpList _ _ _ (_ :: _) _ _; first | refine wpList_load_entry rfl (.tmp 13) rfl b (off + k * 31) rfl x HR.out ?_ | refine wpList_store_entry rfl (.tmp 7) (.tmp 14) rfl rfl x rfl rfl HONE.out ?_)
        refine wp_region_held_drew (S := fun w' => Below (wr.heap.size + 1) (wr.alloc (.cells x.cs 79)) w') (by kernel_rfl) (below_drewN (Below.refl _ _) 1) (fun hHeld => ?_)
        refine wpAnyH_take (i := 0) (oi := { dst := some 18, op := Op.move (Operand.tmp 1), type := 105, pos := "decide.go:79", after := #[], guard := none }) (v := ?_) rfl (by kernel_rfl) (by kernel_rfl) (by kernel_rfl) (fun _ _ _ h => h) (Or.inl ⟨by rfl, ?_⟩) hHeld ?_
        rotate_left
        · intro w hSw
          clear hSw
          go_simp
          try with_reducible rfl
        try simp only [Act.put, List.setIfInBounds_toArray, List.set_cons_zero, List.set_cons_succ]
        refine wpAnyH_take (i := 1) (oi := { dst := some 19, op := Op.load 79 (Operand.tmp 7), type := 79, pos := "decide.go:79", after := #[], guard := none }) (v := x.v) rfl (by kernel_rfl) (by kernel_rfl) (by kernel_rfl) (fun _ _ _ h => h) (yields_range (by rfl) _ rfl wr.heap.size 0 (by rfl) x (fun w h => rangeAt_below HC1.out.range h (by omega))) hHeld ?_
        try simp only [Act.put, List.setIfInBounds_toArray, List.set_cons_zero, List.set_cons_succ]
        refine wpAnyH_take (i := 2) (oi := { dst := some 20, op := Op.move (Operand.tmp 5), type := 76, pos := "decide.go:79", after := #[], guard := none }) (v := ?_) rfl (by kernel_rfl) (by kernel_rfl) (by kernel_rfl) (fun _ _ _ h => h) (Or.inl ⟨by rfl, ?_⟩) hHeld ?_
        rotate_left
        · intro w hSw
          clear hSw
          go_simp
          try with_reducible rfl
        try simp only [Act.put, List.setIfInBounds_toArray, List.set_cons_zero, List.set_cons_succ]
        refine wpAnyH_take (i := 3) (oi := { dst := some 21, op := Op.indexAddr 76 (Operand.tmp 20) (Operand.const (Value.int IntKind.i64 0)), type := 0, pos := "decide.go:79", after := #[{ on := 2, ground := Ground.data }], guard := none }) (v := ?_) rfl (by kernel_rfl) (by kernel_rfl) (by kernel_rfl) (fun _ _ _ h => h) (Or.inl ⟨by rfl, ?_⟩) hHeld ?_
        rotate_left
        · intro w hSw
          clear hSw
          go_simp
          try with_reducible rfl
        try simp only [Act.put, List.setIfInBounds_toArray, List.set_cons_zero, List.set_cons_succ]
        refine wpAnyH_take (i := 4) (oi := { dst := some 22, op := Op.load 79 (Operand.tmp 21), type := 79, pos := "decide.go:79", after := #[{ on := 3, ground := Ground.data }], guard := none }) (v := y.v) rfl (by kernel_rfl) (by kernel_rfl) (by kernel_rfl) (fun _ _ _ h => h) (yields_range (by rfl) _ rfl g 0 (by rfl) y (fun w h => rangeAt_below HYR.out h (by omega))) hHeld ?_
        try simp only [Act.put, List.setIfInBounds_toArray, List.set_cons_zero, List.set_cons_succ]
        refine wpAnyH_ready (rs := [5]) (by kernel_rfl) (by simp) ?_
        refine AllReadyH.cons (o := { dst := some 23, op := Op.call { callee := Callee.value (Operand.tmp 18), args := #[Operand.tmp 19, Operand.tmp 22], argTypes := #[79, 79] }, type := 3, pos := "decide.go:79", after := #[{ on := 0, ground := Ground.data }, { on := 1, ground := Ground.data }, { on := 4, ground := Ground.data }], guard := none }) rfl (fun K hK => ?_) AllReadyH.nil
        go_simp
        rw [HF.out.1, Oper.upon_enter]
        refine (HF.out.2 x y _ (HOKA.out.below hHeld (by simp)) (HYA.out.below hHeld (by simp))).mono ?_
        rintro e w9 ⟨rfl, hb9⟩
        go_wp2_with fail
        refine hK.out _ _ (hHeld.trans (hb9.mono (by simp))) (fun hHeld => ?_)
        clear hK K
        try simp only [Act.put, List.setIfInBounds_toArray, List.set_cons_zero, List.set_cons_succ]
        refine wpAnyH_take (i := 6) (oi := { dst := some 8, op := Op.assign (Operand.tmp 23), type := 3, pos := "decide.go:79", after := #[{ on := 5, ground := Ground.data }, { on := 5, ground := Ground.chain }, { on := 0, ground := Ground.phase }, { on := 1, ground := Ground.phase }, { on := 2, ground := Ground.phase }, { on := 3, ground := Ground.phase }, { on := 4, ground := Ground.phase }, { on := 5, ground := Ground.phase }], guard := none }) (v := ?_) rfl (by kernel_rfl) (by kernel_rfl) (by kernel_rfl) (fun _ _ _ h => h) (Or.inl ⟨by rfl, ?_⟩) hHeld ?_
        rotate_left
        · intro w hSw
          clear hSw
          go_simp
          try with_reducible rfl
        try simp only [Act.put, List.setIfInBounds_toArray, List.set_cons_zero, List.set_cons_succ]
        refine wpAnyH_done (by kernel_rfl) ?_ _
        have HB9 := Lib.hid hHeld
        clear hHeld
        have HBW : Hid (Below w.heap.size w w9) := HB1.out.trans (HB9.out.mono (by omega))
        have HO9 : Hid (EsOwn w9 w.heap.size (.slice (some ⟨g, 0, none⟩) (ys.length + 1) c2) (y :: ys)) := HO1.out.below HB9.out (by simp)
        have HC9 : Hid (CellsAt w9 wr.heap.size x.cs 79) := HC1.out.below HB9.out (by omega)
        have HC2 : Hid (CellsAt (w9.alloc (.cells x.cs 79)) w9.heap.size x.cs 79) := CellsAt.new _ _ _
        have hw9 := HBW.out.size
        have HBS : Hid (w.heap.size ≤ (w9.alloc (.cells x.cs 79)).heap.size) := by
          show _ ≤ _
          simp
          omega
        have hle : (y :: ys).length ≤ 1000000 := by rw [List.length_cons]; omega
        have HST : Hid (stepL c (y :: ys) x = if 0 < c x y then y :: ys else if c x y < 0 then [x] else y :: ys ++ [x]) := rfl
        clear HB1 HB9 HC1 HO1 HOKA HYA HYR HO HB HF HE HR
        generalize c x y = r at HST ⊢
        by_cases h1 : 0 < r
        · rw [if_pos h1] at HST
          go_wp2_with fail
          exact ⟨⟨k + 1, by omega, by go_num, by rw [HT.out, HST.out]; exact HO9.out, HBW.out⟩, by simp [intOf]; omega⟩
        · rw [if_neg h1] at HST
          by_cases h2 : r < 0
          · rw [if_pos h2] at HST
            go_wp2_with (with_reducible show wpList _ _ _ (_ :: _) _ _; first | refine wpList_load_entry rfl (.tmp 7) rfl wr.heap.size 0 rfl x HC9.out.range ?_ | refine wpList_build_entry rfl (.tmp 29) rfl x rfl ?_ | refine wpList_append_entry rfl (.tmp 28) (.tmp 30) rfl w.heap.size (.slice none 0 0) [] rfl (Lib.hid (EsOwn.nil _ _)) x w9.heap.size rfl HC2 HONE (Nat.zero_le _) HBS.out ?_)
            intro A3 c3 w3 HOWN HBG HGR
            go_wp2_with fail
            exact ⟨⟨k + 1, by omega, by go_num, by rw [HT.out, HST.out]; exact HOWN.out, HBG.out _ _ (HBW.out.alloc hw9 _) (Nat.le_refl _)⟩, by simp [intOf]; omega⟩
          · rw [if_neg h2] at HST
            go_wp2_with (with_reducible show wpList _ _ _ (_ :: _) _ _; first | refine wpList_load_entry rfl (.tmp 7) rfl wr.heap.size 0 rfl x HC9.out.range ?_ | refine wpList_build_entry rfl (.tmp 29) rfl x rfl ?_ | refine wpList_append_entry rfl (.tmp 28) (.tmp 30) rfl w.heap.size (.slice (some ⟨g, 0, none⟩) (ys.length + 1) c2) (y :: ys) rfl (Lib.hid (EsOwn.alloc HO9.out _)) x w9.heap.size rfl HC2 HONE hle HBS.out ?_)
            intro A3 c3 w3 HOWN HBG HGR
            go_wp2_with fail
            exact ⟨⟨k + 1, by omega, by go_num, by rw [HT.out, HST.out]; exact HOWN.out, HBG.out _ _ (HBW.out.alloc hw9 _) (Nat.le_refl _)⟩, by simp [intOf]; omega⟩
    · obtain rfl : k = xs.length := by omega
      rw [List.take_length] at HO
      obtain ⟨A2, c2, rfl⟩ := OwnM.form HO.out
      go_wp2_with fail
      go_ret
      exact ⟨_, rfl, HO.out, HB.out⟩
end Go.Proofs.Ytoamigfjpcniaaa
