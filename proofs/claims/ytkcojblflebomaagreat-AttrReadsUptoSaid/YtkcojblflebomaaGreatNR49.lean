/-
  Several texts in one.
-/
import Derived.Test.YtkcojblflebomaaGreatNR26
import Derived.Test.YtkcojblflebomaaGreatNR46
import Derived.Test.YtkcojblflebomaaGreatNR47
import Derived.Test.YtkcojblflebomaaGreatNR48
set_option linter.unusedVariables false
set_option linter.unusedSimpArgs false
namespace Go.Proofs.YtkcojblflebomaaGreat
open Go.RowKit Go.MapKept Go.Shelf
open Go.Lib hiding intOf
open Go.Sort hiding Below

theorem ref_14 {four internal : Bool} {x : Rw} {c : AtC} (h : x.t.toNat = 14 ∨ x.t.toNat = 15) : refC four internal x c = c ∧ refV four internal x = ⟨0, 0, 0⟩ := by
  unfold refC refV effV
  rw [if_pos h, if_pos h]
  exact ⟨rfl, rfl⟩
theorem ref_none {four internal : Bool} {x : Rw} {c : AtC} (h : ¬ (x.t.toNat = 14 ∨ x.t.toNat = 15)) (hr : rowF x.t.toNat = none) : refC four internal x c = c ∧ refV four internal x = (if x.f &&& 128 = 0 then ⟨3, 3, 2⟩ else ⟨0, 0, 0⟩) := by
  unfold refC refV effV
  rw [if_neg h, if_neg h, hr]
  refine ⟨rfl, ?_⟩
  dsimp only
  split <;> rfl
theorem row_no14 {t : Nat} {p : Int × Int × Bool × FuncId} (hr : rowF t = some p) : ¬ (t = 14 ∨ t = 15) := by
  rintro (h | h)
  · rw [h] at hr
    cases hr
  · rw [h] at hr
    cases hr
theorem ref_in {four internal : Bool} {x : Rw} {c : AtC} {b wr : Int} {i : Bool} {fn : FuncId} (hr : rowF x.t.toNat = some (b, wr, i, fn)) (hi : (i && !internal) = true) : refC four internal x c = c ∧ refV four internal x = ⟨1, 0, 0⟩ := by
  unfold refC refV effV
  rw [if_neg (row_no14 hr), if_neg (row_no14 hr), hr]
  dsimp only
  rw [if_pos hi, if_pos hi]
  exact ⟨rfl, rfl⟩
theorem ref_bits {four internal : Bool} {x : Rw} {c : AtC} {b wr : Int} {i : Bool} {fn : FuncId} (hr : rowF x.t.toNat = some (b, wr, i, fn)) (hi : (i && !internal) = false) (hf : ((x.f &&& 192).toNat : Int) ≠ b) : refC four internal x c = c ∧ refV four internal x = ⟨2, 0, 0⟩ := by
  unfold refC refV effV
  rw [if_neg (row_no14 hr), if_neg (row_no14 hr), hr]
  dsimp only
  have hi' : ¬ ((i && !internal) = true) := by rw [hi]; simp
  rw [if_neg hi', if_neg hi', if_pos hf, if_pos hf]
  exact ⟨rfl, rfl⟩
theorem ref_ok {four internal : Bool} {x : Rw} {c : AtC} {b wr : Int} {i : Bool} {fn : FuncId} (hr : rowF x.t.toNat = some (b, wr, i, fn)) (hi : (i && !internal) = false) (hf : ((x.f &&& 192).toNat : Int) = b) (ht : (tab x.t.toNat x.v four c).2 = true) : refC four internal x c = (tab x.t.toNat x.v four c).1 ∧ refV four internal x = ⟨0, 0, 0⟩ := by
  unfold refC refV effV
  rw [if_neg (row_no14 hr), if_neg (row_no14 hr), hr]
  dsimp only
  have hn : ¬ ((x.f &&& 192).toNat : Int) ≠ b := fun h => h hf
  have hi' : ¬ ((i && !internal) = true) := by rw [hi]; simp
  have ht2 : (tab x.t.toNat x.v four noC).2 = true := by rw [tab_is (row_known hr) x.v four noC c]; exact ht
  rw [if_neg hi', if_neg hi', if_neg hn, if_neg hn, if_pos ht, if_pos ht2]
  exact ⟨rfl, rfl⟩
theorem ref_no {four internal : Bool} {x : Rw} {c : AtC} {b wr : Int} {i : Bool} {fn : FuncId} (hr : rowF x.t.toNat = some (b, wr, i, fn)) (hi : (i && !internal) = false) (hf : ((x.f &&& 192).toNat : Int) = b) (ht : (tab x.t.toNat x.v four c).2 = false) : refC four internal x c = c ∧ refV four internal x = ⟨wr, 0, 0⟩ := by
  unfold refC refV effV
  rw [if_neg (row_no14 hr), if_neg (row_no14 hr), hr]
  dsimp only
  have hn : ¬ ((x.f &&& 192).toNat : Int) ≠ b := fun h => h hf
  have hi' : ¬ ((i && !internal) = true) := by rw [hi]; simp
  have ht1 : ¬ (tab x.t.toNat x.v four c).2 = true := by rw [ht]; simp
  have ht2 : ¬ (tab x.t.toNat x.v four noC).2 = true := by rw [tab_is (row_known hr) x.v four noC c, ht]; simp
  rw [if_neg hi', if_neg hi', if_neg hn, if_neg hn, if_neg ht1, if_neg ht2]
  exact ⟨rfl, rfl⟩
theorem rt_yes {base : Nat} {r : AtC × Bool} {w' : World} {e : Ending} (h : RTPost base r w' e) (ht : r.2 = true) : ∃ a : Atr, e = .returned (.tuple #[.agg a.ar, .bool true]) ∧ AtO w' base a ∧ a.c = r.1 := by
  unfold RTPost at h
  rw [ht] at h
  exact h
theorem rt_no {base : Nat} {r : AtC × Bool} {w' : World} {e : Ending} (h : RTPost base r w' e) (ht : r.2 = false) : ∃ a : Atr, e = .returned (.tuple #[.agg a.ar, .bool false]) := by
  unfold RTPost at h
  rw [ht] at h
  exact h
theorem rone_all1 (a : Atr) (f : UInt8) (v : ByteArray) (four internal : Bool) (w : World) (base : Nat) (hbs : base ≤ w.heap.size) (ha : AtO w base a) (hv : v.size ≤ 1048576) :
    Calls Tryz.prog 41 #[.agg a.ar, .agg #[.int .u8 f.toNat, .int .u8 (1 : UInt8).toNat, .string v], .bool four, .bool internal] w fun e w' => OnePost base (refC four internal ⟨f, 1, v⟩ a.c) (refV four internal ⟨f, 1, v⟩) w' e ∧ Below w.heap.size w w' := by
  have hr : rowF (⟨f, 1, v⟩ : Rw).t.toNat = some (64, 2, false, _) := rfl
  by_cases hf : ((f &&& 192).toNat : Int) = 64
  · cases ht : (tab 1 v four a.c).2 with
    | true =>
      have e := ref_ok (four := four) (internal := internal) (c := a.c) hr rfl hf ht
      rw [e.1, e.2]
      exact rone_take a f 1 64 v four internal w base hbs ha hv (by decide) (by decide) rfl (by decide) _ (fun W h1 h2 => (rtake_1 a f v four W base h1 h2 hv).mono fun e w' h => ⟨rt_yes h.1 ht, h.2⟩) (by cases internal; exact .inr ⟨rfl, by decide, by decide, by decide⟩; exact .inl rfl) (by decide) (by decide) (by decide) (by decide) hf
    | false =>
      have e := ref_no (four := four) (internal := internal) (c := a.c) hr rfl hf ht
      rw [e.1, e.2]
      exact rone_no2 a f 1 64 v four internal w base hbs ha hv (by decide) (by decide) rfl (by decide) (fun W h1 h2 => (rtake_1 a f v four W base h1 h2 hv).mono fun e w' h => ⟨rt_no h.1 ht, h.2⟩) (by cases internal; exact .inr ⟨rfl, by decide, by decide, by decide⟩; exact .inl rfl) (by decide) (by decide) (by decide) (by decide) (by decide) (by decide) hf
  · have e := ref_bits (four := four) (internal := internal) (c := a.c) hr rfl hf
    rw [e.1, e.2]
    exact rone_bits a f 1 64 v four internal w base hbs ha hv (by decide) (by decide) rfl (by decide) (by cases internal; exact .inr ⟨rfl, by decide, by decide, by decide⟩; exact .inl rfl) hf
theorem rone_all2 (a : Atr) (f : UInt8) (v : ByteArray) (four internal : Bool) (w : World) (base : Nat) (hbs : base ≤ w.heap.size) (ha : AtO w base a) (hv : v.size ≤ 1048576) :
    Calls Tryz.prog 41 #[.agg a.ar, .agg #[.int .u8 f.toNat, .int .u8 (2 : UInt8).toNat, .string v], .bool four, .bool internal] w fun e w' => OnePost base (refC four internal ⟨f, 2, v⟩ a.c) (refV four internal ⟨f, 2, v⟩) w' e ∧ Below w.heap.size w w' := by
  have hr : rowF (⟨f, 2, v⟩ : Rw).t.toNat = some (64, 2, false, _) := rfl
  by_cases hf : ((f &&& 192).toNat : Int) = 64
  · cases ht : (tab 2 v four a.c).2 with
    | true =>
      have e := ref_ok (four := four) (internal := internal) (c := a.c) hr rfl hf ht
      rw [e.1, e.2]
      exact rone_take a f 2 64 v four internal w base hbs ha hv (by decide) (by decide) rfl (by decide) _ (fun W h1 h2 => (rtake_2 a f v four W base h1 h2 hv).mono fun e w' h => ⟨rt_yes h.1 ht, h.2⟩) (by cases internal; exact .inr ⟨rfl, by decide, by decide, by decide⟩; exact .inl rfl) (by decide) (by decide) (by decide) (by decide) hf
    | false =>
      have e := ref_no (four := four) (internal := internal) (c := a.c) hr rfl hf ht
      rw [e.1, e.2]
      exact rone_no2 a f 2 64 v four internal w base hbs ha hv (by decide) (by decide) rfl (by decide) (fun W h1 h2 => (rtake_2 a f v four W base h1 h2 hv).mono fun e w' h => ⟨rt_no h.1 ht, h.2⟩) (by cases internal; exact .inr ⟨rfl, by decide, by decide, by decide⟩; exact .inl rfl) (by decide) (by decide) (by decide) (by decide) (by decide) (by decide) hf
  · have e := ref_bits (four := four) (internal := internal) (c := a.c) hr rfl hf
    rw [e.1, e.2]
    exact rone_bits a f 2 64 v four internal w base hbs ha hv (by decide) (by decide) rfl (by decide) (by cases internal; exact .inr ⟨rfl, by decide, by decide, by decide⟩; exact .inl rfl) hf
theorem rone_all3 (a : Atr) (f : UInt8) (v : ByteArray) (four internal : Bool) (w : World) (base : Nat) (hbs : base ≤ w.heap.size) (ha : AtO w base a) (hv : v.size ≤ 1048576) :
    Calls Tryz.prog 41 #[.agg a.ar, .agg #[.int .u8 f.toNat, .int .u8 (3 : UInt8).toNat, .string v], .bool four, .bool internal] w fun e w' => OnePost base (refC four internal ⟨f, 3, v⟩ a.c) (refV four internal ⟨f, 3, v⟩) w' e ∧ Below w.heap.size w w' := by
  have hr : rowF (⟨f, 3, v⟩ : Rw).t.toNat = some (64, 2, false, _) := rfl
  by_cases hf : ((f &&& 192).toNat : Int) = 64
  · cases ht : (tab 3 v four a.c).2 with
    | true =>
      have e := ref_ok (four := four) (internal := internal) (c := a.c) hr rfl hf ht
      rw [e.1, e.2]
      exact rone_take a f 3 64 v four internal w base hbs ha hv (by decide) (by decide) rfl (by decide) _ (fun W h1 h2 => (rtake_3 a f v four W base h1 h2 hv).mono fun e w' h => ⟨rt_yes h.1 ht, h.2⟩) (by cases internal; exact .inr ⟨rfl, by decide, by decide, by decide⟩; exact .inl rfl) (by decide) (by decide) (by decide) (by decide) hf
    | false =>
      have e := ref_no (four := four) (internal := internal) (c := a.c) hr rfl hf ht
      rw [e.1, e.2]
      exact rone_no2 a f 3 64 v four internal w base hbs ha hv (by decide) (by decide) rfl (by decide) (fun W h1 h2 => (rtake_3 a f v four W base h1 h2 hv).mono fun e w' h => ⟨rt_no h.1 ht, h.2⟩) (by cases internal; exact .inr ⟨rfl, by decide, by decide, by decide⟩; exact .inl rfl) (by decide) (by decide) (by decide) (by decide) (by decide) (by decide) hf
  · have e := ref_bits (four := four) (internal := internal) (c := a.c) hr rfl hf
    rw [e.1, e.2]
    exact rone_bits a f 3 64 v four internal w base hbs ha hv (by decide) (by decide) rfl (by decide) (by cases internal; exact .inr ⟨rfl, by decide, by decide, by decide⟩; exact .inl rfl) hf
theorem rone_all4 (a : Atr) (f : UInt8) (v : ByteArray) (four internal : Bool) (w : World) (base : Nat) (hbs : base ≤ w.heap.size) (ha : AtO w base a) (hv : v.size ≤ 1048576) :
    Calls Tryz.prog 41 #[.agg a.ar, .agg #[.int .u8 f.toNat, .int .u8 (4 : UInt8).toNat, .string v], .bool four, .bool internal] w fun e w' => OnePost base (refC four internal ⟨f, 4, v⟩ a.c) (refV four internal ⟨f, 4, v⟩) w' e ∧ Below w.heap.size w w' := by
  have hr : rowF (⟨f, 4, v⟩ : Rw).t.toNat = some (128, 2, false, _) := rfl
  by_cases hf : ((f &&& 192).toNat : Int) = 128
  · cases ht : (tab 4 v four a.c).2 with
    | true =>
      have e := ref_ok (four := four) (internal := internal) (c := a.c) hr rfl hf ht
      rw [e.1, e.2]
      exact rone_take a f 4 128 v four internal w base hbs ha hv (by decide) (by decide) rfl (by decide) _ (fun W h1 h2 => (rtake_4 a f v four W base h1 h2 hv).mono fun e w' h => ⟨rt_yes h.1 ht, h.2⟩) (by cases internal; exact .inr ⟨rfl, by decide, by decide, by decide⟩; exact .inl rfl) (by decide) (by decide) (by decide) (by decide) hf
    | false =>
      have e := ref_no (four := four) (internal := internal) (c := a.c) hr rfl hf ht
      rw [e.1, e.2]
      exact rone_no2 a f 4 128 v four internal w base hbs ha hv (by decide) (by decide) rfl (by decide) (fun W h1 h2 => (rtake_4 a f v four W base h1 h2 hv).mono fun e w' h => ⟨rt_no h.1 ht, h.2⟩) (by cases internal; exact .inr ⟨rfl, by decide, by decide, by decide⟩; exact .inl rfl) (by decide) (by decide) (by decide) (by decide) (by decide) (by decide) hf
  · have e := ref_bits (four := four) (internal := internal) (c := a.c) hr rfl hf
    rw [e.1, e.2]
    exact rone_bits a f 4 128 v four internal w base hbs ha hv (by decide) (by decide) rfl (by decide) (by cases internal; exact .inr ⟨rfl, by decide, by decide, by decide⟩; exact .inl rfl) hf
theorem rone_all5 (a : Atr) (f : UInt8) (v : ByteArray) (four internal : Bool) (w : World) (base : Nat) (hbs : base ≤ w.heap.size) (ha : AtO w base a) (hv : v.size ≤ 1048576) :
    Calls Tryz.prog 41 #[.agg a.ar, .agg #[.int .u8 f.toNat, .int .u8 (5 : UInt8).toNat, .string v], .bool four, .bool internal] w fun e w' => OnePost base (refC four internal ⟨f, 5, v⟩ a.c) (refV four internal ⟨f, 5, v⟩) w' e ∧ Below w.heap.size w w' := by
  have hr : rowF (⟨f, 5, v⟩ : Rw).t.toNat = some (64, 2, true, _) := rfl
  cases internal with
  | false =>
    have e := ref_in (four := four) (internal := false) (c := a.c) hr rfl
    rw [e.1, e.2]
    exact rone_in a f 5 64 v four false w base hbs ha hv (by decide) (by decide) rfl (by decide) rfl (.inl (by decide))
  | true =>
    by_cases hf : ((f &&& 192).toNat : Int) = 64
    · cases ht : (tab 5 v four a.c).2 with
      | true =>
        have e := ref_ok (four := four) (internal := true) (c := a.c) hr rfl hf ht
        rw [e.1, e.2]
        exact rone_take a f 5 64 v four true w base hbs ha hv (by decide) (by decide) rfl (by decide) _ (fun W h1 h2 => (rtake_5 a f v four W base h1 h2 hv).mono fun e w' h => ⟨rt_yes h.1 ht, h.2⟩) (.inl rfl) (by decide) (by decide) (by decide) (by decide) hf
      | false =>
        have e := ref_no (four := four) (internal := true) (c := a.c) hr rfl hf ht
        rw [e.1, e.2]
        exact rone_no2 a f 5 64 v four true w base hbs ha hv (by decide) (by decide) rfl (by decide) (fun W h1 h2 => (rtake_5 a f v four W base h1 h2 hv).mono fun e w' h => ⟨rt_no h.1 ht, h.2⟩) (.inl rfl) (by decide) (by decide) (by decide) (by decide) (by decide) (by decide) hf
    · have e := ref_bits (four := four) (internal := true) (c := a.c) hr rfl hf
      rw [e.1, e.2]
      exact rone_bits a f 5 64 v four true w base hbs ha hv (by decide) (by decide) rfl (by decide) (.inl rfl) hf
theorem rone_all6 (a : Atr) (f : UInt8) (v : ByteArray) (four internal : Bool) (w : World) (base : Nat) (hbs : base ≤ w.heap.size) (ha : AtO w base a) (hv : v.size ≤ 1048576) :
    Calls Tryz.prog 41 #[.agg a.ar, .agg #[.int .u8 f.toNat, .int .u8 (6 : UInt8).toNat, .string v], .bool four, .bool internal] w fun e w' => OnePost base (refC four internal ⟨f, 6, v⟩ a.c) (refV four internal ⟨f, 6, v⟩) w' e ∧ Below w.heap.size w w' := by
  have hr : rowF (⟨f, 6, v⟩ : Rw).t.toNat = some (64, 1, false, _) := rfl
  by_cases hf : ((f &&& 192).toNat : Int) = 64
  · cases ht : (tab 6 v four a.c).2 with
    | true =>
      have e := ref_ok (four := four) (internal := internal) (c := a.c) hr rfl hf ht
      rw [e.1, e.2]
      exact rone_take a f 6 64 v four internal w base hbs ha hv (by decide) (by decide) rfl (by decide) _ (fun W h1 h2 => (rtake_6 a f v four W base h1 h2 hv).mono fun e w' h => ⟨rt_yes h.1 ht, h.2⟩) (by cases internal; exact .inr ⟨rfl, by decide, by decide, by decide⟩; exact .inl rfl) (by decide) (by decide) (by decide) (by decide) hf
    | false =>
      have e := ref_no (four := four) (internal := internal) (c := a.c) hr rfl hf ht
      rw [e.1, e.2]
      exact rone_no1 a f 6 64 v four internal w base hbs ha hv (by decide) (by decide) rfl (by decide) (fun W h1 h2 => (rtake_6 a f v four W base h1 h2 hv).mono fun e w' h => ⟨rt_no h.1 ht, h.2⟩) (by cases internal; exact .inr ⟨rfl, by decide, by decide, by decide⟩; exact .inl rfl) (by decide) (by decide) (by decide) (by decide) (.inl (by decide)) hf
  · have e := ref_bits (four := four) (internal := internal) (c := a.c) hr rfl hf
    rw [e.1, e.2]
    exact rone_bits a f 6 64 v four internal w base hbs ha hv (by decide) (by decide) rfl (by decide) (by cases internal; exact .inr ⟨rfl, by decide, by decide, by decide⟩; exact .inl rfl) hf
theorem rone_all7 (a : Atr) (f : UInt8) (v : ByteArray) (four internal : Bool) (w : World) (base : Nat) (hbs : base ≤ w.heap.size) (ha : AtO w base a) (hv : v.size ≤ 1048576) :
    Calls Tryz.prog 41 #[.agg a.ar, .agg #[.int .u8 f.toNat, .int .u8 (7 : UInt8).toNat, .string v], .bool four, .bool internal] w fun e w' => OnePost base (refC four internal ⟨f, 7, v⟩ a.c) (refV four internal ⟨f, 7, v⟩) w' e ∧ Below w.heap.size w w' := by
  have hr : rowF (⟨f, 7, v⟩ : Rw).t.toNat = some (192, 1, false, _) := rfl
  by_cases hf : ((f &&& 192).toNat : Int) = 192
  · cases ht : (tab 7 v four a.c).2 with
    | true =>
      have e := ref_ok (four := four) (internal := internal) (c := a.c) hr rfl hf ht
      rw [e.1, e.2]
      exact rone_take a f 7 192 v four internal w base hbs ha hv (by decide) (by decide) rfl (by decide) _ (fun W h1 h2 => (rtake_7 a f v four W base h1 h2 hv).mono fun e w' h => ⟨rt_yes h.1 ht, h.2⟩) (by cases internal; exact .inr ⟨rfl, by decide, by decide, by decide⟩; exact .inl rfl) (by decide) (by decide) (by decide) (by decide) hf
    | false =>
      have e := ref_no (four := four) (internal := internal) (c := a.c) hr rfl hf ht
      rw [e.1, e.2]
      exact rone_no1 a f 7 192 v four internal w base hbs ha hv (by decide) (by decide) rfl (by decide) (fun W h1 h2 => (rtake_7 a f v four W base h1 h2 hv).mono fun e w' h => ⟨rt_no h.1 ht, h.2⟩) (by cases internal; exact .inr ⟨rfl, by decide, by decide, by decide⟩; exact .inl rfl) (by decide) (by decide) (by decide) (by decide) (.inr ⟨by decide, by decide⟩) hf
  · have e := ref_bits (four := four) (internal := internal) (c := a.c) hr rfl hf
    rw [e.1, e.2]
    exact rone_bits a f 7 192 v four internal w base hbs ha hv (by decide) (by decide) rfl (by decide) (by cases internal; exact .inr ⟨rfl, by decide, by decide, by decide⟩; exact .inl rfl) hf
theorem rone_all8 (a : Atr) (f : UInt8) (v : ByteArray) (four internal : Bool) (w : World) (base : Nat) (hbs : base ≤ w.heap.size) (ha : AtO w base a) (hv : v.size ≤ 1048576) :
    Calls Tryz.prog 41 #[.agg a.ar, .agg #[.int .u8 f.toNat, .int .u8 (8 : UInt8).toNat, .string v], .bool four, .bool internal] w fun e w' => OnePost base (refC four internal ⟨f, 8, v⟩ a.c) (refV four internal ⟨f, 8, v⟩) w' e ∧ Below w.heap.size w w' := by
  have hr : rowF (⟨f, 8, v⟩ : Rw).t.toNat = some (192, 2, false, _) := rfl
  by_cases hf : ((f &&& 192).toNat : Int) = 192
  · cases ht : (tab 8 v four a.c).2 with
    | true =>
      have e := ref_ok (four := four) (internal := internal) (c := a.c) hr rfl hf ht
      rw [e.1, e.2]
      exact rone_ltake a f 8 192 v four internal w base hbs ha hv (by decide) (by decide) rfl (by decide) _ (fun W h1 h2 => rtake_8 a f v four W base h1 h2 hv) (fun W h1 h2 => (rlist_8 a f v four W base h1 h2 hv).mono fun e w' h => ⟨rt_yes h.1 ht, h.2⟩) (by cases internal; exact .inr ⟨rfl, by decide, by decide, by decide⟩; exact .inl rfl) (.inl (by decide)) hf
    | false =>
      have e := ref_no (four := four) (internal := internal) (c := a.c) hr rfl hf ht
      rw [e.1, e.2]
      exact rone_lno a f 8 192 v four internal w base hbs ha hv (by decide) (by decide) rfl (by decide) (fun W h1 h2 => rtake_8 a f v four W base h1 h2 hv) (fun W h1 h2 => (rlist_8 a f v four W base h1 h2 hv).mono fun e w' h => ⟨rt_no h.1 ht, h.2⟩) (by cases internal; exact .inr ⟨rfl, by decide, by decide, by decide⟩; exact .inl rfl) (.inl (by decide)) (by decide) (by decide) hf
  · have e := ref_bits (four := four) (internal := internal) (c := a.c) hr rfl hf
    rw [e.1, e.2]
    exact rone_bits a f 8 192 v four internal w base hbs ha hv (by decide) (by decide) rfl (by decide) (by cases internal; exact .inr ⟨rfl, by decide, by decide, by decide⟩; exact .inl rfl) hf
theorem rone_all9 (a : Atr) (f : UInt8) (v : ByteArray) (four internal : Bool) (w : World) (base : Nat) (hbs : base ≤ w.heap.size) (ha : AtO w base a) (hv : v.size ≤ 1048576) :
    Calls Tryz.prog 41 #[.agg a.ar, .agg #[.int .u8 f.toNat, .int .u8 (9 : UInt8).toNat, .string v], .bool four, .bool internal] w fun e w' => OnePost base (refC four internal ⟨f, 9, v⟩ a.c) (refV four internal ⟨f, 9, v⟩) w' e ∧ Below w.heap.size w w' := by
  have hr : rowF (⟨f, 9, v⟩ : Rw).t.toNat = some (128, 2, true, _) := rfl
  cases internal with
  | false =>
    have e := ref_in (four := four) (internal := false) (c := a.c) hr rfl
    rw [e.1, e.2]
    exact rone_in a f 9 128 v four false w base hbs ha hv (by decide) (by decide) rfl (by decide) rfl (.inr (.inl ⟨by decide, by decide⟩))
  | true =>
    by_cases hf : ((f &&& 192).toNat : Int) = 128
    · cases ht : (tab 9 v four a.c).2 with
      | true =>
        have e := ref_ok (four := four) (internal := true) (c := a.c) hr rfl hf ht
        rw [e.1, e.2]
        exact rone_take a f 9 128 v four true w base hbs ha hv (by decide) (by decide) rfl (by decide) _ (fun W h1 h2 => (rtake_9 a f v four W base h1 h2 hv).mono fun e w' h => ⟨rt_yes h.1 ht, h.2⟩) (.inl rfl) (by decide) (by decide) (by decide) (by decide) hf
      | false =>
        have e := ref_no (four := four) (internal := true) (c := a.c) hr rfl hf ht
        rw [e.1, e.2]
        exact rone_no2 a f 9 128 v four true w base hbs ha hv (by decide) (by decide) rfl (by decide) (fun W h1 h2 => (rtake_9 a f v four W base h1 h2 hv).mono fun e w' h => ⟨rt_no h.1 ht, h.2⟩) (.inl rfl) (by decide) (by decide) (by decide) (by decide) (by decide) (by decide) hf
    · have e := ref_bits (four := four) (internal := true) (c := a.c) hr rfl hf
      rw [e.1, e.2]
      exact rone_bits a f 9 128 v four true w base hbs ha hv (by decide) (by decide) rfl (by decide) (.inl rfl) hf
theorem rone_all10 (a : Atr) (f : UInt8) (v : ByteArray) (four internal : Bool) (w : World) (base : Nat) (hbs : base ≤ w.heap.size) (ha : AtO w base a) (hv : v.size ≤ 1048576) :
    Calls Tryz.prog 41 #[.agg a.ar, .agg #[.int .u8 f.toNat, .int .u8 (10 : UInt8).toNat, .string v], .bool four, .bool internal] w fun e w' => OnePost base (refC four internal ⟨f, 10, v⟩ a.c) (refV four internal ⟨f, 10, v⟩) w' e ∧ Below w.heap.size w w' := by
  have hr : rowF (⟨f, 10, v⟩ : Rw).t.toNat = some (128, 2, true, _) := rfl
  cases internal with
  | false =>
    have e := ref_in (four := four) (internal := false) (c := a.c) hr rfl
    rw [e.1, e.2]
    exact rone_in a f 10 128 v four false w base hbs ha hv (by decide) (by decide) rfl (by decide) rfl (.inr (.inr ⟨by decide, by decide, by decide⟩))
  | true =>
    by_cases hf : ((f &&& 192).toNat : Int) = 128
    · cases ht : (tab 10 v four a.c).2 with
      | true =>
        have e := ref_ok (four := four) (internal := true) (c := a.c) hr rfl hf ht
        rw [e.1, e.2]
        exact rone_ltake a f 10 128 v four true w base hbs ha hv (by decide) (by decide) rfl (by decide) _ (fun W h1 h2 => rtake_10 a f v four W base h1 h2 hv) (fun W h1 h2 => (rlist_10 a f v four W base h1 h2 hv).mono fun e w' h => ⟨rt_yes h.1 ht, h.2⟩) (.inl rfl) (.inr (.inl ⟨by decide, by decide⟩)) hf
      | false =>
        have e := ref_no (four := four) (internal := true) (c := a.c) hr rfl hf ht
        rw [e.1, e.2]
        exact rone_lno a f 10 128 v four true w base hbs ha hv (by decide) (by decide) rfl (by decide) (fun W h1 h2 => rtake_10 a f v four W base h1 h2 hv) (fun W h1 h2 => (rlist_10 a f v four W base h1 h2 hv).mono fun e w' h => ⟨rt_no h.1 ht, h.2⟩) (.inl rfl) (.inr (.inl ⟨by decide, by decide⟩)) (by decide) (by decide) hf
    · have e := ref_bits (four := four) (internal := true) (c := a.c) hr rfl hf
      rw [e.1, e.2]
      exact rone_bits a f 10 128 v four true w base hbs ha hv (by decide) (by decide) rfl (by decide) (.inl rfl) hf
theorem rone_all16 (a : Atr) (f : UInt8) (v : ByteArray) (four internal : Bool) (w : World) (base : Nat) (hbs : base ≤ w.heap.size) (ha : AtO w base a) (hv : v.size ≤ 1048576) :
    Calls Tryz.prog 41 #[.agg a.ar, .agg #[.int .u8 f.toNat, .int .u8 (16 : UInt8).toNat, .string v], .bool four, .bool internal] w fun e w' => OnePost base (refC four internal ⟨f, 16, v⟩ a.c) (refV four internal ⟨f, 16, v⟩) w' e ∧ Below w.heap.size w w' := by
  have hr : rowF (⟨f, 16, v⟩ : Rw).t.toNat = some (192, 2, false, _) := rfl
  by_cases hf : ((f &&& 192).toNat : Int) = 192
  · cases ht : (tab 16 v four a.c).2 with
    | true =>
      have e := ref_ok (four := four) (internal := internal) (c := a.c) hr rfl hf ht
      rw [e.1, e.2]
      exact rone_ltake a f 16 192 v four internal w base hbs ha hv (by decide) (by decide) rfl (by decide) _ (fun W h1 h2 => rtake_16 a f v four W base h1 h2 hv) (fun W h1 h2 => (rlist_16 a f v four W base h1 h2 hv).mono fun e w' h => ⟨rt_yes h.1 ht, h.2⟩) (by cases internal; exact .inr ⟨rfl, by decide, by decide, by decide⟩; exact .inl rfl) (.inr (.inr (.inl ⟨by decide, by decide, by decide⟩))) hf
    | false =>
      have e := ref_no (four := four) (internal := internal) (c := a.c) hr rfl hf ht
      rw [e.1, e.2]
      exact rone_lno a f 16 192 v four internal w base hbs ha hv (by decide) (by decide) rfl (by decide) (fun W h1 h2 => rtake_16 a f v four W base h1 h2 hv) (fun W h1 h2 => (rlist_16 a f v four W base h1 h2 hv).mono fun e w' h => ⟨rt_no h.1 ht, h.2⟩) (by cases internal; exact .inr ⟨rfl, by decide, by decide, by decide⟩; exact .inl rfl) (.inr (.inr (.inl ⟨by decide, by decide, by decide⟩))) (by decide) (by decide) hf
  · have e := ref_bits (four := four) (internal := internal) (c := a.c) hr rfl hf
    rw [e.1, e.2]
    exact rone_bits a f 16 192 v four internal w base hbs ha hv (by decide) (by decide) rfl (by decide) (by cases internal; exact .inr ⟨rfl, by decide, by decide, by decide⟩; exact .inl rfl) hf
theorem rone_all32 (a : Atr) (f : UInt8) (v : ByteArray) (four internal : Bool) (w : World) (base : Nat) (hbs : base ≤ w.heap.size) (ha : AtO w base a) (hv : v.size ≤ 1048576) :
    Calls Tryz.prog 41 #[.agg a.ar, .agg #[.int .u8 f.toNat, .int .u8 (32 : UInt8).toNat, .string v], .bool four, .bool internal] w fun e w' => OnePost base (refC four internal ⟨f, 32, v⟩ a.c) (refV four internal ⟨f, 32, v⟩) w' e ∧ Below w.heap.size w w' := by
  have hr : rowF (⟨f, 32, v⟩ : Rw).t.toNat = some (192, 2, false, _) := rfl
  by_cases hf : ((f &&& 192).toNat : Int) = 192
  · cases ht : (tab 32 v four a.c).2 with
    | true =>
      have e := ref_ok (four := four) (internal := internal) (c := a.c) hr rfl hf ht
      rw [e.1, e.2]
      exact rone_ltake a f 32 192 v four internal w base hbs ha hv (by decide) (by decide) rfl (by decide) _ (fun W h1 h2 => rtake_32 a f v four W base h1 h2 hv) (fun W h1 h2 => (rlist_32 a f v four W base h1 h2 hv).mono fun e w' h => ⟨rt_yes h.1 ht, h.2⟩) (by cases internal; exact .inr ⟨rfl, by decide, by decide, by decide⟩; exact .inl rfl) (.inr (.inr (.inr ⟨by decide, by decide, by decide, by decide⟩))) hf
    | false =>
      have e := ref_no (four := four) (internal := internal) (c := a.c) hr rfl hf ht
      rw [e.1, e.2]
      exact rone_lno a f 32 192 v four internal w base hbs ha hv (by decide) (by decide) rfl (by decide) (fun W h1 h2 => rtake_32 a f v four W base h1 h2 hv) (fun W h1 h2 => (rlist_32 a f v four W base h1 h2 hv).mono fun e w' h => ⟨rt_no h.1 ht, h.2⟩) (by cases internal; exact .inr ⟨rfl, by decide, by decide, by decide⟩; exact .inl rfl) (.inr (.inr (.inr ⟨by decide, by decide, by decide, by decide⟩))) (by decide) (by decide) hf
  · have e := ref_bits (four := four) (internal := internal) (c := a.c) hr rfl hf
    rw [e.1, e.2]
    exact rone_bits a f 32 192 v four internal w base hbs ha hv (by decide) (by decide) rfl (by decide) (by cases internal; exact .inr ⟨rfl, by decide, by decide, by decide⟩; exact .inl rfl) hf
theorem rone_any (a : Atr) (x : Rw) (four internal : Bool) (w : World) (base : Nat) (hbs : base ≤ w.heap.size) (ha : AtO w base a) (hv : x.v.size ≤ 1048576) :
    Calls Tryz.prog 41 #[.agg a.ar, .agg #[.int .u8 x.f.toNat, .int .u8 x.t.toNat, .string x.v], .bool four, .bool internal] w fun e w' => OnePost base (refC four internal x a.c) (refV four internal x) w' e ∧ Below w.heap.size w w' := by
  obtain ⟨f, t, v⟩ := x
  by_cases h14 : t.toNat = 14
  · have e := ref_14 (four := four) (internal := internal) (x := ⟨f, t, v⟩) (c := a.c) (Or.inl h14)
    rw [e.1, e.2]
    obtain rfl : t = 14 := UInt8.toNat_inj.1 h14
    exact rone_14 a f v four internal w base hbs ha hv
  by_cases h15 : t.toNat = 15
  · have e := ref_14 (four := four) (internal := internal) (x := ⟨f, t, v⟩) (c := a.c) (Or.inr h15)
    rw [e.1, e.2]
    obtain rfl : t = 15 := UInt8.toNat_inj.1 h15
    exact rone_15 a f v four internal w base hbs ha hv
  cases hr : rowF t.toNat with
  | none =>
    have e := ref_none (four := four) (internal := internal) (x := ⟨f, t, v⟩) (c := a.c) (by rintro (h | h); exact h14 h; exact h15 h) hr
    rw [e.1, e.2]
    by_cases hf : f &&& 128 = 0
    · rw [if_pos hf]
      exact rone_bad a f t.toNat v four internal w base hbs ha hv h14 h15 hr hf
    · rw [if_neg hf]
      exact rone_none a f t.toNat v four internal w base hbs ha hv h14 h15 hr hf
  | some p =>
    obtain ⟨b, wr, i, fn⟩ := p
    rcases row_known hr with h | h | h | h | h | h | h | h | h | h | h | h
    · obtain rfl : t = 1 := UInt8.toNat_inj.1 h
      exact rone_all1 a f v four internal w base hbs ha hv
    · obtain rfl : t = 2 := UInt8.toNat_inj.1 h
      exact rone_all2 a f v four internal w base hbs ha hv
    · obtain rfl : t = 3 := UInt8.toNat_inj.1 h
      exact rone_all3 a f v four internal w base hbs ha hv
    · obtain rfl : t = 4 := UInt8.toNat_inj.1 h
      exact rone_all4 a f v four internal w base hbs ha hv
    · obtain rfl : t = 5 := UInt8.toNat_inj.1 h
      exact rone_all5 a f v four internal w base hbs ha hv
    · obtain rfl : t = 6 := UInt8.toNat_inj.1 h
      exact rone_all6 a f v four internal w base hbs ha hv
    · obtain rfl : t = 7 := UInt8.toNat_inj.1 h
      exact rone_all7 a f v four internal w base hbs ha hv
    · obtain rfl : t = 8 := UInt8.toNat_inj.1 h
      exact rone_all8 a f v four internal w base hbs ha hv
    · obtain rfl : t = 9 := UInt8.toNat_inj.1 h
      exact rone_all9 a f v four internal w base hbs ha hv
    · obtain rfl : t = 10 := UInt8.toNat_inj.1 h
      exact rone_all10 a f v four internal w base hbs ha hv
    · obtain rfl : t = 16 := UInt8.toNat_inj.1 h
      exact rone_all16 a f v four internal w base hbs ha hv
    · obtain rfl : t = 32 := UInt8.toNat_inj.1 h
      exact rone_all32 a f v four internal w base hbs ha hv
end Go.Proofs.YtkcojblflebomaaGreat
