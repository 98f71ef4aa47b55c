/-
  ExportNotBack walked. Conditions: sizes.
-/
import Derived.Test.YtojiieghjhjoaaaGreatMY53
set_option linter.unusedVariables false
set_option linter.unusedSimpArgs false
namespace Go.Proofs.YtojiieghjhjoaaaGreat
open Go.RowKit Go.MapKept Go.Shelf
open Go.Lib hiding intOf

theorem cfg_ones (g : Cfg) : g.ar.all Value.oneCell' = true := Array.all_eq_true_iff_forall_mem.2 (fun u hu => by
  simp only [Cfg.ar, List.mem_toArray, List.mem_cons, List.not_mem_nil, or_false] at hu
  rcases hu with rfl | rfl | rfl | rfl | rfl | rfl | rfl | rfl | rfl | rfl | rfl | rfl | rfl <;> rfl)
theorem CellsAt.setX {w : World} {b : Nat} {cs : Array Value} {T : TypeId} (h : CellsAt w b cs T) {c i : Nat} (hne : b ≠ c) (u : Value) : CellsAt (w.setCell ⟨c, i, none⟩ u) b cs T := (Below.heap_setCell w _ _ b hne).trans h
section
variable {w V : World} {s : Nat} {g : Cfg} {p : Pth} {t : Pr}
theorem Bu.setT (h : Bu w V s g p t) (i : Nat) (u : Value) (t' : Pr) (ht : t.ar.setIfInBounds i u = t'.ar) : Bu w (V.setCell ⟨s + 1 + 1, i, none⟩ u) s g p t' := by
  have he := h.e
  refine ⟨h.c.setX (by omega) u, h.p.setX (by omega) u, ?_, Below.setCell (p := ⟨s + 1 + 1, i, none⟩) h.b (by show w.heap.size ≤ s + 1 + 1; omega) u, he, by simpa using h.sz⟩
  rw [← ht]
  exact h.t.setAt i u
theorem Bu.setO (h : Bu w V s g p t) {k : Nat} (hk : s + 1 + 1 < k) (i : Nat) (u : Value) : Bu w (V.setCell ⟨k, i, none⟩ u) s g p t := by
  have he := h.e
  exact ⟨h.c.setX (by omega) u, h.p.setX (by omega) u, h.t.setX (by omega) u, Below.setCell (p := ⟨k, i, none⟩) h.b (by show w.heap.size ≤ k; omega) u, he, by simpa using h.sz⟩
end
/-- it came of that neighbour -/
theorem may_back (g : Cfg) (p : Pth) (t : Pr) (h : t.name = p.peer) : mayF g p t = false := by
  unfold mayF
  rw [h, beq_self_eq_true]
  simp
theorem told_back (g : Cfg) (p : Pth) (t : Pr) (h : t.name = p.peer) : toldF g p t = (noC, false) := by
  unfold toldF
  rw [if_pos (may_back g p t h)]
theorem kind_in (g : Cfg) (t : Pr) (h : t.as_ = g.as_) (h2 : t.client = false) : kindOf g t = 4 := by
  unfold kindOf kindF
  rw [if_pos h, h2]
  rfl
theorem kind_cl (g : Cfg) (t : Pr) (h : t.as_ = g.as_) (h2 : t.client = true) : kindOf g t = 5 := by
  unfold kindOf kindF
  rw [if_pos h, h2]
  rfl
theorem may_inner (g : Cfg) (p : Pth) (t : Pr) (hp : p.kind = 4) (h : t.as_ = g.as_) (h2 : t.client = false) : mayF g p t = false := by
  unfold mayF
  rw [kind_in g t h h2, hp]
  simp
theorem may_client (g : Cfg) (p p4 p5 : Pth) (t : Pr) (h4 : p4 = { p with kind := 4 }) (h5 : p5 = { p with kind := 5 }) (h : t.as_ = g.as_) (h2 : t.client = true) : mayF g p5 t = mayF g p4 t := by
  subst h4 h5
  unfold mayF mayPathF
  rw [kind_cl g t h h2]
  simp
/-- is a segment a confederation's? -/
def confF (k : Int) : Bool := decide (k = 3 ∨ k = 4)
theorem confed_anyV (k : Int) (v : Value) (w : World) : Calls Tryz.prog 62 #[.agg #[.int .i64 k, v]] w fun e w' => e = .returned (.bool (confF k)) ∧ Below w.heap.size w w' := by
  have HA := Lib.hid (fun cs => Below.alloc (Below.refl w.heap.size w) (Nat.le_refl _) (.cells cs 67))
  unfold confF
  rcases beq_factsY k 3 with ⟨k1, k2⟩ | ⟨k1, k2⟩
  · subst k1
    go_enter Tryz.func62, Tryz.ntmps62
    go_wp2_with fail
    go_ret
    exact ⟨rfl, HA.out _⟩
  · rcases beq_factsY k 4 with ⟨m1, m2⟩ | ⟨m1, m2⟩
    · subst m1
      go_enter Tryz.func62, Tryz.ntmps62
      go_wp2_with fail
      go_ret
      exact ⟨rfl, HA.out _⟩
    · rw [decide_eq_false (by omega)]
      go_enter Tryz.func62, Tryz.ntmps62
      go_wp2_with fail
      go_ret
      exact ⟨rfl, HA.out _⟩

/-- the neighbouring AS -/
def firstF : List Sg → Option Nat
  | [] => none
  | s :: r => if confF s.kind = true then firstF r else if s.kind = 2 then s.as_[0]? else none
theorem firstF_drop (l : List Sg) (j : Nat) (s : Sg) (h : l[j]? = some s) : firstF (l.drop j) = if confF s.kind = true then firstF (l.drop (j + 1)) else if s.kind = 2 then s.as_[0]? else none := by
  obtain ⟨hj, rfl⟩ := List.getElem?_eq_some_iff.1 h
  rw [List.drop_eq_getElem_cons hj]
  rfl
def firstV (o : Option Nat) : Value := match o with
  | none => .tuple #[.int .u32 0, .bool false]
  | some n => .tuple #[.int .u32 n, .bool true]
set_option maxHeartbeats 4000000 in
theorem first_any (A : Option Addr) (l : List Sg) (cap : Nat) (w : World) (h : Rd w A 2 (l.map Sg.cs)) (h1 : l.length ≤ cap) (h2 : cap ≤ maxLen) (hs : ∀ s ∈ l, SgOk w s) :
    Calls Tryz.prog 27 #[.slice A l.length cap] w fun e w' => e = .returned (firstV (firstF l)) ∧ Below w.heap.size w w' := by
  have HR := Lib.hid h
  have HSG := Lib.hid hs
  have hmax : cap ≤ 9223372036854775807 := h2
  clear h h2 hs
  go_enter Tryz.func27, Tryz.ntmps27
  go_wp2_with fail
  go_loopw [8] (fun x wr => ∃ j : Nat, j ≤ l.length ∧ Hid (firstF l = firstF (l.drop j)) ∧ x = .int .i64 j ∧ Hid (Below w.heap.size w wr)) (fun x _ => l.length + 1 - (intOf x).toNat)
  case atStart => exact ⟨0, by omega, rfl, rfl, Lib.hid (Below.refl _ _)⟩
  case round =>
    obtain ⟨j, hj, HF, rfl, HB⟩ := hrel
    by_cases hlt : j < l.length
    · obtain ⟨s, hs⟩ : ∃ s, l[j]? = some s := ⟨l[j]'hlt, List.getElem?_eq_getElem hlt⟩
      have hok := HSG.out s (List.mem_of_getElem? hs)
      obtain ⟨b, off, rfl, hb, c0, c1⟩ := sg_cells HR.out hs
      have c0 := (HB.out.cell (p := ⟨b, off + j * 2, none⟩) hb).trans c0
      have c1 := (HB.out.cell (p := ⟨b, off + j * 2 + 1, none⟩) hb).trans c1
      have HS := Lib.hid (firstF_drop l j s hs)
      clear hs
      obtain ⟨kd, sA, sl, sc⟩ := s
      have hs1 : sl.length ≤ sc := hok.len
      have hs2 : sc ≤ 9223372036854775807 := hok.cap
      have HRD : Hid (Rd w sA 1 (sl.map fun n => [.int .u32 (n : Nat)])) := hok.rd
      clear hok
      simp only at c0 c1 HS
      have HC := Lib.hid (CellsAt.new wr #[.int .i64 kd, .slice sA sl.length sc] 67)
      have HB1 := Lib.hid (HB.out.alloc HB.out.size (.cells #[.int .i64 kd, .slice sA sl.length sc] 67))
      have HCON := Lib.hid (fun w => confed_anyV kd (.slice sA sl.length sc) w)
      cases hcf : confF kd with
      | true =>
        rw [hcf] at HCON
        simp only [hcf, if_true] at HS
        go_wp2_with fail
        refine (HCON.out _).mono ?_
        rintro e w2 ⟨rfl, hb2⟩
        have HB2 := Lib.hid (HB1.out.trans (hb2.mono HB1.out.size))
        clear hb2 c0 c1 HB HB1 HC HCON
        go_wp2_with fail
        exact ⟨⟨j + 1, by omega, Lib.hid (HF.out.trans HS.out), by go_num, HB2⟩, by simp [intOf]; omega⟩
      | false =>
        rw [hcf] at HCON
        simp only [hcf, Bool.false_eq_true, if_false] at HS
        go_wp2_with fail
        refine (HCON.out _).mono ?_
        rintro e w2 ⟨rfl, hb2⟩
        have HB2 := Lib.hid (HB1.out.trans (hb2.mono HB1.out.size))
        have HC2 := Lib.hid (HC.out.below hb2 HC.out.lt)
        obtain ⟨d0, d1⟩ := HC2.out.c2
        clear hb2 c0 c1 HB HB1 HC HCON HC2
        rcases beq_factsY kd 2 with ⟨k1, k2⟩ | ⟨k1, k2⟩
        · subst k1
          simp only [if_true] at HS
          rcases Nat.eq_zero_or_pos sl.length with h0 | h0
          · obtain rfl := List.eq_nil_of_length_eq_zero h0
            clear h0
            go_wp2_with fail
            go_ret2
            exact ⟨by rw [HF.out, HS.out]; rfl, HB2.out⟩
          · obtain ⟨m, hm⟩ : ∃ m, sl[0]? = some m := ⟨sl[0]'h0, List.getElem?_eq_getElem h0⟩
            obtain ⟨b', off', rfl, hb', hc'⟩ := HRD.out.at_ (i := 0) (cs := [.int .u32 (m : Nat)]) (by rw [List.getElem?_map, hm]; rfl)
            have hc' := (HB2.out.cell (p := ⟨b', off' + 0 * 1 + 0, none⟩) hb').trans (hc' 0 _ rfl)
            simp only [Nat.zero_mul, Nat.add_zero] at hc'
            have HM := Lib.hid (HS.out.trans hm)
            have hne : ((sl.length : Int) == 0) = false := by rw [beq_eq_false_iff_ne]; omega
            clear hm HS
            go_wp2_with fail
            go_ret2
            exact ⟨by rw [HF.out, HM.out]; rfl, HB2.out⟩
        · simp only [if_neg k1] at HS
          have hne : (kd != 2) = true := by rw [bne_iff_ne]; exact k1
          go_wp2_with fail
          go_ret2
          exact ⟨by rw [HF.out, HS.out]; rfl, HB2.out⟩
    · obtain rfl : j = l.length := by omega
      have hF : firstF l = none := by rw [HF.out, List.drop_length]; rfl
      have HF := Lib.hid hF
      clear HR HSG hF
      go_wp2_with fail
      go_ret2
      exact ⟨by rw [HF.out]; rfl, HB.out⟩
set_option maxRecDepth 100000 in
set_option maxHeartbeats 8000000 in
theorem eq_u64 (A B : Option Addr) (c d : Nat) (xs ys : List Nat) (w : World) (h1 : Rd w A 1 (nums .u64 xs)) (h2 : Rd w B 1 (nums .u64 ys)) (l1 : xs.length ≤ c) (l2 : ys.length ≤ d) (l3 : c ≤ 9223372036854775807) (l4 : d ≤ 9223372036854775807) :
    Calls Tryz.prog 53 #[.slice A xs.length c, .slice B ys.length d] w fun e w' => e = .returned (.bool (decide (xs = ys))) ∧ Below w.heap.size w w' := by
  have H1 := Lib.hid h1
  have H2 := Lib.hid h2
  clear h1 h2
  by_cases hl : xs.length = ys.length
  · generalize hr : decide (xs = ys) = r
    have HR := Lib.hid hr
    clear hr
    have HLE := Lib.hid hl
    generalize hm : ys.length = m at hl l2 ⊢
    subst hl
    clear hm
    have z1 : ((xs.length : Int) != (xs.length : Int)) = false := by simp
    go_enter Tryz.func53, Tryz.ntmps53
    go_wp2_with fail
    go_loopw [13] (fun i wr => ∃ k : Nat, k ≤ xs.length ∧ i = .int .i64 k ∧ Hid (Below w.heap.size w wr) ∧ Hid (∀ j, j < k → xs[j]? = ys[j]?)) (fun i _ => xs.length + 1 - (intOf i).toNat)
    case atStart => exact ⟨0, by omega, rfl, Below.refl _ _, fun j hj => by omega⟩
    case round =>
      obtain ⟨k, hk, rfl, HB, HE⟩ := hrel
      by_cases hlt : k < xs.length
      · obtain ⟨x, hx⟩ : ∃ x, xs[k]? = some x := ⟨xs[k], List.getElem?_eq_getElem hlt⟩
        obtain ⟨y, hy⟩ : ∃ y, ys[k]? = some y := ⟨ys[k]'(by have := HLE.out; omega), List.getElem?_eq_getElem (by have := HLE.out; omega)⟩
        obtain ⟨b1, o1, rfl, hb1, hc1⟩ := num_at (H1.out.below HB.out (Nat.le_refl _)) hx
        obtain ⟨b2, o2, rfl, hb2, hc2⟩ := num_at (H2.out.below HB.out (Nat.le_refl _)) hy
        have HX := Lib.hid hx
        have HY := Lib.hid hy
        clear hx hy
        by_cases hxy : x = y
        · subst hxy
          have hne : ((x : Int) != (x : Int)) = false := by simp
          have he : ((x : Int) == (x : Int)) = true := by simp
          go_wp2_with fail
          go_quiet (fail)
          go_wp2_with fail
          exact ⟨⟨k + 1, by omega, by go_num, below_drewN HB.out _, fun j hj => by
            by_cases e : j = k
            · subst e; exact HX.out.trans HY.out.symm
            · exact HE.out j (by omega)⟩, by simp [intOf]; omega⟩
        · obtain rfl : r = false := by rw [← HR.out]; exact decide_eq_false (list_unlike HX.out HY.out hxy)
          have he : ((x : Int) == (y : Int)) = false := beq_eq_false_iff_ne.2 (by omega)
          have hne : ((x : Int) != (y : Int)) = true := bne_iff_ne.2 (by omega)
          clear hxy
          go_wp2_with fail
          go_quiet (fail)
          go_wp2_with fail
          go_ret
          exact ⟨rfl, below_drewN HB.out _⟩
      · obtain rfl : k = xs.length := by omega
        obtain rfl : r = true := by rw [← HR.out]; exact decide_eq_true (list_alike HLE.out HE.out)
        go_wp2_with fail
        go_ret
        exact ⟨rfl, HB.out⟩
  · have hr : decide (xs = ys) = false := decide_eq_false_iff_not.2 (fun e => hl (by rw [e]))
    rw [hr]
    have hne : ((xs.length : Int) == (ys.length : Int)) = false := by rw [beq_eq_false_iff_ne]; omega
    have hnb : ((xs.length : Int) != (ys.length : Int)) = true := by simp [bne, hne]
    clear hr hl
    go_enter Tryz.func53, Tryz.ntmps53
    go_wp2_with fail
    go_ret
    exact ⟨rfl, Below.refl _ _⟩

set_option maxRecDepth 100000 in
set_option maxHeartbeats 8000000 in
theorem eq_L (A B : Option Addr) (c d : Nat) (xs ys : List Lg) (w : World) (h1 : Rd w A 3 (xs.map Lg.cs)) (h2 : Rd w B 3 (ys.map Lg.cs)) (l1 : xs.length ≤ c) (l2 : ys.length ≤ d) (l3 : c ≤ 9223372036854775807) (l4 : d ≤ 9223372036854775807) :
    Calls Tryz.prog 54 #[.slice A xs.length c, .slice B ys.length d] w fun e w' => e = .returned (.bool (decide (xs = ys))) ∧ Below w.heap.size w w' := by
  have H1 := Lib.hid h1
  have H2 := Lib.hid h2
  clear h1 h2
  by_cases hl : xs.length = ys.length
  · generalize hr : decide (xs = ys) = r
    have HR := Lib.hid hr
    clear hr
    have HLE := Lib.hid hl
    generalize hm : ys.length = m at hl l2 ⊢
    subst hl
    clear hm
    have z1 : ((xs.length : Int) != (xs.length : Int)) = false := by simp
    go_enter Tryz.func54, Tryz.ntmps54
    go_wp2_with fail
    go_loopw [13] (fun i wr => ∃ k : Nat, k ≤ xs.length ∧ i = .int .i64 k ∧ Hid (Below w.heap.size w wr) ∧ Hid (∀ j, j < k → xs[j]? = ys[j]?)) (fun i _ => xs.length + 1 - (intOf i).toNat)
    case atStart => exact ⟨0, by omega, rfl, Below.refl _ _, fun j hj => by omega⟩
    case round =>
      obtain ⟨k, hk, rfl, HB, HE⟩ := hrel
      by_cases hlt : k < xs.length
      · obtain ⟨x, hx⟩ : ∃ x, xs[k]? = some x := ⟨xs[k], List.getElem?_eq_getElem hlt⟩
        obtain ⟨y, hy⟩ : ∃ y, ys[k]? = some y := ⟨ys[k]'(by have := HLE.out; omega), List.getElem?_eq_getElem (by have := HLE.out; omega)⟩
        obtain ⟨b1, o1, rfl, hb1, p0, p1, p2⟩ := lg_at (H1.out.below HB.out (Nat.le_refl _)) hx
        obtain ⟨b2, o2, rfl, hb2, q0, q1, q2⟩ := lg_at (H2.out.below HB.out (Nat.le_refl _)) hy
        have HX := Lib.hid hx
        have HY := Lib.hid hy
        clear hx hy
        by_cases hxy : x = y
        · subst hxy
          have hne0 : ((x.g : Int) != (x.g : Int)) = false := by simp
          have hne1 : ((x.a : Int) != (x.a : Int)) = false := by simp
          have hne2 : ((x.b : Int) != (x.b : Int)) = false := by simp
          have he0 : ((x.g : Int) == (x.g : Int)) = true := by simp
          have he1 : ((x.a : Int) == (x.a : Int)) = true := by simp
          have he2 : ((x.b : Int) == (x.b : Int)) = true := by simp
          go_wp2_with fail
          go_quiet (fail)
          go_wp2_with fail
          exact ⟨⟨k + 1, by omega, by go_num, below_drewN HB.out _, fun j hj => by
            by_cases e : j = k
            · subst e; exact HX.out.trans HY.out.symm
            · exact HE.out j (by omega)⟩, by simp [intOf]; omega⟩
        · obtain rfl : r = false := by rw [← HR.out]; exact decide_eq_false (list_unlike HX.out HY.out hxy)
          have HD : Hid (¬ (x.g = y.g ∧ x.a = y.a ∧ x.b = y.b)) := fun e => hxy (Lg.eq_iff.1 e)
          clear hxy
          by_cases d0 : x.g = y.g
          · have he0 : ((x.g : Int) == (y.g : Int)) = true := by simp [d0]
            by_cases d1 : x.a = y.a
            · have he1 : ((x.a : Int) == (y.a : Int)) = true := by simp [d1]
              have d2 : ¬ x.b = y.b := fun e => HD.out ⟨d0, d1, e⟩
              have he2 : ((x.b : Int) == (y.b : Int)) = false := beq_eq_false_iff_ne.2 (by omega)
              clear d0 d1 d2
              go_wp2_with fail
              go_quiet (fail)
              go_wp2_with fail
              go_ret
              exact ⟨rfl, below_drewN HB.out _⟩
            · have he1 : ((x.a : Int) == (y.a : Int)) = false := beq_eq_false_iff_ne.2 (by omega)
              clear d0 d1
              go_wp2_with fail
              go_quiet (fail)
              go_wp2_with fail
              go_ret
              exact ⟨rfl, below_drewN HB.out _⟩
          · have he0 : ((x.g : Int) == (y.g : Int)) = false := beq_eq_false_iff_ne.2 (by omega)
            clear d0
            go_wp2_with fail
            go_quiet (fail)
            go_wp2_with fail
            go_ret
            exact ⟨rfl, below_drewN HB.out _⟩
      · obtain rfl : k = xs.length := by omega
        obtain rfl : r = true := by rw [← HR.out]; exact decide_eq_true (list_alike HLE.out HE.out)
        go_wp2_with fail
        go_ret
        exact ⟨rfl, HB.out⟩
  · have hr : decide (xs = ys) = false := decide_eq_false_iff_not.2 (fun e => hl (by rw [e]))
    rw [hr]
    have hne : ((xs.length : Int) == (ys.length : Int)) = false := by rw [beq_eq_false_iff_ne]; omega
    have hnb : ((xs.length : Int) != (ys.length : Int)) = true := by simp [bne, hne]
    clear hr hl
    go_enter Tryz.func54, Tryz.ntmps54
    go_wp2_with fail
    go_ret
    exact ⟨rfl, Below.refl _ _⟩


set_option maxRecDepth 100000 in
set_option maxHeartbeats 16000000 in
theorem same_any (a b : Atr) (w : World) (h1 : AtrOk w a) (h2 : AtrOk w b) :
    Calls Tryz.prog 25 #[a.v, b.v] w fun e w' => e = .returned (.bool (decide (a.c = b.c))) ∧ Below w.heap.size w w' := by
  have HB0 : Hid (Below w.heap.size w ((w.alloc (.cells a.ar 33)).alloc (.cells b.ar 33))) := ((Below.refl _ _).alloc (Nat.le_refl _) _).alloc (by simp) _
  have HC0 : Hid (CellsAt ((w.alloc (.cells a.ar 33)).alloc (.cells b.ar 33)) w.heap.size a.ar 33) := (CellsAt.new _ _ _).alloc _
  have HD0 : Hid (CellsAt ((w.alloc (.cells a.ar 33)).alloc (.cells b.ar 33)) (w.heap.size + 1) b.ar 33) := by
    have h := CellsAt.new (w.alloc (.cells a.ar 33)) b.ar 33
    rwa [show (w.alloc (.cells a.ar 33)).heap.size = w.heap.size + 1 by simp] at h
  have HOA0 : Hid (AtrOk ((w.alloc (.cells a.ar 33)).alloc (.cells b.ar 33)) a) := h1.below HB0.out (Nat.le_refl _)
  have HOB0 : Hid (AtrOk ((w.alloc (.cells a.ar 33)).alloc (.cells b.ar 33)) b) := h2.below HB0.out (Nat.le_refl _)
  clear h1 h2
  have HQp : Hid (∀ W, AtrOk W a → AtrOk W b → Calls Tryz.prog 24 #[.slice a.pA a.segs.length a.pC, .slice b.pA b.segs.length b.pC] W fun e w' => e = .returned (.bool (decide (a.segs.map Sg.c = b.segs.map Sg.c))) ∧ Below W.heap.size W w') := fun W h1 h2 => psame_any _ _ _ _ _ _ _ h1.path h2.path
  have HQm : Hid (∀ W, AtrOk W a → AtrOk W b → Calls Tryz.prog 52 #[.slice a.mA a.comms.length a.mC, .slice b.mA b.comms.length b.mC] W fun e w' => e = .returned (.bool (decide (a.comms = b.comms))) ∧ Below W.heap.size W w') := fun W h1 h2 => eq_u32 _ _ _ _ _ _ _ h1.mrd h2.mrd h1.mlen h2.mlen h1.mcap h2.mcap
  have HQx : Hid (∀ W, AtrOk W a → AtrOk W b → Calls Tryz.prog 53 #[.slice a.xA a.exts.length a.xC, .slice b.xA b.exts.length b.xC] W fun e w' => e = .returned (.bool (decide (a.exts = b.exts))) ∧ Below W.heap.size W w') := fun W h1 h2 => eq_u64 _ _ _ _ _ _ _ h1.xrd h2.xrd h1.xlen h2.xlen h1.xcap h2.xcap
  have HQl : Hid (∀ W, AtrOk W a → AtrOk W b → Calls Tryz.prog 54 #[.slice a.lA a.larges.length a.lC, .slice b.lA b.larges.length b.lC] W fun e w' => e = .returned (.bool (decide (a.larges = b.larges))) ∧ Below W.heap.size W w') := fun W h1 h2 => eq_L _ _ _ _ _ _ _ h1.lrd h2.lrd h1.llen h2.llen h1.lcap h2.lcap
  have HQk : Hid (∀ W, AtrOk W a → AtrOk W b → Calls Tryz.prog 52 #[.slice a.kA a.clus.length a.kC, .slice b.kA b.clus.length b.kC] W fun e w' => e = .returned (.bool (decide (a.clus = b.clus))) ∧ Below W.heap.size W w') := fun W h1 h2 => eq_u32 _ _ _ _ _ _ _ h1.krd h2.krd h1.klen h2.klen h1.kcap h2.kcap
  generalize hr : decide (a.c = b.c) = r
  have HR := Lib.hid hr
  clear hr
  unfold Atr.v
  go_enter Tryz.func25, Tryz.ntmps25
  go_upto_region 1 with fail
  generalize (w.alloc (.cells a.ar 33)).alloc (.cells b.ar 33) = W at HB0 HC0 HD0 HOA0 HOB0 ⊢
  have hsW := HB0.out.size
  have hlt := HC0.out.lt
  have hld := HD0.out.lt
  obtain ⟨c0, c1, c2, c3, c4, c5, c6, c7, c8, c9, c10, c11, c12, c13, c14, c15⟩ := atr_cells HC0.out
  obtain ⟨d0, d1, d2, d3, d4, d5, d6, d7, d8, d9, d10, d11, d12, d13, d14, d15⟩ := atr_cells HD0.out
  refine wp_region_eq [{ dst := some 5, op := Op.fieldAddr 33 (Operand.tmp 2) 0, type := 0, pos := "attr.go:43", after := #[], guard := none }, { dst := some 6, op := Op.load 3 (Operand.tmp 5), type := 3, pos := "attr.go:43", after := #[{ on := 0, ground := Ground.data }], guard := none }, { dst := some 7, op := Op.fieldAddr 33 (Operand.tmp 3) 0, type := 0, pos := "attr.go:43", after := #[], guard := none }, { dst := some 8, op := Op.load 3 (Operand.tmp 7), type := 3, pos := "attr.go:43", after := #[{ on := 2, ground := Ground.data }], guard := none }, { dst := some 9, op := Op.binOp BinOp.eql 3 (Operand.tmp 6) (Operand.tmp 8) 3, type := 4, pos := "attr.go:43", after := #[{ on := 1, ground := Ground.data }, { on := 3, ground := Ground.data }], guard := none }, { dst := some 10, op := Op.move (Operand.tmp 9), type := 4, pos := "attr.go:43", after := #[{ on := 4, ground := Ground.data }], guard := none }, { dst := some 11, op := Op.fieldAddr 33 (Operand.tmp 2) 2, type := 0, pos := "attr.go:43", after := #[{ on := 5, ground := Ground.guard }], guard := some (5, true) }, { dst := some 12, op := Op.load 9 (Operand.tmp 11), type := 9, pos := "attr.go:43", after := #[{ on := 6, ground := Ground.data }, { on := 5, ground := Ground.guard }], guard := some (5, true) }, { dst := some 13, op := Op.fieldAddr 33 (Operand.tmp 3) 2, type := 0, pos := "attr.go:43", after := #[{ on := 5, ground := Ground.guard }], guard := some (5, true) }, { dst := some 14, op := Op.load 9 (Operand.tmp 13), type := 9, pos := "attr.go:43", after := #[{ on := 8, ground := Ground.data }, { on := 5, ground := Ground.guard }], guard := some (5, true) }, { dst := some 15, op := Op.binOp BinOp.eql 9 (Operand.tmp 12) (Operand.tmp 14) 9, type := 4, pos := "attr.go:43", after := #[{ on := 7, ground := Ground.data }, { on := 9, ground := Ground.data }, { on := 5, ground := Ground.guard }], guard := some (5, true) }, { dst := some 16, op := Op.pick (Operand.tmp 10) (Operand.tmp 15) (Operand.const (Value.bool false)), type := 4, pos := "attr.go:43", after := #[{ on := 5, ground := Ground.data }, { on := 10, ground := Ground.data }], guard := none }, { dst := some 17, op := Op.move (Operand.tmp 16), type := 4, pos := "attr.go:43", after := #[{ on := 11, ground := Ground.data }, { on := 5, ground := Ground.chain }], guard := none }, { dst := some 18, op := Op.fieldAddr 33 (Operand.tmp 2) 3, type := 0, pos := "attr.go:43", after := #[{ on := 12, ground := Ground.guard }], guard := some (12, true) }, { dst := some 19, op := Op.load 4 (Operand.tmp 18), type := 4, pos := "attr.go:43", after := #[{ on := 13, ground := Ground.data }, { on := 12, ground := Ground.guard }], guard := some (12, true) }, { dst := some 20, op := Op.fieldAddr 33 (Operand.tmp 3) 3, type := 0, pos := "attr.go:43", after := #[{ on := 12, ground := Ground.guard }], guard := some (12, true) }, { dst := some 21, op := Op.load 4 (Operand.tmp 20), type := 4, pos := "attr.go:43", after := #[{ on := 15, ground := Ground.data }, { on := 12, ground := Ground.guard }], guard := some (12, true) }, { dst := some 22, op := Op.binOp BinOp.eql 4 (Operand.tmp 19) (Operand.tmp 21) 4, type := 4, pos := "attr.go:43", after := #[{ on := 14, ground := Ground.data }, { on := 16, ground := Ground.data }, { on := 12, ground := Ground.guard }], guard := some (12, true) }, { dst := some 23, op := Op.pick (Operand.tmp 17) (Operand.tmp 22) (Operand.const (Value.bool false)), type := 4, pos := "attr.go:43", after := #[{ on := 12, ground := Ground.data }, { on := 17, ground := Ground.data }], guard := none }, { dst := some 24, op := Op.move (Operand.tmp 23), type := 4, pos := "attr.go:43", after := #[{ on := 18, ground := Ground.data }, { on := 12, ground := Ground.chain }], guard := none }, { dst := some 25, op := Op.fieldAddr 33 (Operand.tmp 2) 4, type := 0, pos := "attr.go:43", after := #[{ on := 19, ground := Ground.guard }], guard := some (19, true) }, { dst := some 26, op := Op.load 22 (Operand.tmp 25), type := 22, pos := "attr.go:43", after := #[{ on := 20, ground := Ground.data }, { on := 19, ground := Ground.guard }], guard := some (19, true) }, { dst := some 27, op := Op.fieldAddr 33 (Operand.tmp 3) 4, type := 0, pos := "attr.go:43", after := #[{ on := 19, ground := Ground.guard }], guard := some (19, true) }, { dst := some 28, op := Op.load 22 (Operand.tmp 27), type := 22, pos := "attr.go:43", after := #[{ on := 22, ground := Ground.data }, { on := 19, ground := Ground.guard }], guard := some (19, true) }, { dst := some 29, op := Op.binOp BinOp.eql 22 (Operand.tmp 26) (Operand.tmp 28) 22, type := 4, pos := "attr.go:43", after := #[{ on := 21, ground := Ground.data }, { on := 23, ground := Ground.data }, { on := 19, ground := Ground.guard }], guard := some (19, true) }, { dst := some 30, op := Op.pick (Operand.tmp 24) (Operand.tmp 29) (Operand.const (Value.bool false)), type := 4, pos := "attr.go:43", after := #[{ on := 19, ground := Ground.data }, { on := 24, ground := Ground.data }], guard := none }, { dst := some 31, op := Op.move (Operand.tmp 30), type := 4, pos := "attr.go:43", after := #[{ on := 25, ground := Ground.data }, { on := 19, ground := Ground.chain }], guard := none }, { dst := some 32, op := Op.fieldAddr 33 (Operand.tmp 2) 5, type := 0, pos := "attr.go:43", after := #[{ on := 26, ground := Ground.guard }], guard := some (26, true) }, { dst := some 33, op := Op.load 4 (Operand.tmp 32), type := 4, pos := "attr.go:43", after := #[{ on := 27, ground := Ground.data }, { on := 26, ground := Ground.guard }], guard := some (26, true) }, { dst := some 34, op := Op.fieldAddr 33 (Operand.tmp 3) 5, type := 0, pos := "attr.go:43", after := #[{ on := 26, ground := Ground.guard }], guard := some (26, true) }, { dst := some 35, op := Op.load 4 (Operand.tmp 34), type := 4, pos := "attr.go:43", after := #[{ on := 29, ground := Ground.data }, { on := 26, ground := Ground.guard }], guard := some (26, true) }, { dst := some 36, op := Op.binOp BinOp.eql 4 (Operand.tmp 33) (Operand.tmp 35) 4, type := 4, pos := "attr.go:43", after := #[{ on := 28, ground := Ground.data }, { on := 30, ground := Ground.data }, { on := 26, ground := Ground.guard }], guard := some (26, true) }, { dst := some 37, op := Op.pick (Operand.tmp 31) (Operand.tmp 36) (Operand.const (Value.bool false)), type := 4, pos := "attr.go:43", after := #[{ on := 26, ground := Ground.data }, { on := 31, ground := Ground.data }], guard := none }, { dst := some 38, op := Op.move (Operand.tmp 37), type := 4, pos := "attr.go:43", after := #[{ on := 32, ground := Ground.data }, { on := 26, ground := Ground.chain }], guard := none }, { dst := some 39, op := Op.fieldAddr 33 (Operand.tmp 2) 6, type := 0, pos := "attr.go:43", after := #[{ on := 33, ground := Ground.guard }], guard := some (33, true) }, { dst := some 40, op := Op.load 22 (Operand.tmp 39), type := 22, pos := "attr.go:43", after := #[{ on := 34, ground := Ground.data }, { on := 33, ground := Ground.guard }], guard := some (33, true) }, { dst := some 41, op := Op.fieldAddr 33 (Operand.tmp 3) 6, type := 0, pos := "attr.go:43", after := #[{ on := 33, ground := Ground.guard }], guard := some (33, true) }, { dst := some 42, op := Op.load 22 (Operand.tmp 41), type := 22, pos := "attr.go:43", after := #[{ on := 36, ground := Ground.data }, { on := 33, ground := Ground.guard }], guard := some (33, true) }, { dst := some 43, op := Op.binOp BinOp.eql 22 (Operand.tmp 40) (Operand.tmp 42) 22, type := 4, pos := "attr.go:43", after := #[{ on := 35, ground := Ground.data }, { on := 37, ground := Ground.data }, { on := 33, ground := Ground.guard }], guard := some (33, true) }, { dst := some 44, op := Op.pick (Operand.tmp 38) (Operand.tmp 43) (Operand.const (Value.bool false)), type := 4, pos := "attr.go:43", after := #[{ on := 33, ground := Ground.data }, { on := 38, ground := Ground.data }], guard := none }, { dst := some 45, op := Op.move (Operand.tmp 44), type := 4, pos := "attr.go:43", after := #[{ on := 39, ground := Ground.data }, { on := 33, ground := Ground.chain }], guard := none }, { dst := some 46, op := Op.fieldAddr 33 (Operand.tmp 2) 7, type := 0, pos := "attr.go:43", after := #[{ on := 40, ground := Ground.guard }], guard := some (40, true) }, { dst := some 47, op := Op.load 4 (Operand.tmp 46), type := 4, pos := "attr.go:43", after := #[{ on := 41, ground := Ground.data }, { on := 40, ground := Ground.guard }], guard := some (40, true) }, { dst := some 48, op := Op.fieldAddr 33 (Operand.tmp 3) 7, type := 0, pos := "attr.go:43", after := #[{ on := 40, ground := Ground.guard }], guard := some (40, true) }, { dst := some 49, op := Op.load 4 (Operand.tmp 48), type := 4, pos := "attr.go:43", after := #[{ on := 43, ground := Ground.data }, { on := 40, ground := Ground.guard }], guard := some (40, true) }, { dst := some 50, op := Op.binOp BinOp.eql 4 (Operand.tmp 47) (Operand.tmp 49) 4, type := 4, pos := "attr.go:43", after := #[{ on := 42, ground := Ground.data }, { on := 44, ground := Ground.data }, { on := 40, ground := Ground.guard }], guard := some (40, true) }, { dst := some 51, op := Op.pick (Operand.tmp 45) (Operand.tmp 50) (Operand.const (Value.bool false)), type := 4, pos := "attr.go:43", after := #[{ on := 40, ground := Ground.data }, { on := 45, ground := Ground.data }], guard := none }, { dst := some 52, op := Op.move (Operand.tmp 51), type := 4, pos := "attr.go:43", after := #[{ on := 46, ground := Ground.data }, { on := 40, ground := Ground.chain }], guard := none }, { dst := some 53, op := Op.fieldAddr 33 (Operand.tmp 2) 8, type := 0, pos := "attr.go:43", after := #[{ on := 47, ground := Ground.guard }], guard := some (47, true) }, { dst := some 54, op := Op.load 22 (Operand.tmp 53), type := 22, pos := "attr.go:43", after := #[{ on := 48, ground := Ground.data }, { on := 47, ground := Ground.guard }], guard := some (47, true) }, { dst := some 55, op := Op.fieldAddr 33 (Operand.tmp 3) 8, type := 0, pos := "attr.go:43", after := #[{ on := 47, ground := Ground.guard }], guard := some (47, true) }, { dst := some 56, op := Op.load 22 (Operand.tmp 55), type := 22, pos := "attr.go:43", after := #[{ on := 50, ground := Ground.data }, { on := 47, ground := Ground.guard }], guard := some (47, true) }, { dst := some 57, op := Op.binOp BinOp.eql 22 (Operand.tmp 54) (Operand.tmp 56) 22, type := 4, pos := "attr.go:43", after := #[{ on := 49, ground := Ground.data }, { on := 51, ground := Ground.data }, { on := 47, ground := Ground.guard }], guard := some (47, true) }, { dst := some 58, op := Op.pick (Operand.tmp 52) (Operand.tmp 57) (Operand.const (Value.bool false)), type := 4, pos := "attr.go:43", after := #[{ on := 47, ground := Ground.data }, { on := 52, ground := Ground.data }], guard := none }, { dst := some 59, op := Op.move (Operand.tmp 58), type := 4, pos := "attr.go:43", after := #[{ on := 53, ground := Ground.data }, { on := 47, ground := Ground.chain }], guard := none }, { dst := some 60, op := Op.fieldAddr 33 (Operand.tmp 2) 9, type := 0, pos := "attr.go:43", after := #[{ on := 54, ground := Ground.guard }], guard := some (54, true) }, { dst := some 61, op := Op.load 22 (Operand.tmp 60), type := 22, pos := "attr.go:43", after := #[{ on := 55, ground := Ground.data }, { on := 54, ground := Ground.guard }], guard := some (54, true) }, { dst := some 62, op := Op.fieldAddr 33 (Operand.tmp 3) 9, type := 0, pos := "attr.go:43", after := #[{ on := 54, ground := Ground.guard }], guard := some (54, true) }, { dst := some 63, op := Op.load 22 (Operand.tmp 62), type := 22, pos := "attr.go:43", after := #[{ on := 57, ground := Ground.data }, { on := 54, ground := Ground.guard }], guard := some (54, true) }, { dst := some 64, op := Op.binOp BinOp.eql 22 (Operand.tmp 61) (Operand.tmp 63) 22, type := 4, pos := "attr.go:43", after := #[{ on := 56, ground := Ground.data }, { on := 58, ground := Ground.data }, { on := 54, ground := Ground.guard }], guard := some (54, true) }, { dst := some 65, op := Op.pick (Operand.tmp 59) (Operand.tmp 64) (Operand.const (Value.bool false)), type := 4, pos := "attr.go:43", after := #[{ on := 54, ground := Ground.data }, { on := 59, ground := Ground.data }], guard := none }, { dst := some 66, op := Op.move (Operand.tmp 65), type := 4, pos := "attr.go:43", after := #[{ on := 60, ground := Ground.data }, { on := 54, ground := Ground.chain }], guard := none }, { dst := some 67, op := Op.fieldAddr 33 (Operand.tmp 2) 13, type := 0, pos := "attr.go:43", after := #[{ on := 61, ground := Ground.guard }], guard := some (61, true) }, { dst := some 68, op := Op.load 4 (Operand.tmp 67), type := 4, pos := "attr.go:43", after := #[{ on := 62, ground := Ground.data }, { on := 61, ground := Ground.guard }], guard := some (61, true) }, { dst := some 69, op := Op.fieldAddr 33 (Operand.tmp 3) 13, type := 0, pos := "attr.go:43", after := #[{ on := 61, ground := Ground.guard }], guard := some (61, true) }, { dst := some 70, op := Op.load 4 (Operand.tmp 69), type := 4, pos := "attr.go:43", after := #[{ on := 64, ground := Ground.data }, { on := 61, ground := Ground.guard }], guard := some (61, true) }, { dst := some 71, op := Op.binOp BinOp.eql 4 (Operand.tmp 68) (Operand.tmp 70) 4, type := 4, pos := "attr.go:43", after := #[{ on := 63, ground := Ground.data }, { on := 65, ground := Ground.data }, { on := 61, ground := Ground.guard }], guard := some (61, true) }, { dst := some 72, op := Op.pick (Operand.tmp 66) (Operand.tmp 71) (Operand.const (Value.bool false)), type := 4, pos := "attr.go:43", after := #[{ on := 61, ground := Ground.data }, { on := 66, ground := Ground.data }], guard := none }, { dst := some 73, op := Op.move (Operand.tmp 72), type := 4, pos := "attr.go:43", after := #[{ on := 67, ground := Ground.data }, { on := 61, ground := Ground.chain }], guard := none }, { dst := some 74, op := Op.fieldAddr 33 (Operand.tmp 2) 14, type := 0, pos := "attr.go:43", after := #[{ on := 68, ground := Ground.guard }], guard := some (68, true) }, { dst := some 75, op := Op.load 22 (Operand.tmp 74), type := 22, pos := "attr.go:43", after := #[{ on := 69, ground := Ground.data }, { on := 68, ground := Ground.guard }], guard := some (68, true) }, { dst := some 76, op := Op.fieldAddr 33 (Operand.tmp 3) 14, type := 0, pos := "attr.go:43", after := #[{ on := 68, ground := Ground.guard }], guard := some (68, true) }, { dst := some 77, op := Op.load 22 (Operand.tmp 76), type := 22, pos := "attr.go:43", after := #[{ on := 71, ground := Ground.data }, { on := 68, ground := Ground.guard }], guard := some (68, true) }, { dst := some 78, op := Op.binOp BinOp.eql 22 (Operand.tmp 75) (Operand.tmp 77) 22, type := 4, pos := "attr.go:43", after := #[{ on := 70, ground := Ground.data }, { on := 72, ground := Ground.data }, { on := 68, ground := Ground.guard }], guard := some (68, true) }, { dst := some 79, op := Op.pick (Operand.tmp 73) (Operand.tmp 78) (Operand.const (Value.bool false)), type := 4, pos := "attr.go:43", after := #[{ on := 68, ground := Ground.data }, { on := 73, ground := Ground.data }], guard := none }, { dst := some 80, op := Op.move (Operand.tmp 79), type := 4, pos := "attr.go:43", after := #[{ on := 74, ground := Ground.data }, { on := 68, ground := Ground.chain }], guard := none }, { dst := some 81, op := Op.fieldAddr 33 (Operand.tmp 2) 1, type := 0, pos := "attr.go:43", after := #[{ on := 75, ground := Ground.guard }], guard := some (75, true) }, { dst := some 82, op := Op.load 28 (Operand.tmp 81), type := 28, pos := "attr.go:43", after := #[{ on := 76, ground := Ground.data }, { on := 75, ground := Ground.guard }], guard := some (75, true) }, { dst := some 83, op := Op.fieldAddr 33 (Operand.tmp 3) 1, type := 0, pos := "attr.go:43", after := #[{ on := 75, ground := Ground.guard }], guard := some (75, true) }, { dst := some 84, op := Op.load 28 (Operand.tmp 83), type := 28, pos := "attr.go:43", after := #[{ on := 78, ground := Ground.data }, { on := 75, ground := Ground.guard }], guard := some (75, true) }, { dst := some 85, op := Op.call { callee := Callee.value (Operand.func 24), args := #[Operand.tmp 82, Operand.tmp 84], argTypes := #[28, 28] }, type := 4, pos := "attr.go:45", after := #[{ on := 77, ground := Ground.data }, { on := 79, ground := Ground.data }, { on := 75, ground := Ground.chain }, { on := 75, ground := Ground.guard }], guard := some (75, true) }, { dst := some 86, op := Op.pick (Operand.tmp 80) (Operand.tmp 85) (Operand.const (Value.bool false)), type := 4, pos := "attr.go:43", after := #[{ on := 75, ground := Ground.data }, { on := 80, ground := Ground.data }], guard := none }, { dst := some 87, op := Op.move (Operand.tmp 86), type := 4, pos := "attr.go:43", after := #[{ on := 81, ground := Ground.data }, { on := 80, ground := Ground.chain }], guard := none }, { dst := some 88, op := Op.fieldAddr 33 (Operand.tmp 2) 10, type := 0, pos := "attr.go:43", after := #[{ on := 82, ground := Ground.guard }], guard := some (82, true) }, { dst := some 89, op := Op.load 29 (Operand.tmp 88), type := 29, pos := "attr.go:43", after := #[{ on := 83, ground := Ground.data }, { on := 82, ground := Ground.guard }], guard := some (82, true) }, { dst := some 90, op := Op.fieldAddr 33 (Operand.tmp 3) 10, type := 0, pos := "attr.go:43", after := #[{ on := 82, ground := Ground.guard }], guard := some (82, true) }, { dst := some 91, op := Op.load 29 (Operand.tmp 90), type := 29, pos := "attr.go:43", after := #[{ on := 85, ground := Ground.data }, { on := 82, ground := Ground.guard }], guard := some (82, true) }, { dst := some 92, op := Op.call { callee := Callee.value (Operand.func 52), args := #[Operand.tmp 89, Operand.tmp 91], argTypes := #[29, 29] }, type := 4, pos := "attr.go:45", after := #[{ on := 84, ground := Ground.data }, { on := 86, ground := Ground.data }, { on := 82, ground := Ground.chain }, { on := 82, ground := Ground.guard }], guard := some (82, true) }, { dst := some 93, op := Op.pick (Operand.tmp 87) (Operand.tmp 92) (Operand.const (Value.bool false)), type := 4, pos := "attr.go:43", after := #[{ on := 82, ground := Ground.data }, { on := 87, ground := Ground.data }], guard := none }, { dst := some 94, op := Op.move (Operand.tmp 93), type := 4, pos := "attr.go:43", after := #[{ on := 88, ground := Ground.data }, { on := 87, ground := Ground.chain }], guard := none }, { dst := some 95, op := Op.fieldAddr 33 (Operand.tmp 2) 11, type := 0, pos := "attr.go:43", after := #[{ on := 89, ground := Ground.guard }], guard := some (89, true) }, { dst := some 96, op := Op.load 30 (Operand.tmp 95), type := 30, pos := "attr.go:43", after := #[{ on := 90, ground := Ground.data }, { on := 89, ground := Ground.guard }], guard := some (89, true) }, { dst := some 97, op := Op.fieldAddr 33 (Operand.tmp 3) 11, type := 0, pos := "attr.go:43", after := #[{ on := 89, ground := Ground.guard }], guard := some (89, true) }, { dst := some 98, op := Op.load 30 (Operand.tmp 97), type := 30, pos := "attr.go:43", after := #[{ on := 92, ground := Ground.data }, { on := 89, ground := Ground.guard }], guard := some (89, true) }, { dst := some 99, op := Op.call { callee := Callee.value (Operand.func 53), args := #[Operand.tmp 96, Operand.tmp 98], argTypes := #[30, 30] }, type := 4, pos := "attr.go:45", after := #[{ on := 91, ground := Ground.data }, { on := 93, ground := Ground.data }, { on := 89, ground := Ground.chain }, { on := 89, ground := Ground.guard }], guard := some (89, true) }, { dst := some 100, op := Op.pick (Operand.tmp 94) (Operand.tmp 99) (Operand.const (Value.bool false)), type := 4, pos := "attr.go:43", after := #[{ on := 89, ground := Ground.data }, { on := 94, ground := Ground.data }], guard := none }, { dst := some 101, op := Op.move (Operand.tmp 100), type := 4, pos := "attr.go:43", after := #[{ on := 95, ground := Ground.data }, { on := 94, ground := Ground.chain }], guard := none }, { dst := some 102, op := Op.fieldAddr 33 (Operand.tmp 2) 12, type := 0, pos := "attr.go:43", after := #[{ on := 96, ground := Ground.guard }], guard := some (96, true) }, { dst := some 103, op := Op.load 31 (Operand.tmp 102), type := 31, pos := "attr.go:43", after := #[{ on := 97, ground := Ground.data }, { on := 96, ground := Ground.guard }], guard := some (96, true) }, { dst := some 104, op := Op.fieldAddr 33 (Operand.tmp 3) 12, type := 0, pos := "attr.go:43", after := #[{ on := 96, ground := Ground.guard }], guard := some (96, true) }, { dst := some 105, op := Op.load 31 (Operand.tmp 104), type := 31, pos := "attr.go:43", after := #[{ on := 99, ground := Ground.data }, { on := 96, ground := Ground.guard }], guard := some (96, true) }, { dst := some 106, op := Op.call { callee := Callee.value (Operand.func 54), args := #[Operand.tmp 103, Operand.tmp 105], argTypes := #[31, 31] }, type := 4, pos := "attr.go:45", after := #[{ on := 98, ground := Ground.data }, { on := 100, ground := Ground.data }, { on := 96, ground := Ground.chain }, { on := 96, ground := Ground.guard }], guard := some (96, true) }, { dst := some 107, op := Op.pick (Operand.tmp 101) (Operand.tmp 106) (Operand.const (Value.bool false)), type := 4, pos := "attr.go:43", after := #[{ on := 96, ground := Ground.data }, { on := 101, ground := Ground.data }], guard := none }, { dst := some 108, op := Op.move (Operand.tmp 107), type := 4, pos := "attr.go:43", after := #[{ on := 102, ground := Ground.data }, { on := 101, ground := Ground.chain }], guard := none }, { dst := some 109, op := Op.fieldAddr 33 (Operand.tmp 2) 15, type := 0, pos := "attr.go:43", after := #[{ on := 103, ground := Ground.guard }], guard := some (103, true) }, { dst := some 110, op := Op.load 29 (Operand.tmp 109), type := 29, pos := "attr.go:43", after := #[{ on := 104, ground := Ground.data }, { on := 103, ground := Ground.guard }], guard := some (103, true) }, { dst := some 111, op := Op.fieldAddr 33 (Operand.tmp 3) 15, type := 0, pos := "attr.go:43", after := #[{ on := 103, ground := Ground.guard }], guard := some (103, true) }, { dst := some 112, op := Op.load 29 (Operand.tmp 111), type := 29, pos := "attr.go:43", after := #[{ on := 106, ground := Ground.data }, { on := 103, ground := Ground.guard }], guard := some (103, true) }, { dst := some 113, op := Op.call { callee := Callee.value (Operand.func 52), args := #[Operand.tmp 110, Operand.tmp 112], argTypes := #[29, 29] }, type := 4, pos := "attr.go:45", after := #[{ on := 105, ground := Ground.data }, { on := 107, ground := Ground.data }, { on := 103, ground := Ground.chain }, { on := 103, ground := Ground.guard }], guard := some (103, true) }, { dst := some 114, op := Op.pick (Operand.tmp 108) (Operand.tmp 113) (Operand.const (Value.bool false)), type := 4, pos := "attr.go:43", after := #[{ on := 103, ground := Ground.data }, { on := 108, ground := Ground.data }], guard := none }, { dst := some 4, op := Op.assign (Operand.tmp 114), type := 4, pos := "attr.go:43", after := ([{ on := 109, ground := Ground.data }, { on := 108, ground := Ground.chain }, { on := 0, ground := Ground.phase }, { on := 1, ground := Ground.phase }, { on := 2, ground := Ground.phase }, { on := 3, ground := Ground.phase }, { on := 4, ground := Ground.phase }, { on := 5, ground := Ground.phase }, { on := 6, ground := Ground.phase }, { on := 7, ground := Ground.phase }, { on := 8, ground := Ground.phase }, { on := 9, ground := Ground.phase }, { on := 10, ground := Ground.phase }, { on := 11, ground := Ground.phase }, { on := 12, ground := Ground.phase }, { on := 13, ground := Ground.phase }, { on := 14, ground := Ground.phase }, { on := 15, ground := Ground.phase }, { on := 16, ground := Ground.phase }, { on := 17, ground := Ground.phase }, { on := 18, ground := Ground.phase }, { on := 19, ground := Ground.phase }, { on := 20, ground := Ground.phase }, { on := 21, ground := Ground.phase }, { on := 22, ground := Ground.phase }, { on := 23, ground := Ground.phase }, { on := 24, ground := Ground.phase }, { on := 25, ground := Ground.phase }, { on := 26, ground := Ground.phase }, { on := 27, ground := Ground.phase }, { on := 28, ground := Ground.phase }, { on := 29, ground := Ground.phase }, { on := 30, ground := Ground.phase }, { on := 31, ground := Ground.phase }, { on := 32, ground := Ground.phase }, { on := 33, ground := Ground.phase }, { on := 34, ground := Ground.phase }, { on := 35, ground := Ground.phase }, { on := 36, ground := Ground.phase }, { on := 37, ground := Ground.phase }, { on := 38, ground := Ground.phase }, { on := 39, ground := Ground.phase }, { on := 40, ground := Ground.phase }, { on := 41, ground := Ground.phase }, { on := 42, ground := Ground.phase }, { on := 43, ground := Ground.phase }, { on := 44, ground := Ground.phase }, { on := 45, ground := Ground.phase }, { on := 46, ground := Ground.phase }, { on := 47, ground := Ground.phase }, { on := 48, ground := Ground.phase }, { on := 49, ground := Ground.phase }, { on := 50, ground := Ground.phase }, { on := 51, ground := Ground.phase }, { on := 52, ground := Ground.phase }, { on := 53, ground := Ground.phase }].append [{ on := 54, ground := Ground.phase }, { on := 55, ground := Ground.phase }, { on := 56, ground := Ground.phase }, { on := 57, ground := Ground.phase }, { on := 58, ground := Ground.phase }, { on := 59, ground := Ground.phase }, { on := 60, ground := Ground.phase }, { on := 61, ground := Ground.phase }, { on := 62, ground := Ground.phase }, { on := 63, ground := Ground.phase }, { on := 64, ground := Ground.phase }, { on := 65, ground := Ground.phase }, { on := 66, ground := Ground.phase }, { on := 67, ground := Ground.phase }, { on := 68, ground := Ground.phase }, { on := 69, ground := Ground.phase }, { on := 70, ground := Ground.phase }, { on := 71, ground := Ground.phase }, { on := 72, ground := Ground.phase }, { on := 73, ground := Ground.phase }, { on := 74, ground := Ground.phase }, { on := 75, ground := Ground.phase }, { on := 76, ground := Ground.phase }, { on := 77, ground := Ground.phase }, { on := 78, ground := Ground.phase }, { on := 79, ground := Ground.phase }, { on := 80, ground := Ground.phase }, { on := 81, ground := Ground.phase }, { on := 82, ground := Ground.phase }, { on := 83, ground := Ground.phase }, { on := 84, ground := Ground.phase }, { on := 85, ground := Ground.phase }, { on := 86, ground := Ground.phase }, { on := 87, ground := Ground.phase }, { on := 88, ground := Ground.phase }, { on := 89, ground := Ground.phase }, { on := 90, ground := Ground.phase }, { on := 91, ground := Ground.phase }, { on := 92, ground := Ground.phase }, { on := 93, ground := Ground.phase }, { on := 94, ground := Ground.phase }, { on := 95, ground := Ground.phase }, { on := 96, ground := Ground.phase }, { on := 97, ground := Ground.phase }, { on := 98, ground := Ground.phase }, { on := 99, ground := Ground.phase }, { on := 100, ground := Ground.phase }, { on := 101, ground := Ground.phase }, { on := 102, ground := Ground.phase }, { on := 103, ground := Ground.phase }, { on := 104, ground := Ground.phase }, { on := 105, ground := Ground.phase }, { on := 106, ground := Ground.phase }, { on := 107, ground := Ground.phase }, { on := 108, ground := Ground.phase }, { on := 109, ground := Ground.phase }]).toArray, guard := none }] (by kernel_rfl) ?_
  by_cases q : a.origin = b.origin
  case neg =>
    have HF : Hid (r = false) := by show _ = _; rw [← HR.out]; exact decide_eq_false (fun e => q (by have := (AtC.eq_iff.2 e).1; exact this))
    clear HQp HQm HQx HQl HQk HR hlt hld HC0 HD0 HOA0 HOB0
    have q0 : (a.origin == b.origin) = false := beq_eq_false_iff_ne.2 q
    have n0 : (a.origin != b.origin) = true := by rw [bne, q0]; rfl
    clear q
    as_aux_lemma =>
      go_wp2_with (with_reducible show wpList _ _ _ (⟨some 11, _, _, _, _, _⟩ :: _) _ _; refine wpList_pure (a' := { tmps := #[.agg a.ar, .agg b.ar, .pointer (some ⟨w.heap.size, 0, none⟩), .pointer (some ⟨w.heap.size + 1, 0, none⟩), .bool false, .pointer (some ⟨w.heap.size, 0, none⟩), .int .i64 a.origin, .pointer (some ⟨w.heap.size + 1, 0, none⟩), .int .i64 b.origin, .bool false, .bool false, undef, undef, undef, undef, undef, .bool false, .bool false, undef, undef, undef, undef, undef, .bool false, .bool false, undef, undef, undef, undef, undef, .bool false, .bool false, undef, undef, undef, undef, undef, .bool false, .bool false, undef, undef, undef, undef, undef, .bool false, .bool false, undef, undef, undef, undef, undef, .bool false, .bool false, undef, undef, undef, undef, undef, .bool false, .bool false, undef, undef, undef, undef, undef, .bool false, .bool false, undef, undef, undef, undef, undef, .bool false, .bool false, undef, undef, undef, undef, undef, .bool false, .bool false, undef, undef, undef, undef, undef, .bool false, .bool false, undef, undef, undef, undef, undef, .bool false, .bool false, undef, undef, undef, undef, undef, .bool false, .bool false, undef, undef, undef, undef, undef, .bool false, .bool false, undef, undef, undef, undef, undef, .bool false], defers := [] }) (by as_aux_lemma => kernel_rfl) ?_)
      go_ret
      exact ⟨by rw [HF.out]; rfl, HB0.out⟩
  have q0 : (a.origin == b.origin) = true := beq_iff_eq.2 q
  have n0 : (a.origin != b.origin) = false := by simp [q]
  have E0 := Lib.hid q
  clear q
  go_wp2_with (with_reducible show wpList _ _ _ (⟨some 11, _, _, _, _, _⟩ :: _) _ _; refine StopB ?_)
  refine StopA ?_
  by_cases q : a.next = b.next
  case neg =>
    have HF : Hid (r = false) := by show _ = _; rw [← HR.out]; exact decide_eq_false (fun e => q (by have := (AtC.eq_iff.2 e).2.1; exact this))
    clear HQp HQm HQx HQl HQk HR hlt hld HC0 HD0 HOA0 HOB0
    have q1 : (a.next.toList == b.next.toList) = false := Bool.eq_false_iff.2 (fun e => q (bytes_eq.1 e))
    have n1 : (a.next.toList != b.next.toList) = true := by rw [bne, q1]; rfl
    clear q
    as_aux_lemma =>
      go_wp2_with (with_reducible show wpList _ _ _ (⟨some 19, _, _, _, _, _⟩ :: _) _ _; refine wpList_pure (a' := { tmps := #[.agg a.ar, .agg b.ar, .pointer (some ⟨w.heap.size, 0, none⟩), .pointer (some ⟨w.heap.size + 1, 0, none⟩), .bool false, .pointer (some ⟨w.heap.size, 0, none⟩), .int .i64 a.origin, .pointer (some ⟨w.heap.size + 1, 0, none⟩), .int .i64 b.origin, .bool true, .bool true, .pointer (some ⟨w.heap.size, 2, none⟩), .string a.next, .pointer (some ⟨w.heap.size + 1, 2, none⟩), .string b.next, .bool false, .bool false, .bool false, undef, undef, undef, undef, undef, .bool false, .bool false, undef, undef, undef, undef, undef, .bool false, .bool false, undef, undef, undef, undef, undef, .bool false, .bool false, undef, undef, undef, undef, undef, .bool false, .bool false, undef, undef, undef, undef, undef, .bool false, .bool false, undef, undef, undef, undef, undef, .bool false, .bool false, undef, undef, undef, undef, undef, .bool false, .bool false, undef, undef, undef, undef, undef, .bool false, .bool false, undef, undef, undef, undef, undef, .bool false, .bool false, undef, undef, undef, undef, undef, .bool false, .bool false, undef, undef, undef, undef, undef, .bool false, .bool false, undef, undef, undef, undef, undef, .bool false, .bool false, undef, undef, undef, undef, undef, .bool false, .bool false, undef, undef, undef, undef, undef, .bool false], defers := [] }) (by as_aux_lemma => kernel_rfl) ?_)
      go_ret
      exact ⟨by rw [HF.out]; rfl, HB0.out⟩
  have q1 : (a.next.toList == b.next.toList) = true := bytes_eq.2 q
  have n1 : (a.next.toList != b.next.toList) = false := by rw [q]; simp
  have E1 := Lib.hid q
  clear q
  go_wp2_with (with_reducible show wpList _ _ _ (⟨some 18, _, _, _, _, _⟩ :: _) _ _; refine StopB ?_)
  refine StopA ?_
  by_cases q : a.hasMed = b.hasMed
  case neg =>
    have HF : Hid (r = false) := by show _ = _; rw [← HR.out]; exact decide_eq_false (fun e => q (by have := (AtC.eq_iff.2 e).2.2.1; exact this))
    clear HQp HQm HQx HQl HQk HR hlt hld HC0 HD0 HOA0 HOB0
    have q2 : (a.hasMed == b.hasMed) = false := beq_eq_false_iff_ne.2 q
    have n2 : (a.hasMed != b.hasMed) = true := by rw [bne, q2]; rfl
    clear q
    as_aux_lemma =>
      go_wp2_with (with_reducible show wpList _ _ _ (⟨some 26, _, _, _, _, _⟩ :: _) _ _; refine wpList_pure (a' := { tmps := #[.agg a.ar, .agg b.ar, .pointer (some ⟨w.heap.size, 0, none⟩), .pointer (some ⟨w.heap.size + 1, 0, none⟩), .bool false, .pointer (some ⟨w.heap.size, 0, none⟩), .int .i64 a.origin, .pointer (some ⟨w.heap.size + 1, 0, none⟩), .int .i64 b.origin, .bool true, .bool true, .pointer (some ⟨w.heap.size, 2, none⟩), .string a.next, .pointer (some ⟨w.heap.size + 1, 2, none⟩), .string b.next, .bool true, .bool true, .bool true, .pointer (some ⟨w.heap.size, 3, none⟩), .bool a.hasMed, .pointer (some ⟨w.heap.size + 1, 3, none⟩), .bool b.hasMed, .bool false, .bool false, .bool false, undef, undef, undef, undef, undef, .bool false, .bool false, undef, undef, undef, undef, undef, .bool false, .bool false, undef, undef, undef, undef, undef, .bool false, .bool false, undef, undef, undef, undef, undef, .bool false, .bool false, undef, undef, undef, undef, undef, .bool false, .bool false, undef, undef, undef, undef, undef, .bool false, .bool false, undef, undef, undef, undef, undef, .bool false, .bool false, undef, undef, undef, undef, undef, .bool false, .bool false, undef, undef, undef, undef, undef, .bool false, .bool false, undef, undef, undef, undef, undef, .bool false, .bool false, undef, undef, undef, undef, undef, .bool false, .bool false, undef, undef, undef, undef, undef, .bool false, .bool false, undef, undef, undef, undef, undef, .bool false], defers := [] }) (by as_aux_lemma => kernel_rfl) ?_)
      go_ret
      exact ⟨by rw [HF.out]; rfl, HB0.out⟩
  have q2 : (a.hasMed == b.hasMed) = true := beq_iff_eq.2 q
  have n2 : (a.hasMed != b.hasMed) = false := by simp [q]
  have E2 := Lib.hid q
  clear q
  go_wp2_with (with_reducible show wpList _ _ _ (⟨some 25, _, _, _, _, _⟩ :: _) _ _; refine StopB ?_)
  refine StopA ?_
  by_cases q : a.med = b.med
  case neg =>
    have HF : Hid (r = false) := by show _ = _; rw [← HR.out]; exact decide_eq_false (fun e => q (by have := (AtC.eq_iff.2 e).2.2.2.1; exact this))
    clear HQp HQm HQx HQl HQk HR hlt hld HC0 HD0 HOA0 HOB0
    have q3 : ((a.med : Int) == (b.med : Int)) = false := beq_eq_false_iff_ne.2 (by omega)
    have n3 : ((a.med : Int) != (b.med : Int)) = true := by rw [bne, q3]; rfl
    clear q
    as_aux_lemma =>
      go_wp2_with (with_reducible show wpList _ _ _ (⟨some 33, _, _, _, _, _⟩ :: _) _ _; refine wpList_pure (a' := { tmps := #[.agg a.ar, .agg b.ar, .pointer (some ⟨w.heap.size, 0, none⟩), .pointer (some ⟨w.heap.size + 1, 0, none⟩), .bool false, .pointer (some ⟨w.heap.size, 0, none⟩), .int .i64 a.origin, .pointer (some ⟨w.heap.size + 1, 0, none⟩), .int .i64 b.origin, .bool true, .bool true, .pointer (some ⟨w.heap.size, 2, none⟩), .string a.next, .pointer (some ⟨w.heap.size + 1, 2, none⟩), .string b.next, .bool true, .bool true, .bool true, .pointer (some ⟨w.heap.size, 3, none⟩), .bool a.hasMed, .pointer (some ⟨w.heap.size + 1, 3, none⟩), .bool b.hasMed, .bool true, .bool true, .bool true, .pointer (some ⟨w.heap.size, 4, none⟩), .int .u32 (a.med : Nat), .pointer (some ⟨w.heap.size + 1, 4, none⟩), .int .u32 (b.med : Nat), .bool false, .bool false, .bool false, undef, undef, undef, undef, undef, .bool false, .bool false, undef, undef, undef, undef, undef, .bool false, .bool false, undef, undef, undef, undef, undef, .bool false, .bool false, undef, undef, undef, undef, undef, .bool false, .bool false, undef, undef, undef, undef, undef, .bool false, .bool false, undef, undef, undef, undef, undef, .bool false, .bool false, undef, undef, undef, undef, undef, .bool false, .bool false, undef, undef, undef, undef, undef, .bool false, .bool false, undef, undef, undef, undef, undef, .bool false, .bool false, undef, undef, undef, undef, undef, .bool false, .bool false, undef, undef, undef, undef, undef, .bool false, .bool false, undef, undef, undef, undef, undef, .bool false], defers := [] }) (by as_aux_lemma => kernel_rfl) ?_)
      go_ret
      exact ⟨by rw [HF.out]; rfl, HB0.out⟩
  have q3 : ((a.med : Int) == (b.med : Int)) = true := by rw [q]; simp
  have n3 : ((a.med : Int) != (b.med : Int)) = false := by rw [q]; simp
  have E3 := Lib.hid q
  clear q
  go_wp2_with (with_reducible show wpList _ _ _ (⟨some 32, _, _, _, _, _⟩ :: _) _ _; refine StopB ?_)
  refine StopA ?_
  by_cases q : a.hasPref = b.hasPref
  case neg =>
    have HF : Hid (r = false) := by show _ = _; rw [← HR.out]; exact decide_eq_false (fun e => q (by have := (AtC.eq_iff.2 e).2.2.2.2.1; exact this))
    clear HQp HQm HQx HQl HQk HR hlt hld HC0 HD0 HOA0 HOB0
    have q4 : (a.hasPref == b.hasPref) = false := beq_eq_false_iff_ne.2 q
    have n4 : (a.hasPref != b.hasPref) = true := by rw [bne, q4]; rfl
    clear q
    as_aux_lemma =>
      go_wp2_with (with_reducible show wpList _ _ _ (⟨some 40, _, _, _, _, _⟩ :: _) _ _; refine wpList_pure (a' := { tmps := #[.agg a.ar, .agg b.ar, .pointer (some ⟨w.heap.size, 0, none⟩), .pointer (some ⟨w.heap.size + 1, 0, none⟩), .bool false, .pointer (some ⟨w.heap.size, 0, none⟩), .int .i64 a.origin, .pointer (some ⟨w.heap.size + 1, 0, none⟩), .int .i64 b.origin, .bool true, .bool true, .pointer (some ⟨w.heap.size, 2, none⟩), .string a.next, .pointer (some ⟨w.heap.size + 1, 2, none⟩), .string b.next, .bool true, .bool true, .bool true, .pointer (some ⟨w.heap.size, 3, none⟩), .bool a.hasMed, .pointer (some ⟨w.heap.size + 1, 3, none⟩), .bool b.hasMed, .bool true, .bool true, .bool true, .pointer (some ⟨w.heap.size, 4, none⟩), .int .u32 (a.med : Nat), .pointer (some ⟨w.heap.size + 1, 4, none⟩), .int .u32 (b.med : Nat), .bool true, .bool true, .bool true, .pointer (some ⟨w.heap.size, 5, none⟩), .bool a.hasPref, .pointer (some ⟨w.heap.size + 1, 5, none⟩), .bool b.hasPref, .bool false, .bool false, .bool false, undef, undef, undef, undef, undef, .bool false, .bool false, undef, undef, undef, undef, undef, .bool false, .bool false, undef, undef, undef, undef, undef, .bool false, .bool false, undef, undef, undef, undef, undef, .bool false, .bool false, undef, undef, undef, undef, undef, .bool false, .bool false, undef, undef, undef, undef, undef, .bool false, .bool false, undef, undef, undef, undef, undef, .bool false, .bool false, undef, undef, undef, undef, undef, .bool false, .bool false, undef, undef, undef, undef, undef, .bool false, .bool false, undef, undef, undef, undef, undef, .bool false, .bool false, undef, undef, undef, undef, undef, .bool false], defers := [] }) (by as_aux_lemma => kernel_rfl) ?_)
      go_ret
      exact ⟨by rw [HF.out]; rfl, HB0.out⟩
  have q4 : (a.hasPref == b.hasPref) = true := beq_iff_eq.2 q
  have n4 : (a.hasPref != b.hasPref) = false := by simp [q]
  have E4 := Lib.hid q
  clear q
  go_wp2_with (with_reducible show wpList _ _ _ (⟨some 39, _, _, _, _, _⟩ :: _) _ _; refine StopB ?_)
  refine StopA ?_
  by_cases q : a.pref = b.pref
  case neg =>
    have HF : Hid (r = false) := by show _ = _; rw [← HR.out]; exact decide_eq_false (fun e => q (by have := (AtC.eq_iff.2 e).2.2.2.2.2.1; exact this))
    clear HQp HQm HQx HQl HQk HR hlt hld HC0 HD0 HOA0 HOB0
    have q5 : ((a.pref : Int) == (b.pref : Int)) = false := beq_eq_false_iff_ne.2 (by omega)
    have n5 : ((a.pref : Int) != (b.pref : Int)) = true := by rw [bne, q5]; rfl
    clear q
    as_aux_lemma =>
      go_wp2_with (with_reducible show wpList _ _ _ (⟨some 47, _, _, _, _, _⟩ :: _) _ _; refine wpList_pure (a' := { tmps := #[.agg a.ar, .agg b.ar, .pointer (some ⟨w.heap.size, 0, none⟩), .pointer (some ⟨w.heap.size + 1, 0, none⟩), .bool false, .pointer (some ⟨w.heap.size, 0, none⟩), .int .i64 a.origin, .pointer (some ⟨w.heap.size + 1, 0, none⟩), .int .i64 b.origin, .bool true, .bool true, .pointer (some ⟨w.heap.size, 2, none⟩), .string a.next, .pointer (some ⟨w.heap.size + 1, 2, none⟩), .string b.next, .bool true, .bool true, .bool true, .pointer (some ⟨w.heap.size, 3, none⟩), .bool a.hasMed, .pointer (some ⟨w.heap.size + 1, 3, none⟩), .bool b.hasMed, .bool true, .bool true, .bool true, .pointer (some ⟨w.heap.size, 4, none⟩), .int .u32 (a.med : Nat), .pointer (some ⟨w.heap.size + 1, 4, none⟩), .int .u32 (b.med : Nat), .bool true, .bool true, .bool true, .pointer (some ⟨w.heap.size, 5, none⟩), .bool a.hasPref, .pointer (some ⟨w.heap.size + 1, 5, none⟩), .bool b.hasPref, .bool true, .bool true, .bool true, .pointer (some ⟨w.heap.size, 6, none⟩), .int .u32 (a.pref : Nat), .pointer (some ⟨w.heap.size + 1, 6, none⟩), .int .u32 (b.pref : Nat), .bool false, .bool false, .bool false, undef, undef, undef, undef, undef, .bool false, .bool false, undef, undef, undef, undef, undef, .bool false, .bool false, undef, undef, undef, undef, undef, .bool false, .bool false, undef, undef, undef, undef, undef, .bool false, .bool false, undef, undef, undef, undef, undef, .bool false, .bool false, undef, undef, undef, undef, undef, .bool false, .bool false, undef, undef, undef, undef, undef, .bool false, .bool false, undef, undef, undef, undef, undef, .bool false, .bool false, undef, undef, undef, undef, undef, .bool false, .bool false, undef, undef, undef, undef, undef, .bool false], defers := [] }) (by as_aux_lemma => kernel_rfl) ?_)
      go_ret
      exact ⟨by rw [HF.out]; rfl, HB0.out⟩
  have q5 : ((a.pref : Int) == (b.pref : Int)) = true := by rw [q]; simp
  have n5 : ((a.pref : Int) != (b.pref : Int)) = false := by rw [q]; simp
  have E5 := Lib.hid q
  clear q
  go_wp2_with (with_reducible show wpList _ _ _ (⟨some 46, _, _, _, _, _⟩ :: _) _ _; refine StopB ?_)
  refine StopA ?_
  by_cases q : a.atomic = b.atomic
  case neg =>
    have HF : Hid (r = false) := by show _ = _; rw [← HR.out]; exact decide_eq_false (fun e => q (by have := (AtC.eq_iff.2 e).2.2.2.2.2.2.1; exact this))
    clear HQp HQm HQx HQl HQk HR hlt hld HC0 HD0 HOA0 HOB0
    have q6 : (a.atomic == b.atomic) = false := beq_eq_false_iff_ne.2 q
    have n6 : (a.atomic != b.atomic) = true := by rw [bne, q6]; rfl
    clear q
    as_aux_lemma =>
      go_wp2_with (with_reducible show wpList _ _ _ (⟨some 54, _, _, _, _, _⟩ :: _) _ _; refine wpList_pure (a' := { tmps := #[.agg a.ar, .agg b.ar, .pointer (some ⟨w.heap.size, 0, none⟩), .pointer (some ⟨w.heap.size + 1, 0, none⟩), .bool false, .pointer (some ⟨w.heap.size, 0, none⟩), .int .i64 a.origin, .pointer (some ⟨w.heap.size + 1, 0, none⟩), .int .i64 b.origin, .bool true, .bool true, .pointer (some ⟨w.heap.size, 2, none⟩), .string a.next, .pointer (some ⟨w.heap.size + 1, 2, none⟩), .string b.next, .bool true, .bool true, .bool true, .pointer (some ⟨w.heap.size, 3, none⟩), .bool a.hasMed, .pointer (some ⟨w.heap.size + 1, 3, none⟩), .bool b.hasMed, .bool true, .bool true, .bool true, .pointer (some ⟨w.heap.size, 4, none⟩), .int .u32 (a.med : Nat), .pointer (some ⟨w.heap.size + 1, 4, none⟩), .int .u32 (b.med : Nat), .bool true, .bool true, .bool true, .pointer (some ⟨w.heap.size, 5, none⟩), .bool a.hasPref, .pointer (some ⟨w.heap.size + 1, 5, none⟩), .bool b.hasPref, .bool true, .bool true, .bool true, .pointer (some ⟨w.heap.size, 6, none⟩), .int .u32 (a.pref : Nat), .pointer (some ⟨w.heap.size + 1, 6, none⟩), .int .u32 (b.pref : Nat), .bool true, .bool true, .bool true, .pointer (some ⟨w.heap.size, 7, none⟩), .bool a.atomic, .pointer (some ⟨w.heap.size + 1, 7, none⟩), .bool b.atomic, .bool false, .bool false, .bool false, undef, undef, undef, undef, undef, .bool false, .bool false, undef, undef, undef, undef, undef, .bool false, .bool false, undef, undef, undef, undef, undef, .bool false, .bool false, undef, undef, undef, undef, undef, .bool false, .bool false, undef, undef, undef, undef, undef, .bool false, .bool false, undef, undef, undef, undef, undef, .bool false, .bool false, undef, undef, undef, undef, undef, .bool false, .bool false, undef, undef, undef, undef, undef, .bool false, .bool false, undef, undef, undef, undef, undef, .bool false], defers := [] }) (by as_aux_lemma => kernel_rfl) ?_)
      go_ret
      exact ⟨by rw [HF.out]; rfl, HB0.out⟩
  have q6 : (a.atomic == b.atomic) = true := beq_iff_eq.2 q
  have n6 : (a.atomic != b.atomic) = false := by simp [q]
  have E6 := Lib.hid q
  clear q
  go_wp2_with (with_reducible show wpList _ _ _ (⟨some 53, _, _, _, _, _⟩ :: _) _ _; refine StopB ?_)
  refine StopA ?_
  by_cases q : a.aggAs = b.aggAs
  case neg =>
    have HF : Hid (r = false) := by show _ = _; rw [← HR.out]; exact decide_eq_false (fun e => q (by have := (AtC.eq_iff.2 e).2.2.2.2.2.2.2.1; exact this))
    clear HQp HQm HQx HQl HQk HR hlt hld HC0 HD0 HOA0 HOB0
    have q7 : ((a.aggAs : Int) == (b.aggAs : Int)) = false := beq_eq_false_iff_ne.2 (by omega)
    have n7 : ((a.aggAs : Int) != (b.aggAs : Int)) = true := by rw [bne, q7]; rfl
    clear q
    as_aux_lemma =>
      go_wp2_with (with_reducible show wpList _ _ _ (⟨some 61, _, _, _, _, _⟩ :: _) _ _; refine wpList_pure (a' := { tmps := #[.agg a.ar, .agg b.ar, .pointer (some ⟨w.heap.size, 0, none⟩), .pointer (some ⟨w.heap.size + 1, 0, none⟩), .bool false, .pointer (some ⟨w.heap.size, 0, none⟩), .int .i64 a.origin, .pointer (some ⟨w.heap.size + 1, 0, none⟩), .int .i64 b.origin, .bool true, .bool true, .pointer (some ⟨w.heap.size, 2, none⟩), .string a.next, .pointer (some ⟨w.heap.size + 1, 2, none⟩), .string b.next, .bool true, .bool true, .bool true, .pointer (some ⟨w.heap.size, 3, none⟩), .bool a.hasMed, .pointer (some ⟨w.heap.size + 1, 3, none⟩), .bool b.hasMed, .bool true, .bool true, .bool true, .pointer (some ⟨w.heap.size, 4, none⟩), .int .u32 (a.med : Nat), .pointer (some ⟨w.heap.size + 1, 4, none⟩), .int .u32 (b.med : Nat), .bool true, .bool true, .bool true, .pointer (some ⟨w.heap.size, 5, none⟩), .bool a.hasPref, .pointer (some ⟨w.heap.size + 1, 5, none⟩), .bool b.hasPref, .bool true, .bool true, .bool true, .pointer (some ⟨w.heap.size, 6, none⟩), .int .u32 (a.pref : Nat), .pointer (some ⟨w.heap.size + 1, 6, none⟩), .int .u32 (b.pref : Nat), .bool true, .bool true, .bool true, .pointer (some ⟨w.heap.size, 7, none⟩), .bool a.atomic, .pointer (some ⟨w.heap.size + 1, 7, none⟩), .bool b.atomic, .bool true, .bool true, .bool true, .pointer (some ⟨w.heap.size, 8, none⟩), .int .u32 (a.aggAs : Nat), .pointer (some ⟨w.heap.size + 1, 8, none⟩), .int .u32 (b.aggAs : Nat), .bool false, .bool false, .bool false, undef, undef, undef, undef, undef, .bool false, .bool false, undef, undef, undef, undef, undef, .bool false, .bool false, undef, undef, undef, undef, undef, .bool false, .bool false, undef, undef, undef, undef, undef, .bool false, .bool false, undef, undef, undef, undef, undef, .bool false, .bool false, undef, undef, undef, undef, undef, .bool false, .bool false, undef, undef, undef, undef, undef, .bool false, .bool false, undef, undef, undef, undef, undef, .bool false], defers := [] }) (by as_aux_lemma => kernel_rfl) ?_)
      go_ret
      exact ⟨by rw [HF.out]; rfl, HB0.out⟩
  have q7 : ((a.aggAs : Int) == (b.aggAs : Int)) = true := by rw [q]; simp
  have n7 : ((a.aggAs : Int) != (b.aggAs : Int)) = false := by rw [q]; simp
  have E7 := Lib.hid q
  clear q
  go_wp2_with (with_reducible show wpList _ _ _ (⟨some 60, _, _, _, _, _⟩ :: _) _ _; refine StopB ?_)
  refine StopA ?_
  by_cases q : a.aggId = b.aggId
  case neg =>
    have HF : Hid (r = false) := by show _ = _; rw [← HR.out]; exact decide_eq_false (fun e => q (by have := (AtC.eq_iff.2 e).2.2.2.2.2.2.2.2.1; exact this))
    clear HQp HQm HQx HQl HQk HR hlt hld HC0 HD0 HOA0 HOB0
    have q8 : ((a.aggId : Int) == (b.aggId : Int)) = false := beq_eq_false_iff_ne.2 (by omega)
    have n8 : ((a.aggId : Int) != (b.aggId : Int)) = true := by rw [bne, q8]; rfl
    clear q
    as_aux_lemma =>
      go_wp2_with (with_reducible show wpList _ _ _ (⟨some 68, _, _, _, _, _⟩ :: _) _ _; refine wpList_pure (a' := { tmps := #[.agg a.ar, .agg b.ar, .pointer (some ⟨w.heap.size, 0, none⟩), .pointer (some ⟨w.heap.size + 1, 0, none⟩), .bool false, .pointer (some ⟨w.heap.size, 0, none⟩), .int .i64 a.origin, .pointer (some ⟨w.heap.size + 1, 0, none⟩), .int .i64 b.origin, .bool true, .bool true, .pointer (some ⟨w.heap.size, 2, none⟩), .string a.next, .pointer (some ⟨w.heap.size + 1, 2, none⟩), .string b.next, .bool true, .bool true, .bool true, .pointer (some ⟨w.heap.size, 3, none⟩), .bool a.hasMed, .pointer (some ⟨w.heap.size + 1, 3, none⟩), .bool b.hasMed, .bool true, .bool true, .bool true, .pointer (some ⟨w.heap.size, 4, none⟩), .int .u32 (a.med : Nat), .pointer (some ⟨w.heap.size + 1, 4, none⟩), .int .u32 (b.med : Nat), .bool true, .bool true, .bool true, .pointer (some ⟨w.heap.size, 5, none⟩), .bool a.hasPref, .pointer (some ⟨w.heap.size + 1, 5, none⟩), .bool b.hasPref, .bool true, .bool true, .bool true, .pointer (some ⟨w.heap.size, 6, none⟩), .int .u32 (a.pref : Nat), .pointer (some ⟨w.heap.size + 1, 6, none⟩), .int .u32 (b.pref : Nat), .bool true, .bool true, .bool true, .pointer (some ⟨w.heap.size, 7, none⟩), .bool a.atomic, .pointer (some ⟨w.heap.size + 1, 7, none⟩), .bool b.atomic, .bool true, .bool true, .bool true, .pointer (some ⟨w.heap.size, 8, none⟩), .int .u32 (a.aggAs : Nat), .pointer (some ⟨w.heap.size + 1, 8, none⟩), .int .u32 (b.aggAs : Nat), .bool true, .bool true, .bool true, .pointer (some ⟨w.heap.size, 9, none⟩), .int .u32 (a.aggId : Nat), .pointer (some ⟨w.heap.size + 1, 9, none⟩), .int .u32 (b.aggId : Nat), .bool false, .bool false, .bool false, undef, undef, undef, undef, undef, .bool false, .bool false, undef, undef, undef, undef, undef, .bool false, .bool false, undef, undef, undef, undef, undef, .bool false, .bool false, undef, undef, undef, undef, undef, .bool false, .bool false, undef, undef, undef, undef, undef, .bool false, .bool false, undef, undef, undef, undef, undef, .bool false, .bool false, undef, undef, undef, undef, undef, .bool false], defers := [] }) (by as_aux_lemma => kernel_rfl) ?_)
      go_ret
      exact ⟨by rw [HF.out]; rfl, HB0.out⟩
  have q8 : ((a.aggId : Int) == (b.aggId : Int)) = true := by rw [q]; simp
  have n8 : ((a.aggId : Int) != (b.aggId : Int)) = false := by rw [q]; simp
  have E8 := Lib.hid q
  clear q
  go_wp2_with (with_reducible show wpList _ _ _ (⟨some 67, _, _, _, _, _⟩ :: _) _ _; refine StopB ?_)
  refine StopA ?_
  by_cases q : a.hasOrig = b.hasOrig
  case neg =>
    have HF : Hid (r = false) := by show _ = _; rw [← HR.out]; exact decide_eq_false (fun e => q (by have := (AtC.eq_iff.2 e).2.2.2.2.2.2.2.2.2.1; exact this))
    clear HQp HQm HQx HQl HQk HR hlt hld HC0 HD0 HOA0 HOB0
    have q9 : (a.hasOrig == b.hasOrig) = false := beq_eq_false_iff_ne.2 q
    have n9 : (a.hasOrig != b.hasOrig) = true := by rw [bne, q9]; rfl
    clear q
    as_aux_lemma =>
      go_wp2_with (with_reducible show wpList _ _ _ (⟨some 75, _, _, _, _, _⟩ :: _) _ _; refine wpList_pure (a' := { tmps := #[.agg a.ar, .agg b.ar, .pointer (some ⟨w.heap.size, 0, none⟩), .pointer (some ⟨w.heap.size + 1, 0, none⟩), .bool false, .pointer (some ⟨w.heap.size, 0, none⟩), .int .i64 a.origin, .pointer (some ⟨w.heap.size + 1, 0, none⟩), .int .i64 b.origin, .bool true, .bool true, .pointer (some ⟨w.heap.size, 2, none⟩), .string a.next, .pointer (some ⟨w.heap.size + 1, 2, none⟩), .string b.next, .bool true, .bool true, .bool true, .pointer (some ⟨w.heap.size, 3, none⟩), .bool a.hasMed, .pointer (some ⟨w.heap.size + 1, 3, none⟩), .bool b.hasMed, .bool true, .bool true, .bool true, .pointer (some ⟨w.heap.size, 4, none⟩), .int .u32 (a.med : Nat), .pointer (some ⟨w.heap.size + 1, 4, none⟩), .int .u32 (b.med : Nat), .bool true, .bool true, .bool true, .pointer (some ⟨w.heap.size, 5, none⟩), .bool a.hasPref, .pointer (some ⟨w.heap.size + 1, 5, none⟩), .bool b.hasPref, .bool true, .bool true, .bool true, .pointer (some ⟨w.heap.size, 6, none⟩), .int .u32 (a.pref : Nat), .pointer (some ⟨w.heap.size + 1, 6, none⟩), .int .u32 (b.pref : Nat), .bool true, .bool true, .bool true, .pointer (some ⟨w.heap.size, 7, none⟩), .bool a.atomic, .pointer (some ⟨w.heap.size + 1, 7, none⟩), .bool b.atomic, .bool true, .bool true, .bool true, .pointer (some ⟨w.heap.size, 8, none⟩), .int .u32 (a.aggAs : Nat), .pointer (some ⟨w.heap.size + 1, 8, none⟩), .int .u32 (b.aggAs : Nat), .bool true, .bool true, .bool true, .pointer (some ⟨w.heap.size, 9, none⟩), .int .u32 (a.aggId : Nat), .pointer (some ⟨w.heap.size + 1, 9, none⟩), .int .u32 (b.aggId : Nat), .bool true, .bool true, .bool true, .pointer (some ⟨w.heap.size, 13, none⟩), .bool a.hasOrig, .pointer (some ⟨w.heap.size + 1, 13, none⟩), .bool b.hasOrig, .bool false, .bool false, .bool false, undef, undef, undef, undef, undef, .bool false, .bool false, undef, undef, undef, undef, undef, .bool false, .bool false, undef, undef, undef, undef, undef, .bool false, .bool false, undef, undef, undef, undef, undef, .bool false, .bool false, undef, undef, undef, undef, undef, .bool false, .bool false, undef, undef, undef, undef, undef, .bool false], defers := [] }) (by as_aux_lemma => kernel_rfl) ?_)
      go_ret
      exact ⟨by rw [HF.out]; rfl, HB0.out⟩
  have q9 : (a.hasOrig == b.hasOrig) = true := beq_iff_eq.2 q
  have n9 : (a.hasOrig != b.hasOrig) = false := by simp [q]
  have E9 := Lib.hid q
  clear q
  go_wp2_with (with_reducible show wpList _ _ _ (⟨some 74, _, _, _, _, _⟩ :: _) _ _; refine StopB ?_)
  refine StopA ?_
  by_cases q : a.orig = b.orig
  case neg =>
    have HF : Hid (r = false) := by show _ = _; rw [← HR.out]; exact decide_eq_false (fun e => q (by have := (AtC.eq_iff.2 e).2.2.2.2.2.2.2.2.2.2.1; exact this))
    clear HQp HQm HQx HQl HQk HR hlt hld HC0 HD0 HOA0 HOB0
    have q10 : ((a.orig : Int) == (b.orig : Int)) = false := beq_eq_false_iff_ne.2 (by omega)
    have n10 : ((a.orig : Int) != (b.orig : Int)) = true := by rw [bne, q10]; rfl
    clear q
    as_aux_lemma =>
      go_wp2_with (with_reducible show wpList _ _ _ (⟨some 82, _, _, _, _, _⟩ :: _) _ _; refine wpList_pure (a' := { tmps := #[.agg a.ar, .agg b.ar, .pointer (some ⟨w.heap.size, 0, none⟩), .pointer (some ⟨w.heap.size + 1, 0, none⟩), .bool false, .pointer (some ⟨w.heap.size, 0, none⟩), .int .i64 a.origin, .pointer (some ⟨w.heap.size + 1, 0, none⟩), .int .i64 b.origin, .bool true, .bool true, .pointer (some ⟨w.heap.size, 2, none⟩), .string a.next, .pointer (some ⟨w.heap.size + 1, 2, none⟩), .string b.next, .bool true, .bool true, .bool true, .pointer (some ⟨w.heap.size, 3, none⟩), .bool a.hasMed, .pointer (some ⟨w.heap.size + 1, 3, none⟩), .bool b.hasMed, .bool true, .bool true, .bool true, .pointer (some ⟨w.heap.size, 4, none⟩), .int .u32 (a.med : Nat), .pointer (some ⟨w.heap.size + 1, 4, none⟩), .int .u32 (b.med : Nat), .bool true, .bool true, .bool true, .pointer (some ⟨w.heap.size, 5, none⟩), .bool a.hasPref, .pointer (some ⟨w.heap.size + 1, 5, none⟩), .bool b.hasPref, .bool true, .bool true, .bool true, .pointer (some ⟨w.heap.size, 6, none⟩), .int .u32 (a.pref : Nat), .pointer (some ⟨w.heap.size + 1, 6, none⟩), .int .u32 (b.pref : Nat), .bool true, .bool true, .bool true, .pointer (some ⟨w.heap.size, 7, none⟩), .bool a.atomic, .pointer (some ⟨w.heap.size + 1, 7, none⟩), .bool b.atomic, .bool true, .bool true, .bool true, .pointer (some ⟨w.heap.size, 8, none⟩), .int .u32 (a.aggAs : Nat), .pointer (some ⟨w.heap.size + 1, 8, none⟩), .int .u32 (b.aggAs : Nat), .bool true, .bool true, .bool true, .pointer (some ⟨w.heap.size, 9, none⟩), .int .u32 (a.aggId : Nat), .pointer (some ⟨w.heap.size + 1, 9, none⟩), .int .u32 (b.aggId : Nat), .bool true, .bool true, .bool true, .pointer (some ⟨w.heap.size, 13, none⟩), .bool a.hasOrig, .pointer (some ⟨w.heap.size + 1, 13, none⟩), .bool b.hasOrig, .bool true, .bool true, .bool true, .pointer (some ⟨w.heap.size, 14, none⟩), .int .u32 (a.orig : Nat), .pointer (some ⟨w.heap.size + 1, 14, none⟩), .int .u32 (b.orig : Nat), .bool false, .bool false, .bool false, undef, undef, undef, undef, undef, .bool false, .bool false, undef, undef, undef, undef, undef, .bool false, .bool false, undef, undef, undef, undef, undef, .bool false, .bool false, undef, undef, undef, undef, undef, .bool false, .bool false, undef, undef, undef, undef, undef, .bool false], defers := [] }) (by as_aux_lemma => kernel_rfl) ?_)
      go_ret
      exact ⟨by rw [HF.out]; rfl, HB0.out⟩
  have q10 : ((a.orig : Int) == (b.orig : Int)) = true := by rw [q]; simp
  have n10 : ((a.orig : Int) != (b.orig : Int)) = false := by rw [q]; simp
  have E10 := Lib.hid q
  clear q
  by_cases q : a.segs.map Sg.c = b.segs.map Sg.c
  case neg =>
    have HF : Hid (r = false) := by show _ = _; rw [← HR.out]; exact decide_eq_false (fun e => q (by have := (AtC.eq_iff.2 e).2.2.2.2.2.2.2.2.2.2.2.1; exact this))
    rw [decide_eq_false q] at HQp
    clear q
    as_aux_lemma =>
      go_wp2_with fail
      refine (HQp.out _ HOA0.out HOB0.out).mono ?_
      rintro e v1 ⟨rfl, hb⟩
      have HB1 : Hid (Below w.heap.size w v1) := HB0.out.trans (hb.mono HB0.out.size)
      clear hb c0 c1 c2 c3 c4 c5 c6 c7 c8 c9 c10 c11 c12 c13 c14 c15 d0 d1 d2 d3 d4 d5 d6 d7 d8 d9 d10 d11 d12 d13 d14 d15
      go_wp2_with fail
      go_ret
      exact ⟨by rw [HF.out]; rfl, HB1.out⟩
  have E11 := Lib.hid q
  rw [decide_eq_true q] at HQp
  clear q
  go_wp2_with fail
  refine (HQp.out _ HOA0.out HOB0.out).mono ?_
  rintro e v1 ⟨rfl, hb⟩
  have HB1 : Hid (Below w.heap.size w v1) := HB0.out.trans (hb.mono HB0.out.size)
  have HC1 : Hid (CellsAt v1 w.heap.size a.ar 33) := HC0.out.below hb HC0.out.lt
  have HD1 : Hid (CellsAt v1 (w.heap.size + 1) b.ar 33) := HD0.out.below hb HD0.out.lt
  have HOA1 : Hid (AtrOk v1 a) := HOA0.out.below hb (Nat.le_refl _)
  have HOB1 : Hid (AtrOk v1 b) := HOB0.out.below hb (Nat.le_refl _)
  clear hb c0 c1 c2 c3 c4 c5 c6 c7 c8 c9 c10 c11 c12 c13 c14 c15 d0 d1 d2 d3 d4 d5 d6 d7 d8 d9 d10 d11 d12 d13 d14 d15
  obtain ⟨c0, c1, c2, c3, c4, c5, c6, c7, c8, c9, c10, c11, c12, c13, c14, c15⟩ := atr_cells HC1.out
  obtain ⟨d0, d1, d2, d3, d4, d5, d6, d7, d8, d9, d10, d11, d12, d13, d14, d15⟩ := atr_cells HD1.out
  by_cases q : a.comms = b.comms
  case neg =>
    have HF : Hid (r = false) := by show _ = _; rw [← HR.out]; exact decide_eq_false (fun e => q (by have := (AtC.eq_iff.2 e).2.2.2.2.2.2.2.2.2.2.2.2.1; exact this))
    rw [decide_eq_false q] at HQm
    clear q
    as_aux_lemma =>
      go_wp2_with fail
      refine (HQm.out _ HOA1.out HOB1.out).mono ?_
      rintro e v2 ⟨rfl, hb⟩
      have HB2 : Hid (Below w.heap.size w v2) := HB1.out.trans (hb.mono HB1.out.size)
      clear hb c0 c1 c2 c3 c4 c5 c6 c7 c8 c9 c10 c11 c12 c13 c14 c15 d0 d1 d2 d3 d4 d5 d6 d7 d8 d9 d10 d11 d12 d13 d14 d15
      go_wp2_with fail
      go_ret
      exact ⟨by rw [HF.out]; rfl, HB2.out⟩
  have E12 := Lib.hid q
  rw [decide_eq_true q] at HQm
  clear q
  go_wp2_with fail
  refine (HQm.out _ HOA1.out HOB1.out).mono ?_
  rintro e v2 ⟨rfl, hb⟩
  have HB2 : Hid (Below w.heap.size w v2) := HB1.out.trans (hb.mono HB1.out.size)
  have HC2 : Hid (CellsAt v2 w.heap.size a.ar 33) := HC1.out.below hb HC1.out.lt
  have HD2 : Hid (CellsAt v2 (w.heap.size + 1) b.ar 33) := HD1.out.below hb HD1.out.lt
  have HOA2 : Hid (AtrOk v2 a) := HOA1.out.below hb (Nat.le_refl _)
  have HOB2 : Hid (AtrOk v2 b) := HOB1.out.below hb (Nat.le_refl _)
  clear hb c0 c1 c2 c3 c4 c5 c6 c7 c8 c9 c10 c11 c12 c13 c14 c15 d0 d1 d2 d3 d4 d5 d6 d7 d8 d9 d10 d11 d12 d13 d14 d15
  obtain ⟨c0, c1, c2, c3, c4, c5, c6, c7, c8, c9, c10, c11, c12, c13, c14, c15⟩ := atr_cells HC2.out
  obtain ⟨d0, d1, d2, d3, d4, d5, d6, d7, d8, d9, d10, d11, d12, d13, d14, d15⟩ := atr_cells HD2.out
  by_cases q : a.exts = b.exts
  case neg =>
    have HF : Hid (r = false) := by show _ = _; rw [← HR.out]; exact decide_eq_false (fun e => q (by have := (AtC.eq_iff.2 e).2.2.2.2.2.2.2.2.2.2.2.2.2.1; exact this))
    rw [decide_eq_false q] at HQx
    clear q
    as_aux_lemma =>
      go_wp2_with fail
      refine (HQx.out _ HOA2.out HOB2.out).mono ?_
      rintro e v3 ⟨rfl, hb⟩
      have HB3 : Hid (Below w.heap.size w v3) := HB2.out.trans (hb.mono HB2.out.size)
      clear hb c0 c1 c2 c3 c4 c5 c6 c7 c8 c9 c10 c11 c12 c13 c14 c15 d0 d1 d2 d3 d4 d5 d6 d7 d8 d9 d10 d11 d12 d13 d14 d15
      go_wp2_with fail
      go_ret
      exact ⟨by rw [HF.out]; rfl, HB3.out⟩
  have E13 := Lib.hid q
  rw [decide_eq_true q] at HQx
  clear q
  go_wp2_with fail
  refine (HQx.out _ HOA2.out HOB2.out).mono ?_
  rintro e v3 ⟨rfl, hb⟩
  have HB3 : Hid (Below w.heap.size w v3) := HB2.out.trans (hb.mono HB2.out.size)
  have HC3 : Hid (CellsAt v3 w.heap.size a.ar 33) := HC2.out.below hb HC2.out.lt
  have HD3 : Hid (CellsAt v3 (w.heap.size + 1) b.ar 33) := HD2.out.below hb HD2.out.lt
  have HOA3 : Hid (AtrOk v3 a) := HOA2.out.below hb (Nat.le_refl _)
  have HOB3 : Hid (AtrOk v3 b) := HOB2.out.below hb (Nat.le_refl _)
  clear hb c0 c1 c2 c3 c4 c5 c6 c7 c8 c9 c10 c11 c12 c13 c14 c15 d0 d1 d2 d3 d4 d5 d6 d7 d8 d9 d10 d11 d12 d13 d14 d15
  obtain ⟨c0, c1, c2, c3, c4, c5, c6, c7, c8, c9, c10, c11, c12, c13, c14, c15⟩ := atr_cells HC3.out
  obtain ⟨d0, d1, d2, d3, d4, d5, d6, d7, d8, d9, d10, d11, d12, d13, d14, d15⟩ := atr_cells HD3.out
  by_cases q : a.larges = b.larges
  case neg =>
    have HF : Hid (r = false) := by show _ = _; rw [← HR.out]; exact decide_eq_false (fun e => q (by have := (AtC.eq_iff.2 e).2.2.2.2.2.2.2.2.2.2.2.2.2.2.1; exact this))
    rw [decide_eq_false q] at HQl
    clear q
    as_aux_lemma =>
      go_wp2_with fail
      refine (HQl.out _ HOA3.out HOB3.out).mono ?_
      rintro e v4 ⟨rfl, hb⟩
      have HB4 : Hid (Below w.heap.size w v4) := HB3.out.trans (hb.mono HB3.out.size)
      clear hb c0 c1 c2 c3 c4 c5 c6 c7 c8 c9 c10 c11 c12 c13 c14 c15 d0 d1 d2 d3 d4 d5 d6 d7 d8 d9 d10 d11 d12 d13 d14 d15
      go_wp2_with fail
      go_ret
      exact ⟨by rw [HF.out]; rfl, HB4.out⟩
  have E14 := Lib.hid q
  rw [decide_eq_true q] at HQl
  clear q
  go_wp2_with fail
  refine (HQl.out _ HOA3.out HOB3.out).mono ?_
  rintro e v4 ⟨rfl, hb⟩
  have HB4 : Hid (Below w.heap.size w v4) := HB3.out.trans (hb.mono HB3.out.size)
  have HC4 : Hid (CellsAt v4 w.heap.size a.ar 33) := HC3.out.below hb HC3.out.lt
  have HD4 : Hid (CellsAt v4 (w.heap.size + 1) b.ar 33) := HD3.out.below hb HD3.out.lt
  have HOA4 : Hid (AtrOk v4 a) := HOA3.out.below hb (Nat.le_refl _)
  have HOB4 : Hid (AtrOk v4 b) := HOB3.out.below hb (Nat.le_refl _)
  clear hb c0 c1 c2 c3 c4 c5 c6 c7 c8 c9 c10 c11 c12 c13 c14 c15 d0 d1 d2 d3 d4 d5 d6 d7 d8 d9 d10 d11 d12 d13 d14 d15
  obtain ⟨c0, c1, c2, c3, c4, c5, c6, c7, c8, c9, c10, c11, c12, c13, c14, c15⟩ := atr_cells HC4.out
  obtain ⟨d0, d1, d2, d3, d4, d5, d6, d7, d8, d9, d10, d11, d12, d13, d14, d15⟩ := atr_cells HD4.out
  by_cases q : a.clus = b.clus
  case neg =>
    have HF : Hid (r = false) := by show _ = _; rw [← HR.out]; exact decide_eq_false (fun e => q (by have := (AtC.eq_iff.2 e).2.2.2.2.2.2.2.2.2.2.2.2.2.2.2; exact this))
    rw [decide_eq_false q] at HQk
    clear q
    as_aux_lemma =>
      go_wp2_with fail
      refine (HQk.out _ HOA4.out HOB4.out).mono ?_
      rintro e v5 ⟨rfl, hb⟩
      have HB5 : Hid (Below w.heap.size w v5) := HB4.out.trans (hb.mono HB4.out.size)
      clear hb c0 c1 c2 c3 c4 c5 c6 c7 c8 c9 c10 c11 c12 c13 c14 c15 d0 d1 d2 d3 d4 d5 d6 d7 d8 d9 d10 d11 d12 d13 d14 d15
      go_wp2_with fail
      go_ret
      exact ⟨by rw [HF.out]; rfl, HB5.out⟩
  have E15 := Lib.hid q
  rw [decide_eq_true q] at HQk
  clear q
  go_wp2_with fail
  refine (HQk.out _ HOA4.out HOB4.out).mono ?_
  rintro e v5 ⟨rfl, hb⟩
  have HB5 : Hid (Below w.heap.size w v5) := HB4.out.trans (hb.mono HB4.out.size)
  have HC5 : Hid (CellsAt v5 w.heap.size a.ar 33) := HC4.out.below hb HC4.out.lt
  have HD5 : Hid (CellsAt v5 (w.heap.size + 1) b.ar 33) := HD4.out.below hb HD4.out.lt
  have HOA5 : Hid (AtrOk v5 a) := HOA4.out.below hb (Nat.le_refl _)
  have HOB5 : Hid (AtrOk v5 b) := HOB4.out.below hb (Nat.le_refl _)
  clear hb c0 c1 c2 c3 c4 c5 c6 c7 c8 c9 c10 c11 c12 c13 c14 c15 d0 d1 d2 d3 d4 d5 d6 d7 d8 d9 d10 d11 d12 d13 d14 d15
  obtain ⟨c0, c1, c2, c3, c4, c5, c6, c7, c8, c9, c10, c11, c12, c13, c14, c15⟩ := atr_cells HC5.out
  obtain ⟨d0, d1, d2, d3, d4, d5, d6, d7, d8, d9, d10, d11, d12, d13, d14, d15⟩ := atr_cells HD5.out
  have HT : Hid (r = true) := by show _ = _; rw [← HR.out]; exact decide_eq_true (AtC.eq_iff.1 ⟨E0.out, E1.out, E2.out, E3.out, E4.out, E5.out, E6.out, E7.out, E8.out, E9.out, E10.out, E11.out, E12.out, E13.out, E14.out, E15.out⟩)
  go_wp2_with fail
  go_ret
  exact ⟨by rw [HT.out]; rfl, HB5.out⟩
theorem noAtr_c : noAtr.c = noC := rfl
theorem segOk_parts {s : Int × List Nat} (h : segOk s = true) : 1 ≤ s.1 ∧ s.1 ≤ 4 ∧ 1 ≤ s.2.length ∧ s.2.length ≤ 255 := by
  unfold segOk at h
  simp only [Bool.and_eq_true, decide_eq_true_eq] at h
  exact ⟨h.1.1.1.1, h.1.1.1.2, h.1.1.2, h.1.2⟩
theorem next_ok (g : Cfg) (p : Pth) (t : Pr) : nextOk (nextF g p t) = true := by
  unfold nextF nextOk
  split
  · rename_i h
    obtain ⟨_, _, h3⟩ := h
    rcases famSize_cases p.n.fam with e | e | e <;> rw [e] at h3
    · have h4 : p.a.next.size = 0 := by omega
      rw [h4]; rfl
    · have h4 : p.a.next.size = 4 := by omega
      rw [h4]; rfl
    · have h4 : p.a.next.size = 16 := by omega
      rw [h4]; rfl
  · split
    · rfl
    · rename_i h
      have h4 : g.addr.size = 4 := by
        by_cases e : g.addr.size = 4
        · exact e
        · exact absurd (Or.inr e) h
      split
      · rw [ByteArray.size_append, h4]; rfl
      · rw [h4]; rfl
theorem attrsF_errI (g : Cfg) (p : Pth) (t : Pr) (h : ((attrsF g p t).2 == 0) = false) : (attrsF g p t).1 = noC := by
  unfold attrsF at h ⊢
  split
  · rfl
  · rename_i h1
    rw [if_neg h1] at h
    split
    · rfl
    · rename_i h2
      rw [if_neg h2] at h
      cases h

/-- a path's length, by its words -/
def wid (s : Int × List Nat) : Nat := if s.1 = 2 then s.2.length else if s.1 = 1 then 1 else 0
def nlen (l : List (Int × List Nat)) : Nat := (l.map wid).sum
theorem nlen_cons (s : Int × List Nat) (r : List (Int × List Nat)) : nlen (s :: r) = wid s + nlen r := by simp [nlen]
theorem wrap_small (n : Nat) (h : n ≤ 1000000) : wrap64 (n : Int) = n := by unfold wrap64; omega
theorem len_from : ∀ (l : List Sg) (n : Nat), n + nlen (l.map Sg.c) ≤ 1000000 → l.foldl segLen (n : Int) = ((n + nlen (l.map Sg.c) : Nat) : Int)
  | [], n, _ => by simp [nlen]
  | s :: r, n, h => by
    rw [List.map_cons, nlen_cons] at h ⊢
    rw [List.foldl_cons]
    have e : segLen (n : Int) s = ((n + wid s.c : Nat) : Int) := by
      unfold segLen wid at *
      show (if s.kind = 2 then wrap64 ((n : Int) + s.as_.length) else if s.kind = 1 then wrap64 ((n : Int) + 1) else (n : Int)) = ((n + (if s.kind = 2 then s.as_.length else if s.kind = 1 then 1 else 0) : Nat) : Int)
      have hw : n + (if s.kind = 2 then s.as_.length else if s.kind = 1 then 1 else 0) ≤ 1000000 := by
        have h2 : n + ((if s.c.1 = 2 then s.c.2.length else if s.c.1 = 1 then 1 else 0) + nlen (r.map Sg.c)) ≤ 1000000 := h
        have h3 : n + ((if s.kind = 2 then s.as_.length else if s.kind = 1 then 1 else 0) + nlen (r.map Sg.c)) ≤ 1000000 := h2
        omega
      by_cases h2 : s.kind = 2
      · rw [if_pos h2] at hw
        rw [if_pos h2, if_pos h2]
        have := wrap_small (n + s.as_.length) hw
        rw [← this]
        congr 1
      · rw [if_neg h2] at hw
        rw [if_neg h2, if_neg h2]
        by_cases h1 : s.kind = 1
        · rw [if_pos h1] at hw
          rw [if_pos h1, if_pos h1]
          have := wrap_small (n + 1) hw
          rw [← this]
          congr 1
        · rw [if_neg h1, if_neg h1]
          rfl
    rw [e, len_from r (n + wid s.c) (by omega)]
    congr 1
    omega
theorem lenF_nlen (l : List Sg) (h : nlen (l.map Sg.c) ≤ 1000000) : lenF l = (nlen (l.map Sg.c) : Nat) := by
  have := len_from l 0 (by omega)
  rw [Nat.zero_add] at this
  exact this
theorem nlen_bare : ∀ l : List (Int × List Nat), nlen (bareF l) = nlen l
  | [] => rfl
  | s :: r => by
    have ih := nlen_bare r
    unfold bareF at ih ⊢
    rw [List.filter_cons]
    split
    · rw [nlen_cons, nlen_cons, ih]
    · rename_i h
      rw [ih, nlen_cons]
      have h2 : s.1 = 3 ∨ s.1 = 4 := by
        simp only [Bool.not_eq_true', Bool.not_eq_false, Bool.or_eq_true, beq_iff_eq] at h
        exact h
      unfold wid
      rcases h2 with h2 | h2 <;> rw [h2] <;> simp
theorem nlen_le : ∀ l : List (Int × List Nat), (∀ s ∈ l, segOk s = true) → nlen l ≤ l.length * 255
  | [], _ => by simp [nlen]
  | s :: r, h => by
    have h1 := segOk_parts (h s (List.mem_cons_self ..))
    have ih := nlen_le r (fun x hx => h x (List.mem_cons_of_mem _ hx))
    rw [nlen_cons, List.length_cons]
    have hw : wid s ≤ 255 := by
      unfold wid
      split
      · exact h1.2.2.2
      · split <;> omega
    omega
/-- the facts of an AS put ahead outside -/
structure PreF (m L : List (Int × List Nat)) (own : Nat) : Prop where
  head : ∃ r q, L = (2, own :: q) :: r
  ok : pathOk L = true
  len : nlen L = nlen m + 1
  bare : bareF m = m → bareF L = L
theorem prep_facts (m : List (Int × List Nat)) (own : Nat) (he : (prepF m own false).2 = 0) : PreF m (prepF m own false).1 own := by
  unfold prepF at he ⊢
  by_cases h1 : pathOk m = false ∨ own = 0
  · rw [if_pos h1] at he
    cases he
  rw [if_neg h1] at he ⊢
  have hp : pathOk m = true := by
    cases h : pathOk m with
    | true => rfl
    | false => exact absurd (Or.inl h) h1
  have ho : own ≠ 0 := fun h => h1 (Or.inr h)
  clear h1
  have hz : hasN [own] 0 = false := by
    unfold hasN
    simp
    omega
  have hone : segOk (2, [own]) = true := by
    unfold segOk
    simp [hz]
  match m, hp, he with
  | [], hp, he => exact ⟨⟨[], [], rfl⟩, by show pathOk [(2, [own])] = true; unfold pathOk; simp [hone], rfl, fun _ => rfl⟩
  | s :: r, hp, he =>
    unfold pathOk at hp
    simp only [Bool.and_eq_true, decide_eq_true_eq, List.all_cons] at hp
    obtain ⟨hl, hs, hr⟩ := hp
    by_cases h2 : s.1 = segKind false ∧ s.2.length < 255
    · simp only [if_pos h2] at he ⊢
      have hk : s.1 = 2 := h2.1
      refine ⟨⟨r, s.2, by rw [hk]⟩, ?_, ?_, fun hb => ?_⟩
      · unfold pathOk
        simp only [Bool.and_eq_true, decide_eq_true_eq, List.all_cons]
        refine ⟨hl, ?_, hr⟩
        unfold segOk at hs ⊢
        simp only [Bool.and_eq_true, decide_eq_true_eq, Bool.not_eq_true'] at hs ⊢
        refine ⟨⟨⟨hs.1.1.1, by simp⟩, by show s.2.length + 1 ≤ 255; omega⟩, ?_⟩
        have h3 := hs.2
        unfold hasN at h3 ⊢
        simp only [List.any_cons, Bool.or_eq_false_iff] at h3 ⊢
        exact ⟨by simp; omega, h3⟩
      · rw [nlen_cons, nlen_cons]
        unfold wid
        simp only [hk, if_true, List.length_cons]
        omega
      · unfold bareF at hb ⊢
        rw [List.filter_cons] at hb ⊢
        have hc : (!(s.1 == 3 || s.1 == 4)) = true := by rw [hk]; rfl
        rw [if_pos hc] at hb
        rw [if_pos hc]
        exact congrArg _ (List.cons.inj hb).2
    · simp only [if_neg h2] at he ⊢
      by_cases h3 : (s :: r).length = 16
      · rw [if_pos h3] at he
        cases he
      simp only [if_neg h3]
      refine ⟨⟨s :: r, [], rfl⟩, ?_, ?_, fun hb => ?_⟩
      · unfold pathOk
        simp only [Bool.and_eq_true, decide_eq_true_eq, List.all_cons]
        refine ⟨?_, hone, hs, hr⟩
        rw [List.length_cons]
        omega
      · rw [nlen_cons]
        have : wid (segKind false, [own]) = 1 := rfl
        omega
      · have e : bareF ((segKind false, [own]) :: s :: r) = (segKind false, [own]) :: bareF (s :: r) := rfl
        rw [e, hb]
theorem bare_bare (l : List (Int × List Nat)) : bareF (bareF l) = bareF l := by
  unfold bareF
  rw [List.filter_filter]
  congr 1
  funext s
  simp
/-- what is told outside -/
structure OutC (g : Cfg) (p : Pth) (N : ByteArray) (C : AtC) : Prop where
  ok : atOk C = true
  hasPref : C.hasPref = false
  hasOrig : C.hasOrig = false
  clus : C.clus = []
  next : C.next = N
  med : p.kind ≠ 1 → C.hasMed = false
  head : ∃ r q, C.path = (2, (if 0 < g.confed then g.confed else g.as_) :: q) :: r
  len : nlen C.path = nlen p.a.c.path + 1
  small : nlen p.a.c.path ≤ 4080
  bare : bareF C.path = C.path
theorem outside_facts (g : Cfg) (p : Pth) (t : Pr) (h : t.as_ ≠ g.as_) (h0 : t.confed = false) (he : (toldF g p t).2 = true) : OutC g p (nextF g p t) (toldF g p t).1 := by
  have hk2 : kindOf g t = 2 := by
    unfold kindOf kindF
    rw [if_neg h, h0]
    rfl
  have hturn : turnF g p t = outF g (p.kind == 1) { p.a.c with next := nextF g p t } := by
    unfold turnF
    rw [if_pos hk2]
  unfold toldF at he ⊢
  by_cases hm : mayF g p t = false
  · rw [if_pos hm] at he
    cases he
  rw [if_neg hm] at he ⊢
  have he : ((attrsF g p t).2 == 0) = true := he
  show OutC g p (nextF g p t) (attrsF g p t).1
  unfold attrsF at he ⊢
  by_cases h1 : mayPathF p = false ∨ (nextF g p t).size = 0
  · rw [if_pos h1] at he
    cases he
  rw [if_neg h1] at he ⊢
  by_cases h2 : (turnF g p t).2 ≠ 0
  · rw [if_pos h2] at he
    exact absurd (beq_iff_eq.1 he) h2
  rw [if_neg h2]
  have hok : atOk p.a.c = true := by
    have h3 : mayPathF p = true := by
      cases hm : mayPathF p with
      | true => rfl
      | false => exact absurd (Or.inl hm) h1
    unfold mayPathF at h3
    simp only [Bool.and_eq_true] at h3
    exact h3.1.2
  have hN := next_ok g p t
  have h2 : (turnF g p t).2 = 0 := Classical.not_not.1 h2
  rw [hturn] at h2 ⊢
  generalize nextF g p t = N at hN h2 ⊢
  have hP := prep_facts (bareF p.a.c.path) (if 0 < g.confed then g.confed else g.as_) h2
  have hsm : nlen p.a.c.path ≤ 4080 := by
    have o3 : pathOk p.a.c.path = true := by
      unfold atOk at hok
      simp only [Bool.and_eq_true] at hok
      exact hok.1.1.1.2
    unfold pathOk at o3
    simp only [Bool.and_eq_true, decide_eq_true_eq] at o3
    have := nlen_le p.a.c.path (fun s hs => List.all_eq_true.1 o3.2 s hs)
    omega
  refine ⟨?_, rfl, rfl, rfl, rfl, fun hk => ?_, hP.head, by rw [← nlen_bare p.a.c.path]; exact hP.len, hsm, hP.bare (bare_bare _)⟩
  · have o := hok
    simp only [atOk, spareOk, listsOk, Bool.and_eq_true, Bool.or_eq_true, decide_eq_true_eq] at o
    obtain ⟨⟨⟨⟨⟨o1, o2⟩, o3⟩, o4⟩, ⟨⟨o5, o6⟩, o7⟩, o8⟩, ⟨⟨o9, o10⟩, o11⟩, o12⟩ := o
    simp only [atOk, spareOk, listsOk, outF, aloneF, Bool.and_eq_true, Bool.or_eq_true, decide_eq_true_eq]
    refine ⟨⟨⟨⟨⟨o1, o2⟩, hP.ok⟩, hN⟩, ⟨⟨?_, Or.inr rfl⟩, Or.inr rfl⟩, o8⟩, ⟨⟨Nat.zero_le _, o10⟩, o11⟩, o12⟩
    cases hl : (p.kind == 1) with
    | true => simpa using o5
    | false => exact Or.inr rfl
  · show ((p.kind == 1) && p.a.c.hasMed) = false
    rw [beq_eq_false_iff_ne.2 hk]
    rfl
theorem told_no (g : Cfg) (p : Pth) (t : Pr) (h : (toldF g p t).2 = false) : (toldF g p t).1 = noC := by
  unfold toldF at h ⊢
  by_cases hm : mayF g p t = false
  · rw [if_pos hm]
  rw [if_neg hm] at h ⊢
  exact attrsF_errI g p t h
theorem first_of {l : List Sg} {own : Nat} (h : ∃ r q, l.map Sg.c = (2, own :: q) :: r) : firstF l = some own := by
  obtain ⟨r, q, h⟩ := h
  rcases l with _ | ⟨⟨k, A, as_, c⟩, l⟩
  · cases h
  · have h1 : (k, as_) = ((2 : Int), own :: q) := (List.cons.inj h).1
    obtain ⟨rfl, rfl⟩ := Prod.mk.inj h1
    rfl

structure SO (w V : World) (s k7 k8 : Nat) (g : Cfg) (p : Pth) (t : Pr) (x : Atr) : Prop where
  bx : Bu w V s g p t
  q7 : CellsAt V k7 g.ar 49
  q8 : CellsAt V k8 x.ar 33
  xo : AtrOk V x
theorem SO.below {w V V' : World} {s k7 k8 : Nat} {g : Cfg} {p : Pth} {t : Pr} {x : Atr} (h : SO w V s k7 k8 g p t x) (hb : Below V.heap.size V V') : SO w V' s k7 k8 g p t x := ⟨h.bx.below hb, h.q7.below hb h.q7.lt, h.q8.below hb h.q8.lt, h.xo.below hb (Nat.le_refl _)⟩
theorem path_small {x : Atr} (h : atOk x.c = true) : (∀ s ∈ x.segs, s.as_.length * 4 ≤ 140737488351232) ∧ x.segs.length * 32 ≤ 140737488351232 := by
  have o3 : pathOk (x.segs.map Sg.c) = true := by
    unfold atOk at h
    simp only [Bool.and_eq_true] at h
    exact h.1.1.1.2
  unfold pathOk at o3
  simp only [Bool.and_eq_true, decide_eq_true_eq] at o3
  refine ⟨fun s hs => ?_, by have := o3.1; rw [List.length_map] at this; omega⟩
  have h2 := (segOk_parts (List.all_eq_true.1 o3.2 s.c (List.mem_map_of_mem hs))).2.2.2
  have h3 : s.as_.length ≤ 255 := h2
  omega
theorem SegsO.oks {W : World} {b n cap : Nat} {A : Option Addr} {segs : List Sg} (h : SegsO W b (.slice A n cap) segs) (hn : segs.length = n) : SegsOk W A cap segs := by
  subst hn
  exact h.ok
theorem plus_ne (n : Nat) (h : n < 4294967296) : ∃ m : Nat, IntKind.u32.wrap ((n : Int) + 1) = (m : Int) ∧ m ≠ n ∧ m < 4294967296 := by
  refine ⟨(n + 1) % 4294967296, ?_, by omega, by omega⟩
  have e : IntKind.u32.wrap ((n : Int) + 1) = ((n : Int) + 1) % 4294967296 := by
    unfold IntKind.wrap
    simp [IntKind.signed, IntKind.bits]
  rw [e]
  omega
set_option maxRecDepth 100000 in
set_option maxHeartbeats 32000000 in
theorem exportoutside_walk (g : Cfg) (p : Pth) (t : Pr) (w : World) (hg : g.Ok) (hp : PthOk w p) (ht : PrOk w t) : Calls Tryz.prog 8 #[.agg g.us, .agg p.ar, .agg t.ar] w fun e w' => e = .returned (.bool true) ∧ Below w.heap.size w w' := by
  have HWK := Lib.hid works_any
  have HCF := Lib.hid (conf_any g)
  have HSZ : Hid (∀ (W : World) (x : Atr), AtrOk W x → x.c = noC → Calls Tryz.prog 25 #[.agg x.ar, .agg noAtr.ar] W fun e w' => e = .returned (.bool true) ∧ Below W.heap.size W w') := fun W x h1 hc => by
    have h := same_any x noAtr W h1 (noAtr_own W 0).ok
    rwa [decide_eq_true (hc.trans noAtr_c.symm)] at h
  have HCK : Hid (∀ (W : World) (x : Atr), AtrOk W x → atOk x.c = true → Calls Tryz.prog 26 #[.agg x.ar] W fun e w' => e = .returned (.int .i64 0) ∧ Below W.heap.size W w') := fun W x h1 hc => by
    have h := check_any x W h1
    rwa [hc] at h
  have HFI : Hid (∀ (W : World) (x : Atr) (own : Nat), AtrOk W x → (∃ r q, x.c.path = (2, own :: q) :: r) → Calls Tryz.prog 27 #[.slice x.pA x.segs.length x.pC] W fun e w' => e = .returned (.tuple #[.int .u32 own, .bool true]) ∧ Below W.heap.size W w') := fun W x own h1 hc => by
    have h := first_any x.pA x.segs x.pC W h1.prd h1.plen h1.pcap h1.segs
    rwa [first_of hc] at h
  have HLE : Hid (∀ (W : World) (x : Atr) (n : Nat), AtrOk W x → nlen x.c.path = n → n ≤ 1000000 → Calls Tryz.prog 28 #[.slice x.pA x.segs.length x.pC] W fun e w' => e = .returned (.int .i64 (n : Int)) ∧ Below W.heap.size W w') := fun W x n h1 hc hn => by
    have h := length_any x.pA x.segs x.pC W h1.prd h1.plen h1.pcap
    rwa [lenF_nlen x.segs (by show nlen x.c.path ≤ _; omega), show nlen (x.segs.map Sg.c) = n from hc] at h
  have HBA : Hid (∀ (W : World) (x : Atr), AtrOk W x → atOk x.c = true → bareF x.c.path = x.c.path → Calls Tryz.prog 29 #[.slice x.pA x.segs.length x.pC] W fun e w' => ∃ A n cap segs, e = .returned (.slice A n cap) ∧ segs.length = n ∧ segs.map Sg.c = x.segs.map Sg.c ∧ SegsO w' W.heap.size (.slice A n cap) segs ∧ Below W.heap.size W w') := fun W x h1 h2 h3 => by
    have h := bare_any x.pA x.pC x.segs W h1.path (path_small h2).1 (path_small h2).2
    rw [show bareF (x.segs.map Sg.c) = x.segs.map Sg.c from h3] at h
    exact h
  have HPS : Hid (∀ (W : World) (x : Atr) (A : Option Addr) (n cap b : Nat) (segs : List Sg), AtrOk W x → SegsO W b (.slice A n cap) segs → segs.length = n → segs.map Sg.c = x.segs.map Sg.c → Calls Tryz.prog 24 #[.slice A n cap, .slice x.pA x.segs.length x.pC] W fun e w' => e = .returned (.bool true) ∧ Below W.heap.size W w') := fun W x A n cap b segs h1 h2 h3 h4 => by
    have h := psame_any A x.pA cap x.pC segs x.segs W (h2.oks h3) h1.path
    rwa [decide_eq_true h4, h3] at h
  have hpl := hp.a.plen
  have hpc : p.a.pC ≤ 9223372036854775807 := hp.a.pcap
  have HP := Lib.hid hp
  have HT := Lib.hid ht
  have HGO := Lib.hid hg
  have HPN := Lib.hid (plus_ne g.as_ hg.as_)
  have HTO : Hid (∀ (W : World) (t : Pr), PthOk W p → PrOk W t → Calls Tryz.prog 17 #[.agg g.ar, .agg p.ar, .agg t.ar] W (ToldP W (toldF g p t))) := fun W t h1 h2 => told_any g p t W hg h1 h2
  have HNE : Hid (∀ (W : World) (t : Pr), Calls Tryz.prog 18 #[.agg g.ar, .agg p.ar, .agg t.ar] W fun e w' => e = .returned (.string (nextF g p t)) ∧ Below W.heap.size W w') := fun W t => next_any g p t W
  clear hg hp ht
  go_enter Tryz.func8, Tryz.ntmps8
  go_upto_region 1 with fail
  refine rb_name fun V0 hV0 => ?_
  have hbx := Bu.start w g p t
  obtain ⟨s, hs⟩ : ∃ s, s = w.heap.size := ⟨_, rfl⟩
  have HB0 : Hid (Bu w V0 s g p t) := by rw [hV0, hs]; exact hbx
  have HS : Hid (s = w.heap.size) := hs
  rw [← hs]
  clear hV0 hbx hs
  go_wp2_with fail
  refine (HWK.out _).mono ?_
  rintro e w1 ⟨rfl, hb⟩
  have HB1 : Hid (Bu w w1 s g p t) := HB0.out.below hb
  clear hb HB0
  go_wp2_with (with_reducible show wpList _ _ _ (_ :: _) _ _; refine wpList_load_row (by kernel_rfl) 24 (.tmp 3) rfl s 0 rfl g.us (whole_range HB1.out.c) usS 5 usZ rfl ?_)
  refine (HCF.out _).mono ?_
  rintro e w2 ⟨rfl, hb⟩
  have HB2 : Hid (Bu w w2 s g p t) := HB1.out.below hb
  clear hb HB1
  go_upto_region 4 with (with_reducible show wpList _ _ _ (_ :: _) _ _; refine wpList_new_row rfl _ (.tmp 7) (.tmp 16) rfl rfl g.ar rfl 13 confZ rfl rfl (cfg_ones g) ?_)
  intro V3 HK7 HB3
  obtain ⟨k7, hk7⟩ : ∃ k, k = w2.heap.size := ⟨_, rfl⟩
  rw [← hk7] at HK7
  have L7 : Hid (s + 1 + 1 < k7) := by rw [hk7]; exact HB2.out.sz
  have HB4 : Hid (Bu w V3 s g p t) := HB2.out.below HB3.out
  rw [← hk7]
  clear hk7 HB2 HB3
  have c1 : V3.cell? ⟨s, 0, none⟩ = some (.int .u32 (g.as_ : Nat)) := (HB4.out.c.c 0).trans rfl
  have c2 : V3.cell? ⟨s + 1 + 1, 6, none⟩ = some (.int .u32 (t.as_ : Nat)) := (HB4.out.t.c 6).trans rfl
  have c3 : V3.frozen? ⟨s + 1 + 1, 6, none⟩ = false := HB4.out.t.unfrozen 6
  obtain ⟨m, hm1, hm2, hm3⟩ := HPN.out
  have HM2 := Lib.hid hm2
  have HM3 := Lib.hid hm3
  clear hm2 hm3 HPN
  go_upto_if 21 with fail
  go_cut [] (fun wx => ∃ t1 : Pr, t1.as_ ≠ g.as_ ∧ PrOk w t1 ∧ Hid (Bu w wx s g p t1) ∧ Hid (CellsAt wx k7 g.ar 49))
  case first =>
    by_cases h : t.as_ = g.as_
    · have e1 : ((t.as_ : Int) == (g.as_ : Int)) = true := beq_iff_eq.2 (by rw [h])
      have e2 : (t.as_ : Int) = (g.as_ : Int) := by rw [h]
      have HH : Hid (t.as_ = g.as_) := h
      clear h
      go_wp2_with fail
      go_meet
      exact ⟨{ t with as_ := m }, HM2.out, { HT.out with as_ := HM3.out }, HB4.out.setT _ _ _ rfl, HK7.out.setX (Nat.ne_of_gt L7.out) _⟩
    · have e1 : ((t.as_ : Int) == (g.as_ : Int)) = false := beq_eq_false_iff_ne.2 (by omega)
      have e2 : ¬ (t.as_ : Int) = (g.as_ : Int) := by omega
      have HH : Hid (t.as_ ≠ g.as_) := h
      clear h
      go_wp2_with fail
      go_meet
      exact ⟨t, HH.out, HT.out, HB4.out, HK7.out⟩
  case rest =>
  clear c1 c2 c3 hm1 HM2 HM3 HB4 HK7
  obtain ⟨t1, hne, hok1, HB5, HC5⟩ := hcut
  obtain ⟨t2, ht2⟩ : ∃ x : Pr, x = { t1 with confed := false } := ⟨_, rfl⟩
  have e2 : Hid (t1.ar.setIfInBounds 11 (.bool false) = t2.ar) := by rw [ht2]; rfl
  have HT2 : Hid (PrOk w t2) := by rw [ht2]; exact { hok1 with as_ := hok1.as_ }
  have HNE2 : Hid (t2.as_ ≠ g.as_) := by rw [ht2]; exact hne
  have HCN : Hid (t2.confed = false) := by rw [ht2]; rfl
  clear ht2 hne hok1
  have c2 : wc.cell? ⟨s + 1 + 1, 11, none⟩ = some (.bool t1.confed) := (HB5.out.t.c 11).trans rfl
  have c3 : wc.frozen? ⟨s + 1 + 1, 11, none⟩ = false := HB5.out.t.unfrozen 11
  go_upto_region 7 with fail
  refine rb_name fun V6 hV6 => ?_
  have HB6 : Hid (Bu w V6 s g p t2) := by rw [hV6]; exact HB5.out.setT _ _ t2 e2.out
  have HC6 : Hid (CellsAt V6 k7 g.ar 49) := by rw [hV6]; exact HC5.out.setX (Nat.ne_of_gt L7.out) _
  clear hV6 c2 c3 HB5 HC5
  go_wp2_with (with_reducible show wpList _ _ _ (_ :: _) _ _; first | refine wpList_load_conf (by kernel_rfl) (.tmp 7) rfl k7 rfl g (Lib.hid HC6.out) ?_ | refine wpList_load_path (by kernel_rfl) (.tmp 4) rfl (s + 1) rfl p (Lib.hid HB6.out.p) ?_ | refine wpList_load_peer (by kernel_rfl) (.tmp 5) rfl (s + 1 + 1) rfl t2 (Lib.hid HB6.out.t) ?_)
  refine (HTO.out _ t2 (HP.out.below HB6.out.b (Nat.le_refl _)) (HT2.out.below HB6.out.b (Nat.le_refl _))).mono ?_
  rintro e w8 ⟨x, rfl, ho, hc, hb⟩
  have HXO : Hid (AtrOk w8 x) := ho.ok
  have HXC := Lib.hid hc
  have HB8 : Hid (Bu w w8 s g p t2) := HB6.out.below hb
  have HC8 : Hid (CellsAt w8 k7 g.ar 49) := HC6.out.below hb HC6.out.lt
  have HQF : Hid (∀ q, (toldF g p t2).2 = q → q = (toldF g p t2).2) := fun q h => h.symm
  obtain ⟨q, hq⟩ : ∃ q, q = (toldF g p t2).2 := ⟨_, rfl⟩
  rw [← hq]
  have HQ := Lib.hid hq
  clear ho hc hb hq HQF HB6 HC6
  go_upto_region 8 with (with_reducible show wpList _ _ _ (_ :: _) _ _; refine wpList_new_row rfl _ (.tmp 8) (.tmp 32) rfl rfl x.ar rfl 16 atZ rfl rfl (attrs_ones x) ?_)
  intro V9 HK8 HB
  obtain ⟨k8, hk8⟩ : ∃ k, k = w8.heap.size := ⟨_, rfl⟩
  rw [← hk8] at HK8
  have HSO : Hid (SO w V9 s k7 k8 g p t2 x) := ⟨HB8.out.below HB.out, HC8.out.below HB.out HC8.out.lt, HK8.out, HXO.out.below HB.out (Nat.le_refl _)⟩
  rw [← hk8]
  clear hk8 HB HB8 HC8 HXO HK8
  cases q with
  | false =>
    have HNO : Hid (x.c = noC) := HXC.out.trans (told_no g p t2 HQ.out.symm)
    go_wp2_with (with_reducible show wpList _ _ _ (_ :: _) _ _; refine wpList_load_attrs (by kernel_rfl) (.tmp 8) rfl k8 rfl x HSO.out.q8 ?_)
    refine (HSZ.out _ x HSO.out.xo HNO.out).mono ?_
    rintro e wA ⟨rfl, hb⟩
    have HBA := HSO.out.below hb
    clear hb
    go_wp2_with fail
    go_ret
    exact ⟨rfl, HBA.bx.b⟩
  | true =>
  have HOF : Hid (OutC g p (nextF g p t2) x.c) := by show OutC g p (nextF g p t2) x.c; rw [HXC.out]; exact outside_facts g p t2 HNE2.out HCN.out HQ.out.symm
  obtain ⟨own, hown⟩ : ∃ n, n = if 0 < g.confed then g.confed else g.as_ := ⟨_, rfl⟩
  have HHEAD : Hid (∃ r q, x.c.path = (2, own :: q) :: r) := by show ∃ r q, x.c.path = (2, own :: q) :: r; rw [hown]; exact HOF.out.head
  have HOWN := Lib.hid hown
  obtain ⟨N, hN⟩ : ∃ n, n = nextF g p t2 := ⟨_, rfl⟩
  have HNX : Hid (∀ W : World, Calls Tryz.prog 18 #[.agg g.ar, .agg p.ar, .agg t2.ar] W fun e w' => e = .returned (.string N) ∧ Below W.heap.size W w') := fun W => by rw [hN]; exact HNE.out W t2
  have HXN : Hid (x.next = N) := by rw [hN]; exact HOF.out.next
  clear hown hN
  have u0 : V9.cell? ⟨s, 0, none⟩ = some (.int .u32 (g.as_ : Nat)) := (HSO.out.bx.c.c 0).trans rfl
  have u2 : V9.cell? ⟨s, 2, none⟩ = some (.int .u32 (g.confed : Nat)) := (HSO.out.bx.c.c 2).trans rfl
  go_upto_if 43 with fail
  go_cut [10] (fun v wx => v = .int .u32 (own : Nat) ∧ wx = V9)
  case first =>
    by_cases h : 0 < g.confed
    · have d1 : decide ((0 : Int) < (g.confed : Int)) = true := decide_eq_true (by omega)
      have d2 : (0 : Int) < (g.confed : Int) := by omega
      obtain rfl : own = g.confed := HOWN.out.trans (if_pos h)
      clear h
      go_wp2_with fail
      go_meet
      exact ⟨rfl, rfl⟩
    · have d1 : decide ((0 : Int) < (g.confed : Int)) = false := decide_eq_false (by omega)
      have d2 : ¬ (0 : Int) < (g.confed : Int) := by omega
      obtain rfl : own = g.as_ := HOWN.out.trans (if_neg h)
      clear h
      go_wp2_with fail
      go_meet
      exact ⟨rfl, rfl⟩
  case rest =>
  obtain ⟨rfl, hwc⟩ := hcut
  clear u0 u2
  subst hwc
  obtain ⟨VV, hwc⟩ : ∃ x, x = wc := ⟨_, rfl⟩
  subst hwc
  have b1 : VV.cell? ⟨k8, 1, none⟩ = some (.slice x.pA x.segs.length x.pC) := (HSO.out.q8.c 1).trans rfl
  go_wp2_with fail
  refine (HFI.out _ x own HSO.out.xo HHEAD.out).mono ?_
  rintro e wA ⟨rfl, hb⟩
  have HSA : Hid (SO w wA s k7 k8 g p t2 x) := HSO.out.below hb
  clear hb HSO b1
  obtain ⟨nP, hnP⟩ : ∃ n, n = nlen p.a.c.path := ⟨_, rfl⟩
  have HNP : Hid (nlen p.a.c.path = nP) := hnP.symm
  have HNX1 : Hid (nlen x.c.path = nP + 1) := by show _ = _; rw [hnP]; exact HOF.out.len
  have hsmall : nP ≤ 4080 := by rw [hnP]; exact HOF.out.small
  clear hnP
  have HLX : Hid (∀ W : World, AtrOk W x → Calls Tryz.prog 28 #[.slice x.pA x.segs.length x.pC] W fun e w' => e = .returned (.int .i64 ((nP : Int) + 1)) ∧ Below W.heap.size W w') := fun W h => by
    have h2 := HLE.out W x (nP + 1) h HNX1.out (by omega)
    rwa [show ((nP + 1 : Nat) : Int) = (nP : Int) + 1 from by omega] at h2
  have hwr : IntKind.i64.wrap ((nP : Int) + 1) = (nP : Int) + 1 := by
    have e : IntKind.i64.wrap ((nP : Int) + 1) = wrap64 ((nP : Int) + 1) := by
      unfold IntKind.wrap wrap64
      simp [IntKind.signed, IntKind.bits]
      split <;> omega
    rw [e]
    unfold wrap64
    omega
  have hnn : (((nP : Int) + 1) != ((nP : Int) + 1)) = false := by simp
  go_upto_region 14 with fail
  refine wp_region_held_drew (S := fun w' => SO w w' s k7 k8 g p t2 x) (by kernel_rfl) (HSA.out.below (below_drewN (Below.refl _ _) 1)) (fun hHeld => ?_)
  refine wpAnyH_take (i := 0) (oi := { dst := some 52, op := Op.move (Operand.tmp 12), type := 4, pos := "outright.go:77", after := #[], guard := none }) (v := ?_) rfl (by kernel_rfl) (by kernel_rfl) (by kernel_rfl) (fun _ _ _ h => h) (Or.inl ⟨by rfl, ?_⟩) hHeld ?_
  rotate_left
  · intro w hSw
    clear hSw
    go_simp
    try with_reducible rfl
  try simp only [Act.put, List.setIfInBounds_toArray, List.set_cons_zero, List.set_cons_succ]
  refine wpAnyH_take (i := 1) (oi := { dst := some 53, op := Op.unOp UnOp.not 4 (Operand.tmp 52), type := 4, pos := "outright.go:77", after := #[{ on := 0, ground := Ground.data }], guard := none }) (v := ?_) rfl (by kernel_rfl) (by kernel_rfl) (by kernel_rfl) (fun _ _ _ h => h) (Or.inl ⟨by rfl, ?_⟩) hHeld ?_
  rotate_left
  · intro w hSw
    clear hSw
    go_simp
    try with_reducible rfl
  try simp only [Act.put, List.setIfInBounds_toArray, List.set_cons_zero, List.set_cons_succ]
  refine wpAnyH_take (i := 2) (oi := { dst := some 54, op := Op.move (Operand.tmp 53), type := 4, pos := "outright.go:77", after := #[{ on := 1, ground := Ground.data }], guard := none }) (v := ?_) rfl (by kernel_rfl) (by kernel_rfl) (by kernel_rfl) (fun _ _ _ h => h) (Or.inl ⟨by rfl, ?_⟩) hHeld ?_
  rotate_left
  · intro w hSw
    clear hSw
    go_simp
    try with_reducible rfl
  try simp only [Act.put, List.setIfInBounds_toArray, List.set_cons_zero, List.set_cons_succ]
  refine wpAnyH_take (i := 3) (oi := { dst := some 55, op := Op.move (Operand.tmp 11), type := 22, pos := "outright.go:77", after := #[{ on := 2, ground := Ground.guard }], guard := some (2, false) }) (v := ?_) rfl (by kernel_rfl) (by kernel_rfl) (by kernel_rfl) (fun _ _ _ h => h) (Or.inl ⟨by rfl, ?_⟩) hHeld ?_
  rotate_left
  · intro w hSw
    clear hSw
    go_simp
    try with_reducible rfl
  try simp only [Act.put, List.setIfInBounds_toArray, List.set_cons_zero, List.set_cons_succ]
  refine wpAnyH_take (i := 4) (oi := { dst := some 56, op := Op.move (Operand.tmp 10), type := 22, pos := "outright.go:77", after := #[{ on := 2, ground := Ground.guard }], guard := some (2, false) }) (v := ?_) rfl (by kernel_rfl) (by kernel_rfl) (by kernel_rfl) (fun _ _ _ h => h) (Or.inl ⟨by rfl, ?_⟩) hHeld ?_
  rotate_left
  · intro w hSw
    clear hSw
    go_simp
    try with_reducible rfl
  try simp only [Act.put, List.setIfInBounds_toArray, List.set_cons_zero, List.set_cons_succ]
  refine wpAnyH_take (i := 5) (oi := { dst := some 57, op := Op.binOp BinOp.neq 22 (Operand.tmp 55) (Operand.tmp 56) 22, type := 4, pos := "outright.go:77", after := #[{ on := 3, ground := Ground.data }, { on := 4, ground := Ground.data }, { on := 2, ground := Ground.guard }], guard := some (2, false) }) (v := ?_) rfl (by kernel_rfl) (by kernel_rfl) (by kernel_rfl) (fun _ _ _ h => h) (Or.inl ⟨by rfl, ?_⟩) hHeld ?_
  rotate_left
  · intro w hSw
    clear hSw
    go_simp
    try with_reducible rfl
  try simp only [Act.put, List.setIfInBounds_toArray, List.set_cons_zero, List.set_cons_succ]
  refine wpAnyH_take (i := 6) (oi := { dst := some 58, op := Op.pick (Operand.tmp 54) (Operand.const (Value.bool true)) (Operand.tmp 57), type := 4, pos := "outright.go:77", after := #[{ on := 2, ground := Ground.data }, { on := 5, ground := Ground.data }], guard := none }) (v := ?_) rfl (by kernel_rfl) (by kernel_rfl) (by kernel_rfl) (fun _ _ _ h => h) (Or.inl ⟨by rfl, ?_⟩) hHeld ?_
  rotate_left
  · intro w hSw
    clear hSw
    go_simp
    try with_reducible rfl
  try simp only [Act.put, List.setIfInBounds_toArray, List.set_cons_zero, List.set_cons_succ]
  refine wpAnyH_take (i := 7) (oi := { dst := some 59, op := Op.move (Operand.tmp 58), type := 4, pos := "outright.go:77", after := #[{ on := 6, ground := Ground.data }, { on := 2, ground := Ground.chain }], guard := none }) (v := ?_) rfl (by kernel_rfl) (by kernel_rfl) (by kernel_rfl) (fun _ _ _ h => h) (Or.inl ⟨by rfl, ?_⟩) hHeld ?_
  rotate_left
  · intro w hSw
    clear hSw
    go_simp
    try with_reducible rfl
  try simp only [Act.put, List.setIfInBounds_toArray, List.set_cons_zero, List.set_cons_succ]
  refine wpAnyH_take (i := 8) (oi := { dst := some 60, op := Op.fieldAddr 33 (Operand.tmp 8) 1, type := 0, pos := "outright.go:77", after := #[{ on := 7, ground := Ground.guard }], guard := some (7, false) }) (v := ?_) rfl (by kernel_rfl) (by kernel_rfl) (by kernel_rfl) (fun _ _ _ h => h) (Or.inl ⟨by rfl, ?_⟩) hHeld ?_
  rotate_left
  · intro w hSw
    clear hSw
    go_simp
    try with_reducible rfl
  try simp only [Act.put, List.setIfInBounds_toArray, List.set_cons_zero, List.set_cons_succ]
  refine wpAnyH_take (i := 9) (oi := { dst := some 61, op := Op.load 28 (Operand.tmp 60), type := 28, pos := "outright.go:77", after := #[{ on := 8, ground := Ground.data }, { on := 7, ground := Ground.guard }], guard := some (7, false) }) (v := ?_) rfl (by kernel_rfl) (by kernel_rfl) (by kernel_rfl) (fun _ _ _ h => h) (Or.inl ⟨by rfl, ?_⟩) hHeld ?_
  rotate_left
  · intro w hSw
    have b1 : w.cell? ⟨k8, 1, none⟩ = some (.slice x.pA x.segs.length x.pC) := (hSw.q8.c 1).trans rfl
    have b7 : w.cell? ⟨s + 1, 7, none⟩ = some (.slice p.a.pA p.a.segs.length p.a.pC) := (hSw.bx.p.c 7).trans rfl
    go_simp
    try with_reducible rfl
  try simp only [Act.put, List.setIfInBounds_toArray, List.set_cons_zero, List.set_cons_succ]
  refine wpAnyH_take (i := 11) (oi := { dst := some 63, op := Op.fieldAddr 37 (Operand.tmp 4) 3, type := 0, pos := "outright.go:77", after := #[{ on := 7, ground := Ground.guard }], guard := some (7, false) }) (v := ?_) rfl (by kernel_rfl) (by kernel_rfl) (by kernel_rfl) (fun _ _ _ h => h) (Or.inl ⟨by rfl, ?_⟩) hHeld ?_
  rotate_left
  · intro w hSw
    clear hSw
    go_simp
    try with_reducible rfl
  try simp only [Act.put, List.setIfInBounds_toArray, List.set_cons_zero, List.set_cons_succ]
  refine wpAnyH_take (i := 12) (oi := { dst := some 64, op := Op.fieldAddr 33 (Operand.tmp 63) 1, type := 0, pos := "outright.go:77", after := #[{ on := 11, ground := Ground.data }, { on := 7, ground := Ground.guard }], guard := some (7, false) }) (v := ?_) rfl (by kernel_rfl) (by kernel_rfl) (by kernel_rfl) (fun _ _ _ h => h) (Or.inl ⟨by rfl, ?_⟩) hHeld ?_
  rotate_left
  · intro w hSw
    clear hSw
    go_simp
    try with_reducible rfl
  try simp only [Act.put, List.setIfInBounds_toArray, List.set_cons_zero, List.set_cons_succ]
  refine wpAnyH_take (i := 13) (oi := { dst := some 65, op := Op.load 28 (Operand.tmp 64), type := 28, pos := "outright.go:77", after := #[{ on := 12, ground := Ground.data }, { on := 7, ground := Ground.guard }], guard := some (7, false) }) (v := ?_) rfl (by kernel_rfl) (by kernel_rfl) (by kernel_rfl) (fun _ _ _ h => h) (Or.inl ⟨by rfl, ?_⟩) hHeld ?_
  rotate_left
  · intro w hSw
    have b1 : w.cell? ⟨k8, 1, none⟩ = some (.slice x.pA x.segs.length x.pC) := (hSw.q8.c 1).trans rfl
    have b7 : w.cell? ⟨s + 1, 7, none⟩ = some (.slice p.a.pA p.a.segs.length p.a.pC) := (hSw.bx.p.c 7).trans rfl
    go_simp
    try with_reducible rfl
  try simp only [Act.put, List.setIfInBounds_toArray, List.set_cons_zero, List.set_cons_succ]
  refine wpAnyH_ready (rs := [10]) (by kernel_rfl) (by simp) ?_
  refine AllReadyH.cons (o := { dst := some 62, op := Op.call { callee := Callee.value (Operand.func 28), args := #[Operand.tmp 61], argTypes := #[28] }, type := 3, pos := "outright.go:77", after := #[{ on := 9, ground := Ground.data }, { on := 7, ground := Ground.chain }, { on := 7, ground := Ground.guard }], guard := some (7, false) }) rfl (fun K hK => ?_) AllReadyH.nil
  go_simp
  refine (HLX.out _ hHeld.xo).mono ?_
  rintro e wB ⟨rfl, hb1⟩
  have HS1 := Lib.hid hHeld
  refine hK.out _ _ (HS1.out.below hb1) (fun hHeld => ?_)
  clear hK K
  try simp only [Act.put, List.setIfInBounds_toArray, List.set_cons_zero, List.set_cons_succ]
  refine wpAnyH_ready (rs := [14]) (by kernel_rfl) (by simp) ?_
  refine AllReadyH.cons (o := { dst := some 66, op := Op.call { callee := Callee.value (Operand.func 28), args := #[Operand.tmp 65], argTypes := #[28] }, type := 3, pos := "outright.go:77", after := #[{ on := 13, ground := Ground.data }, { on := 10, ground := Ground.chain }, { on := 7, ground := Ground.guard }], guard := some (7, false) }) rfl (fun K hK => ?_) AllReadyH.nil
  go_simp
  refine (HLE.out _ p.a nP (HP.out.a.below hHeld.bx.b (Nat.le_refl _)) HNP.out (by omega)).mono ?_
  rintro e wC ⟨rfl, hb2⟩
  have HS2 := Lib.hid hHeld
  refine hK.out _ _ (HS2.out.below hb2) (fun hHeld => ?_)
  clear hK K
  try simp only [Act.put, List.setIfInBounds_toArray, List.set_cons_zero, List.set_cons_succ]
  refine wpAnyH_take (i := 15) (oi := { dst := some 67, op := Op.binOp BinOp.add 3 (Operand.tmp 66) (Operand.const (Value.int IntKind.i64 1)) 3, type := 3, pos := "outright.go:77", after := #[{ on := 14, ground := Ground.data }, { on := 7, ground := Ground.guard }], guard := some (7, false) }) (v := ?_) rfl (by kernel_rfl) (by kernel_rfl) (by kernel_rfl) (fun _ _ _ h => h) (Or.inl ⟨by rfl, ?_⟩) hHeld ?_
  rotate_left
  · intro w hSw
    clear hSw
    go_simp
    try with_reducible rfl
  try simp only [Act.put, List.setIfInBounds_toArray, List.set_cons_zero, List.set_cons_succ]
  refine wpAnyH_take (i := 16) (oi := { dst := some 68, op := Op.binOp BinOp.neq 3 (Operand.tmp 62) (Operand.tmp 67) 3, type := 4, pos := "outright.go:77", after := #[{ on := 10, ground := Ground.data }, { on := 15, ground := Ground.data }, { on := 7, ground := Ground.guard }], guard := some (7, false) }) (v := ?_) rfl (by kernel_rfl) (by kernel_rfl) (by kernel_rfl) (fun _ _ _ h => h) (Or.inl ⟨by rfl, ?_⟩) hHeld ?_
  rotate_left
  · intro w hSw
    clear hSw
    go_simp
    try with_reducible rfl
  try simp only [Act.put, List.setIfInBounds_toArray, List.set_cons_zero, List.set_cons_succ]
  refine wpAnyH_take (i := 17) (oi := { dst := some 69, op := Op.pick (Operand.tmp 59) (Operand.const (Value.bool true)) (Operand.tmp 68), type := 4, pos := "outright.go:77", after := #[{ on := 7, ground := Ground.data }, { on := 16, ground := Ground.data }], guard := none }) (v := ?_) rfl (by kernel_rfl) (by kernel_rfl) (by kernel_rfl) (fun _ _ _ h => h) (Or.inl ⟨by rfl, ?_⟩) hHeld ?_
  rotate_left
  · intro w hSw
    clear hSw
    go_simp
    try with_reducible rfl
  try simp only [Act.put, List.setIfInBounds_toArray, List.set_cons_zero, List.set_cons_succ]
  refine wpAnyH_take (i := 18) (oi := { dst := some 70, op := Op.move (Operand.tmp 69), type := 4, pos := "outright.go:77", after := #[{ on := 17, ground := Ground.data }, { on := 14, ground := Ground.chain }], guard := none }) (v := ?_) rfl (by kernel_rfl) (by kernel_rfl) (by kernel_rfl) (fun _ _ _ h => h) (Or.inl ⟨by rfl, ?_⟩) hHeld ?_
  rotate_left
  · intro w hSw
    clear hSw
    go_simp
    try with_reducible rfl
  try simp only [Act.put, List.setIfInBounds_toArray, List.set_cons_zero, List.set_cons_succ]
  refine wpAnyH_take (i := 19) (oi := { dst := some 71, op := Op.fieldAddr 33 (Operand.tmp 8) 1, type := 0, pos := "outright.go:77", after := #[{ on := 18, ground := Ground.guard }], guard := some (18, false) }) (v := ?_) rfl (by kernel_rfl) (by kernel_rfl) (by kernel_rfl) (fun _ _ _ h => h) (Or.inl ⟨by rfl, ?_⟩) hHeld ?_
  rotate_left
  · intro w hSw
    clear hSw
    go_simp
    try with_reducible rfl
  try simp only [Act.put, List.setIfInBounds_toArray, List.set_cons_zero, List.set_cons_succ]
  refine wpAnyH_take (i := 20) (oi := { dst := some 72, op := Op.load 28 (Operand.tmp 71), type := 28, pos := "outright.go:77", after := #[{ on := 19, ground := Ground.data }, { on := 18, ground := Ground.guard }], guard := some (18, false) }) (v := ?_) rfl (by kernel_rfl) (by kernel_rfl) (by kernel_rfl) (fun _ _ _ h => h) (Or.inl ⟨by rfl, ?_⟩) hHeld ?_
  rotate_left
  · intro w hSw
    have b1 : w.cell? ⟨k8, 1, none⟩ = some (.slice x.pA x.segs.length x.pC) := (hSw.q8.c 1).trans rfl
    have b7 : w.cell? ⟨s + 1, 7, none⟩ = some (.slice p.a.pA p.a.segs.length p.a.pC) := (hSw.bx.p.c 7).trans rfl
    go_simp
    try with_reducible rfl
  try simp only [Act.put, List.setIfInBounds_toArray, List.set_cons_zero, List.set_cons_succ]
  refine wpAnyH_take (i := 22) (oi := { dst := some 74, op := Op.fieldAddr 33 (Operand.tmp 8) 1, type := 0, pos := "outright.go:77", after := #[{ on := 18, ground := Ground.guard }], guard := some (18, false) }) (v := ?_) rfl (by kernel_rfl) (by kernel_rfl) (by kernel_rfl) (fun _ _ _ h => h) (Or.inl ⟨by rfl, ?_⟩) hHeld ?_
  rotate_left
  · intro w hSw
    clear hSw
    go_simp
    try with_reducible rfl
  try simp only [Act.put, List.setIfInBounds_toArray, List.set_cons_zero, List.set_cons_succ]
  refine wpAnyH_take (i := 23) (oi := { dst := some 75, op := Op.load 28 (Operand.tmp 74), type := 28, pos := "outright.go:77", after := #[{ on := 22, ground := Ground.data }, { on := 18, ground := Ground.guard }], guard := some (18, false) }) (v := ?_) rfl (by kernel_rfl) (by kernel_rfl) (by kernel_rfl) (fun _ _ _ h => h) (Or.inl ⟨by rfl, ?_⟩) hHeld ?_
  rotate_left
  · intro w hSw
    have b1 : w.cell? ⟨k8, 1, none⟩ = some (.slice x.pA x.segs.length x.pC) := (hSw.q8.c 1).trans rfl
    have b7 : w.cell? ⟨s + 1, 7, none⟩ = some (.slice p.a.pA p.a.segs.length p.a.pC) := (hSw.bx.p.c 7).trans rfl
    go_simp
    try with_reducible rfl
  try simp only [Act.put, List.setIfInBounds_toArray, List.set_cons_zero, List.set_cons_succ]
  refine wpAnyH_ready (rs := [21]) (by kernel_rfl) (by simp) ?_
  refine AllReadyH.cons (o := { dst := some 73, op := Op.call { callee := Callee.value (Operand.func 29), args := #[Operand.tmp 72], argTypes := #[28] }, type := 28, pos := "outright.go:77", after := #[{ on := 20, ground := Ground.data }, { on := 18, ground := Ground.chain }, { on := 18, ground := Ground.guard }], guard := some (18, false) }) rfl (fun K hK => ?_) AllReadyH.nil
  go_simp
  refine (HBA.out _ x hHeld.xo HOF.out.ok HOF.out.bare).mono ?_
  rintro e wD ⟨A9, n9, c9, segs9, rfl, hl9, hm9, ho9, hb3⟩
  have HS3 := Lib.hid hHeld
  have HL9 := Lib.hid hl9
  have HM9 := Lib.hid hm9
  have HO9 := Lib.hid ho9
  clear hl9 hm9 ho9
  refine hK.out _ _ (HS3.out.below hb3) (fun hHeld => ?_)
  clear hK K
  try simp only [Act.put, List.setIfInBounds_toArray, List.set_cons_zero, List.set_cons_succ]
  refine wpAnyH_ready (rs := [24]) (by kernel_rfl) (by simp) ?_
  refine AllReadyH.cons (o := { dst := some 76, op := Op.call { callee := Callee.value (Operand.func 24), args := #[Operand.tmp 73, Operand.tmp 75], argTypes := #[28, 28] }, type := 4, pos := "outright.go:77", after := #[{ on := 21, ground := Ground.data }, { on := 23, ground := Ground.data }, { on := 21, ground := Ground.chain }, { on := 18, ground := Ground.guard }], guard := some (18, false) }) rfl (fun K hK => ?_) AllReadyH.nil
  go_simp
  refine (HPS.out _ x A9 n9 c9 _ segs9 hHeld.xo HO9.out HL9.out HM9.out).mono ?_
  rintro e wE ⟨rfl, hb4⟩
  have HS4 := Lib.hid hHeld
  refine hK.out _ _ (HS4.out.below hb4) (fun hHeld => ?_)
  clear hK K
  try simp only [Act.put, List.setIfInBounds_toArray, List.set_cons_zero, List.set_cons_succ]
  refine wpAnyH_take (i := 25) (oi := { dst := some 77, op := Op.unOp UnOp.not 4 (Operand.tmp 76), type := 4, pos := "outright.go:77", after := #[{ on := 24, ground := Ground.data }, { on := 18, ground := Ground.guard }], guard := some (18, false) }) (v := ?_) rfl (by kernel_rfl) (by kernel_rfl) (by kernel_rfl) (fun _ _ _ h => h) (Or.inl ⟨by rfl, ?_⟩) hHeld ?_
  rotate_left
  · intro w hSw
    clear hSw
    go_simp
    try with_reducible rfl
  try simp only [Act.put, List.setIfInBounds_toArray, List.set_cons_zero, List.set_cons_succ]
  refine wpAnyH_take (i := 26) (oi := { dst := some 78, op := Op.pick (Operand.tmp 70) (Operand.const (Value.bool true)) (Operand.tmp 77), type := 4, pos := "outright.go:77", after := #[{ on := 18, ground := Ground.data }, { on := 25, ground := Ground.data }], guard := none }) (v := ?_) rfl (by kernel_rfl) (by kernel_rfl) (by kernel_rfl) (fun _ _ _ h => h) (Or.inl ⟨by rfl, ?_⟩) hHeld ?_
  rotate_left
  · intro w hSw
    clear hSw
    go_simp
    try with_reducible rfl
  try simp only [Act.put, List.setIfInBounds_toArray, List.set_cons_zero, List.set_cons_succ]
  refine wpAnyH_done (by kernel_rfl) ?_ _
  have HSE := Lib.hid hHeld
  clear hHeld
  obtain ⟨hme, hhme⟩ : ∃ b, b = x.hasMed := ⟨_, rfl⟩
  have HHM : Hid (x.hasMed = hme) := hhme.symm
  have HKM : Hid (hme = true → p.kind = 1) := fun h => by
    by_cases hk : p.kind = 1
    · exact hk
    · have := HOF.out.med hk
      rw [show x.c.hasMed = x.hasMed from rfl, ← hhme, h] at this
      cases this
  have HXP : Hid (x.hasPref = false) := HOF.out.hasPref
  have HXR : Hid (x.hasOrig = false) := HOF.out.hasOrig
  have HXK : Hid (x.clus = []) := HOF.out.clus
  clear hhme
  go_upto_region 16 with fail
  cases hme with
  | false =>
    refine wp_region_held_drew (S := fun w' => SO w w' s k7 k8 g p t2 x) (by kernel_rfl) (HSE.out.below (below_drewN (Below.refl _ _) 1)) (fun hHeld => ?_)
    refine wpAnyH_take (i := 0) (oi := { dst := some 79, op := Op.load 33 (Operand.tmp 8), type := 33, pos := "outright.go:80", after := #[], guard := none }) (v := .agg x.ar) rfl (by kernel_rfl) (by kernel_rfl) (by kernel_rfl) (fun _ _ _ h => h) (yields_row (by rfl) _ _ rfl k8 0 (by rfl) x.ar atS 16 atZ rfl (fun w h => whole_range h.q8)) hHeld ?_
    try simp only [Act.put, List.setIfInBounds_toArray, List.set_cons_zero, List.set_cons_succ]
    refine wpAnyH_ready (rs := [1]) (by kernel_rfl) (by simp) ?_
    refine AllReadyH.cons (o := { dst := some 80, op := Op.call { callee := Callee.value (Operand.func 26), args := #[Operand.tmp 79], argTypes := #[33] }, type := 54, pos := "outright.go:80", after := #[{ on := 0, ground := Ground.data }], guard := none }) rfl (fun K hK => ?_) AllReadyH.nil
    go_simp
    refine (HCK.out _ x hHeld.xo HOF.out.ok).mono ?_
    rintro e wF ⟨rfl, hb5⟩
    have HS5 := Lib.hid hHeld
    refine hK.out _ _ (HS5.out.below hb5) (fun hHeld => ?_)
    clear hK K
    try simp only [Act.put, List.setIfInBounds_toArray, List.set_cons_zero, List.set_cons_succ]
    refine wpAnyH_take (i := 2) (oi := { dst := some 81, op := Op.binOp BinOp.eql 54 (Operand.tmp 80) (Operand.const (Value.int IntKind.i64 0)) 54, type := 4, pos := "outright.go:80", after := #[{ on := 1, ground := Ground.data }], guard := none }) (v := ?_) rfl (by kernel_rfl) (by kernel_rfl) (by kernel_rfl) (fun _ _ _ h => h) (Or.inl ⟨by rfl, ?_⟩) hHeld ?_
    rotate_left
    · intro w hSw
      clear hSw
      go_simp
      try with_reducible rfl
    try simp only [Act.put, List.setIfInBounds_toArray, List.set_cons_zero, List.set_cons_succ]
    refine wpAnyH_take (i := 3) (oi := { dst := some 82, op := Op.move (Operand.tmp 81), type := 4, pos := "outright.go:80", after := #[{ on := 2, ground := Ground.data }, { on := 1, ground := Ground.chain }], guard := none }) (v := ?_) rfl (by kernel_rfl) (by kernel_rfl) (by kernel_rfl) (fun _ _ _ h => h) (Or.inl ⟨by rfl, ?_⟩) hHeld ?_
    rotate_left
    · intro w hSw
      clear hSw
      go_simp
      try with_reducible rfl
    try simp only [Act.put, List.setIfInBounds_toArray, List.set_cons_zero, List.set_cons_succ]
    refine wpAnyH_take (i := 4) (oi := { dst := some 83, op := Op.fieldAddr 33 (Operand.tmp 8) 5, type := 0, pos := "outright.go:80", after := #[{ on := 3, ground := Ground.guard }], guard := some (3, true) }) (v := ?_) rfl (by kernel_rfl) (by kernel_rfl) (by kernel_rfl) (fun _ _ _ h => h) (Or.inl ⟨by rfl, ?_⟩) hHeld ?_
    rotate_left
    · intro w hSw
      clear hSw
      go_simp
      try with_reducible rfl
    try simp only [Act.put, List.setIfInBounds_toArray, List.set_cons_zero, List.set_cons_succ]
    refine wpAnyH_take (i := 5) (oi := { dst := some 84, op := Op.load 4 (Operand.tmp 83), type := 4, pos := "outright.go:80", after := #[{ on := 4, ground := Ground.data }, { on := 3, ground := Ground.guard }], guard := some (3, true) }) (v := ?_) rfl (by kernel_rfl) (by kernel_rfl) (by kernel_rfl) (fun _ _ _ h => h) (Or.inl ⟨by rfl, ?_⟩) hHeld ?_
    rotate_left
    · intro w hSw
      have b2 : w.cell? ⟨k8, 2, none⟩ = some (.string N) := by rw [← HXN.out]; exact (hSw.q8.c 2).trans rfl
      have b3 : w.cell? ⟨k8, 3, none⟩ = some (.bool false) := by rw [← HHM.out]; exact (hSw.q8.c 3).trans rfl
      have b5 : w.cell? ⟨k8, 5, none⟩ = some (.bool false) := by rw [← HXP.out]; exact (hSw.q8.c 5).trans rfl
      have b13 : w.cell? ⟨k8, 13, none⟩ = some (.bool false) := by rw [← HXR.out]; exact (hSw.q8.c 13).trans rfl
      have b15 : w.cell? ⟨k8, 15, none⟩ = some (.slice x.kA 0 x.kC) := by rw [show 0 = x.clus.length by rw [HXK.out]; rfl]; exact (hSw.q8.c 15).trans rfl
      go_simp
      try with_reducible rfl
    try simp only [Act.put, List.setIfInBounds_toArray, List.set_cons_zero, List.set_cons_succ]
    refine wpAnyH_take (i := 6) (oi := { dst := some 85, op := Op.unOp UnOp.not 4 (Operand.tmp 84), type := 4, pos := "outright.go:80", after := #[{ on := 5, ground := Ground.data }, { on := 3, ground := Ground.guard }], guard := some (3, true) }) (v := ?_) rfl (by kernel_rfl) (by kernel_rfl) (by kernel_rfl) (fun _ _ _ h => h) (Or.inl ⟨by rfl, ?_⟩) hHeld ?_
    rotate_left
    · intro w hSw
      clear hSw
      go_simp
      try with_reducible rfl
    try simp only [Act.put, List.setIfInBounds_toArray, List.set_cons_zero, List.set_cons_succ]
    refine wpAnyH_take (i := 7) (oi := { dst := some 86, op := Op.pick (Operand.tmp 82) (Operand.tmp 85) (Operand.const (Value.bool false)), type := 4, pos := "outright.go:80", after := #[{ on := 3, ground := Ground.data }, { on := 6, ground := Ground.data }], guard := none }) (v := ?_) rfl (by kernel_rfl) (by kernel_rfl) (by kernel_rfl) (fun _ _ _ h => h) (Or.inl ⟨by rfl, ?_⟩) hHeld ?_
    rotate_left
    · intro w hSw
      clear hSw
      go_simp
      try with_reducible rfl
    try simp only [Act.put, List.setIfInBounds_toArray, List.set_cons_zero, List.set_cons_succ]
    refine wpAnyH_take (i := 8) (oi := { dst := some 87, op := Op.move (Operand.tmp 86), type := 4, pos := "outright.go:80", after := #[{ on := 7, ground := Ground.data }, { on := 3, ground := Ground.chain }], guard := none }) (v := ?_) rfl (by kernel_rfl) (by kernel_rfl) (by kernel_rfl) (fun _ _ _ h => h) (Or.inl ⟨by rfl, ?_⟩) hHeld ?_
    rotate_left
    · intro w hSw
      clear hSw
      go_simp
      try with_reducible rfl
    try simp only [Act.put, List.setIfInBounds_toArray, List.set_cons_zero, List.set_cons_succ]
    refine wpAnyH_take (i := 9) (oi := { dst := some 88, op := Op.fieldAddr 33 (Operand.tmp 8) 13, type := 0, pos := "outright.go:80", after := #[{ on := 8, ground := Ground.guard }], guard := some (8, true) }) (v := ?_) rfl (by kernel_rfl) (by kernel_rfl) (by kernel_rfl) (fun _ _ _ h => h) (Or.inl ⟨by rfl, ?_⟩) hHeld ?_
    rotate_left
    · intro w hSw
      clear hSw
      go_simp
      try with_reducible rfl
    try simp only [Act.put, List.setIfInBounds_toArray, List.set_cons_zero, List.set_cons_succ]
    refine wpAnyH_take (i := 10) (oi := { dst := some 89, op := Op.load 4 (Operand.tmp 88), type := 4, pos := "outright.go:80", after := #[{ on := 9, ground := Ground.data }, { on := 8, ground := Ground.guard }], guard := some (8, true) }) (v := ?_) rfl (by kernel_rfl) (by kernel_rfl) (by kernel_rfl) (fun _ _ _ h => h) (Or.inl ⟨by rfl, ?_⟩) hHeld ?_
    rotate_left
    · intro w hSw
      have b2 : w.cell? ⟨k8, 2, none⟩ = some (.string N) := by rw [← HXN.out]; exact (hSw.q8.c 2).trans rfl
      have b3 : w.cell? ⟨k8, 3, none⟩ = some (.bool false) := by rw [← HHM.out]; exact (hSw.q8.c 3).trans rfl
      have b5 : w.cell? ⟨k8, 5, none⟩ = some (.bool false) := by rw [← HXP.out]; exact (hSw.q8.c 5).trans rfl
      have b13 : w.cell? ⟨k8, 13, none⟩ = some (.bool false) := by rw [← HXR.out]; exact (hSw.q8.c 13).trans rfl
      have b15 : w.cell? ⟨k8, 15, none⟩ = some (.slice x.kA 0 x.kC) := by rw [show 0 = x.clus.length by rw [HXK.out]; rfl]; exact (hSw.q8.c 15).trans rfl
      go_simp
      try with_reducible rfl
    try simp only [Act.put, List.setIfInBounds_toArray, List.set_cons_zero, List.set_cons_succ]
    refine wpAnyH_take (i := 11) (oi := { dst := some 90, op := Op.unOp UnOp.not 4 (Operand.tmp 89), type := 4, pos := "outright.go:80", after := #[{ on := 10, ground := Ground.data }, { on := 8, ground := Ground.guard }], guard := some (8, true) }) (v := ?_) rfl (by kernel_rfl) (by kernel_rfl) (by kernel_rfl) (fun _ _ _ h => h) (Or.inl ⟨by rfl, ?_⟩) hHeld ?_
    rotate_left
    · intro w hSw
      clear hSw
      go_simp
      try with_reducible rfl
    try simp only [Act.put, List.setIfInBounds_toArray, List.set_cons_zero, List.set_cons_succ]
    refine wpAnyH_take (i := 12) (oi := { dst := some 91, op := Op.pick (Operand.tmp 87) (Operand.tmp 90) (Operand.const (Value.bool false)), type := 4, pos := "outright.go:80", after := #[{ on := 8, ground := Ground.data }, { on := 11, ground := Ground.data }], guard := none }) (v := ?_) rfl (by kernel_rfl) (by kernel_rfl) (by kernel_rfl) (fun _ _ _ h => h) (Or.inl ⟨by rfl, ?_⟩) hHeld ?_
    rotate_left
    · intro w hSw
      clear hSw
      go_simp
      try with_reducible rfl
    try simp only [Act.put, List.setIfInBounds_toArray, List.set_cons_zero, List.set_cons_succ]
    refine wpAnyH_take (i := 13) (oi := { dst := some 92, op := Op.move (Operand.tmp 91), type := 4, pos := "outright.go:80", after := #[{ on := 12, ground := Ground.data }, { on := 8, ground := Ground.chain }], guard := none }) (v := ?_) rfl (by kernel_rfl) (by kernel_rfl) (by kernel_rfl) (fun _ _ _ h => h) (Or.inl ⟨by rfl, ?_⟩) hHeld ?_
    rotate_left
    · intro w hSw
      clear hSw
      go_simp
      try with_reducible rfl
    try simp only [Act.put, List.setIfInBounds_toArray, List.set_cons_zero, List.set_cons_succ]
    refine wpAnyH_take (i := 14) (oi := { dst := some 93, op := Op.fieldAddr 33 (Operand.tmp 8) 15, type := 0, pos := "outright.go:80", after := #[{ on := 13, ground := Ground.guard }], guard := some (13, true) }) (v := ?_) rfl (by kernel_rfl) (by kernel_rfl) (by kernel_rfl) (fun _ _ _ h => h) (Or.inl ⟨by rfl, ?_⟩) hHeld ?_
    rotate_left
    · intro w hSw
      clear hSw
      go_simp
      try with_reducible rfl
    try simp only [Act.put, List.setIfInBounds_toArray, List.set_cons_zero, List.set_cons_succ]
    refine wpAnyH_take (i := 15) (oi := { dst := some 94, op := Op.load 29 (Operand.tmp 93), type := 29, pos := "outright.go:80", after := #[{ on := 14, ground := Ground.data }, { on := 13, ground := Ground.guard }], guard := some (13, true) }) (v := ?_) rfl (by kernel_rfl) (by kernel_rfl) (by kernel_rfl) (fun _ _ _ h => h) (Or.inl ⟨by rfl, ?_⟩) hHeld ?_
    rotate_left
    · intro w hSw
      have b2 : w.cell? ⟨k8, 2, none⟩ = some (.string N) := by rw [← HXN.out]; exact (hSw.q8.c 2).trans rfl
      have b3 : w.cell? ⟨k8, 3, none⟩ = some (.bool false) := by rw [← HHM.out]; exact (hSw.q8.c 3).trans rfl
      have b5 : w.cell? ⟨k8, 5, none⟩ = some (.bool false) := by rw [← HXP.out]; exact (hSw.q8.c 5).trans rfl
      have b13 : w.cell? ⟨k8, 13, none⟩ = some (.bool false) := by rw [← HXR.out]; exact (hSw.q8.c 13).trans rfl
      have b15 : w.cell? ⟨k8, 15, none⟩ = some (.slice x.kA 0 x.kC) := by rw [show 0 = x.clus.length by rw [HXK.out]; rfl]; exact (hSw.q8.c 15).trans rfl
      go_simp
      try with_reducible rfl
    try simp only [Act.put, List.setIfInBounds_toArray, List.set_cons_zero, List.set_cons_succ]
    refine wpAnyH_take (i := 16) (oi := { dst := some 95, op := Op.call { callee := Callee.builtin Builtin.len, args := #[Operand.tmp 94], argTypes := #[29] }, type := 3, pos := "outright.go:80", after := #[{ on := 15, ground := Ground.data }, { on := 13, ground := Ground.guard }], guard := some (13, true) }) (v := ?_) rfl (by kernel_rfl) (by kernel_rfl) (by kernel_rfl) (fun _ _ _ h => h) (Or.inl ⟨by rfl, ?_⟩) hHeld ?_
    rotate_left
    · intro w hSw
      clear hSw
      go_simp
      try with_reducible rfl
    try simp only [Act.put, List.setIfInBounds_toArray, List.set_cons_zero, List.set_cons_succ]
    refine wpAnyH_take (i := 17) (oi := { dst := some 96, op := Op.binOp BinOp.eql 3 (Operand.tmp 95) (Operand.const (Value.int IntKind.i64 0)) 3, type := 4, pos := "outright.go:80", after := #[{ on := 16, ground := Ground.data }, { on := 13, ground := Ground.guard }], guard := some (13, true) }) (v := ?_) rfl (by kernel_rfl) (by kernel_rfl) (by kernel_rfl) (fun _ _ _ h => h) (Or.inl ⟨by rfl, ?_⟩) hHeld ?_
    rotate_left
    · intro w hSw
      clear hSw
      go_simp
      try with_reducible rfl
    try simp only [Act.put, List.setIfInBounds_toArray, List.set_cons_zero, List.set_cons_succ]
    refine wpAnyH_take (i := 18) (oi := { dst := some 97, op := Op.pick (Operand.tmp 92) (Operand.tmp 96) (Operand.const (Value.bool false)), type := 4, pos := "outright.go:80", after := #[{ on := 13, ground := Ground.data }, { on := 17, ground := Ground.data }], guard := none }) (v := ?_) rfl (by kernel_rfl) (by kernel_rfl) (by kernel_rfl) (fun _ _ _ h => h) (Or.inl ⟨by rfl, ?_⟩) hHeld ?_
    rotate_left
    · intro w hSw
      clear hSw
      go_simp
      try with_reducible rfl
    try simp only [Act.put, List.setIfInBounds_toArray, List.set_cons_zero, List.set_cons_succ]
    refine wpAnyH_take (i := 19) (oi := { dst := some 98, op := Op.move (Operand.tmp 97), type := 4, pos := "outright.go:80", after := #[{ on := 18, ground := Ground.data }, { on := 13, ground := Ground.chain }], guard := none }) (v := ?_) rfl (by kernel_rfl) (by kernel_rfl) (by kernel_rfl) (fun _ _ _ h => h) (Or.inl ⟨by rfl, ?_⟩) hHeld ?_
    rotate_left
    · intro w hSw
      clear hSw
      go_simp
      try with_reducible rfl
    try simp only [Act.put, List.setIfInBounds_toArray, List.set_cons_zero, List.set_cons_succ]
    refine wpAnyH_take (i := 20) (oi := { dst := some 99, op := Op.fieldAddr 33 (Operand.tmp 8) 2, type := 0, pos := "outright.go:80", after := #[{ on := 19, ground := Ground.guard }], guard := some (19, true) }) (v := ?_) rfl (by kernel_rfl) (by kernel_rfl) (by kernel_rfl) (fun _ _ _ h => h) (Or.inl ⟨by rfl, ?_⟩) hHeld ?_
    rotate_left
    · intro w hSw
      clear hSw
      go_simp
      try with_reducible rfl
    try simp only [Act.put, List.setIfInBounds_toArray, List.set_cons_zero, List.set_cons_succ]
    refine wpAnyH_take (i := 21) (oi := { dst := some 100, op := Op.load 9 (Operand.tmp 99), type := 9, pos := "outright.go:80", after := #[{ on := 20, ground := Ground.data }, { on := 19, ground := Ground.guard }], guard := some (19, true) }) (v := ?_) rfl (by kernel_rfl) (by kernel_rfl) (by kernel_rfl) (fun _ _ _ h => h) (Or.inl ⟨by rfl, ?_⟩) hHeld ?_
    rotate_left
    · intro w hSw
      have b2 : w.cell? ⟨k8, 2, none⟩ = some (.string N) := by rw [← HXN.out]; exact (hSw.q8.c 2).trans rfl
      have b3 : w.cell? ⟨k8, 3, none⟩ = some (.bool false) := by rw [← HHM.out]; exact (hSw.q8.c 3).trans rfl
      have b5 : w.cell? ⟨k8, 5, none⟩ = some (.bool false) := by rw [← HXP.out]; exact (hSw.q8.c 5).trans rfl
      have b13 : w.cell? ⟨k8, 13, none⟩ = some (.bool false) := by rw [← HXR.out]; exact (hSw.q8.c 13).trans rfl
      have b15 : w.cell? ⟨k8, 15, none⟩ = some (.slice x.kA 0 x.kC) := by rw [show 0 = x.clus.length by rw [HXK.out]; rfl]; exact (hSw.q8.c 15).trans rfl
      go_simp
      try with_reducible rfl
    try simp only [Act.put, List.setIfInBounds_toArray, List.set_cons_zero, List.set_cons_succ]
    refine wpAnyH_take (i := 22) (oi := { dst := some 101, op := Op.load 49 (Operand.tmp 7), type := 49, pos := "outright.go:80", after := #[{ on := 19, ground := Ground.guard }], guard := some (19, true) }) (v := .agg g.ar) rfl (by kernel_rfl) (by kernel_rfl) (by kernel_rfl) (fun _ _ _ h => h) (yields_row (by rfl) _ _ rfl k7 0 (by rfl) g.ar confS 13 confZ rfl (fun w h => whole_range h.q7)) hHeld ?_
    try simp only [Act.put, List.setIfInBounds_toArray, List.set_cons_zero, List.set_cons_succ]
    refine wpAnyH_take (i := 23) (oi := { dst := some 102, op := Op.load 37 (Operand.tmp 4), type := 37, pos := "outright.go:80", after := #[{ on := 19, ground := Ground.guard }], guard := some (19, true) }) (v := .agg p.ar) rfl (by kernel_rfl) (by kernel_rfl) (by kernel_rfl) (fun _ _ _ h => h) (yields_row (by rfl) _ _ rfl (s + 1) 0 (by rfl) p.ar pathS 29 pathZ rfl (fun w h => whole_range h.bx.p)) hHeld ?_
    try simp only [Act.put, List.setIfInBounds_toArray, List.set_cons_zero, List.set_cons_succ]
    refine wpAnyH_take (i := 24) (oi := { dst := some 103, op := Op.load 40 (Operand.tmp 5), type := 40, pos := "outright.go:80", after := #[{ on := 19, ground := Ground.guard }], guard := some (19, true) }) (v := .agg t2.ar) rfl (by kernel_rfl) (by kernel_rfl) (by kernel_rfl) (fun _ _ _ h => h) (yields_row (by rfl) _ _ rfl (s + 1 + 1) 0 (by rfl) t2.ar peerS 23 peerZ rfl (fun w h => whole_range h.bx.t)) hHeld ?_
    try simp only [Act.put, List.setIfInBounds_toArray, List.set_cons_zero, List.set_cons_succ]
    refine wpAnyH_ready (rs := [25]) (by kernel_rfl) (by simp) ?_
    refine AllReadyH.cons (o := { dst := some 104, op := Op.call { callee := Callee.value (Operand.func 18), args := #[Operand.tmp 101, Operand.tmp 102, Operand.tmp 103], argTypes := #[49, 37, 40] }, type := 9, pos := "outright.go:80", after := #[{ on := 22, ground := Ground.data }, { on := 23, ground := Ground.data }, { on := 24, ground := Ground.data }, { on := 19, ground := Ground.chain }, { on := 19, ground := Ground.guard }], guard := some (19, true) }) rfl (fun K hK => ?_) AllReadyH.nil
    go_simp
    refine (HNX.out _).mono ?_
    rintro e wG ⟨rfl, hb6⟩
    have HS6 := Lib.hid hHeld
    refine hK.out _ _ (HS6.out.below hb6) (fun hHeld => ?_)
    clear hK K
    try simp only [Act.put, List.setIfInBounds_toArray, List.set_cons_zero, List.set_cons_succ]
    refine wpAnyH_take (i := 26) (oi := { dst := some 105, op := Op.binOp BinOp.eql 9 (Operand.tmp 100) (Operand.tmp 104) 9, type := 4, pos := "outright.go:80", after := #[{ on := 21, ground := Ground.data }, { on := 25, ground := Ground.data }, { on := 19, ground := Ground.guard }], guard := some (19, true) }) (v := ?_) rfl (by kernel_rfl) (by kernel_rfl) (by kernel_rfl) (fun _ _ _ h => h) (Or.inl ⟨by rfl, ?_⟩) hHeld ?_
    rotate_left
    · intro w hSw
      clear hSw
      go_simp
      try with_reducible rfl
    try simp only [Act.put, List.setIfInBounds_toArray, List.set_cons_zero, List.set_cons_succ]
    refine wpAnyH_take (i := 27) (oi := { dst := some 106, op := Op.pick (Operand.tmp 98) (Operand.tmp 105) (Operand.const (Value.bool false)), type := 4, pos := "outright.go:80", after := #[{ on := 19, ground := Ground.data }, { on := 26, ground := Ground.data }], guard := none }) (v := ?_) rfl (by kernel_rfl) (by kernel_rfl) (by kernel_rfl) (fun _ _ _ h => h) (Or.inl ⟨by rfl, ?_⟩) hHeld ?_
    rotate_left
    · intro w hSw
      clear hSw
      go_simp
      try with_reducible rfl
    try simp only [Act.put, List.setIfInBounds_toArray, List.set_cons_zero, List.set_cons_succ]
    refine wpAnyH_take (i := 28) (oi := { dst := some 107, op := Op.move (Operand.tmp 106), type := 4, pos := "outright.go:80", after := #[{ on := 27, ground := Ground.data }, { on := 25, ground := Ground.chain }], guard := none }) (v := ?_) rfl (by kernel_rfl) (by kernel_rfl) (by kernel_rfl) (fun _ _ _ h => h) (Or.inl ⟨by rfl, ?_⟩) hHeld ?_
    rotate_left
    · intro w hSw
      clear hSw
      go_simp
      try with_reducible rfl
    try simp only [Act.put, List.setIfInBounds_toArray, List.set_cons_zero, List.set_cons_succ]
    refine wpAnyH_take (i := 29) (oi := { dst := some 108, op := Op.fieldAddr 33 (Operand.tmp 8) 3, type := 0, pos := "outright.go:80", after := #[{ on := 28, ground := Ground.guard }], guard := some (28, true) }) (v := ?_) rfl (by kernel_rfl) (by kernel_rfl) (by kernel_rfl) (fun _ _ _ h => h) (Or.inl ⟨by rfl, ?_⟩) hHeld ?_
    rotate_left
    · intro w hSw
      clear hSw
      go_simp
      try with_reducible rfl
    try simp only [Act.put, List.setIfInBounds_toArray, List.set_cons_zero, List.set_cons_succ]
    refine wpAnyH_take (i := 30) (oi := { dst := some 109, op := Op.load 4 (Operand.tmp 108), type := 4, pos := "outright.go:80", after := #[{ on := 29, ground := Ground.data }, { on := 28, ground := Ground.guard }], guard := some (28, true) }) (v := ?_) rfl (by kernel_rfl) (by kernel_rfl) (by kernel_rfl) (fun _ _ _ h => h) (Or.inl ⟨by rfl, ?_⟩) hHeld ?_
    rotate_left
    · intro w hSw
      have b2 : w.cell? ⟨k8, 2, none⟩ = some (.string N) := by rw [← HXN.out]; exact (hSw.q8.c 2).trans rfl
      have b3 : w.cell? ⟨k8, 3, none⟩ = some (.bool false) := by rw [← HHM.out]; exact (hSw.q8.c 3).trans rfl
      have b5 : w.cell? ⟨k8, 5, none⟩ = some (.bool false) := by rw [← HXP.out]; exact (hSw.q8.c 5).trans rfl
      have b13 : w.cell? ⟨k8, 13, none⟩ = some (.bool false) := by rw [← HXR.out]; exact (hSw.q8.c 13).trans rfl
      have b15 : w.cell? ⟨k8, 15, none⟩ = some (.slice x.kA 0 x.kC) := by rw [show 0 = x.clus.length by rw [HXK.out]; rfl]; exact (hSw.q8.c 15).trans rfl
      go_simp
      try with_reducible rfl
    try simp only [Act.put, List.setIfInBounds_toArray, List.set_cons_zero, List.set_cons_succ]
    refine wpAnyH_take (i := 31) (oi := { dst := some 110, op := Op.unOp UnOp.not 4 (Operand.tmp 109), type := 4, pos := "outright.go:80", after := #[{ on := 30, ground := Ground.data }, { on := 28, ground := Ground.guard }], guard := some (28, true) }) (v := ?_) rfl (by kernel_rfl) (by kernel_rfl) (by kernel_rfl) (fun _ _ _ h => h) (Or.inl ⟨by rfl, ?_⟩) hHeld ?_
    rotate_left
    · intro w hSw
      clear hSw
      go_simp
      try with_reducible rfl
    try simp only [Act.put, List.setIfInBounds_toArray, List.set_cons_zero, List.set_cons_succ]
    refine wpAnyH_take (i := 32) (oi := { dst := some 111, op := Op.move (Operand.tmp 110), type := 4, pos := "outright.go:80", after := #[{ on := 31, ground := Ground.data }, { on := 28, ground := Ground.chain }, { on := 28, ground := Ground.guard }], guard := some (28, true) }) (v := ?_) rfl (by kernel_rfl) (by kernel_rfl) (by kernel_rfl) (fun _ _ _ h => h) (Or.inl ⟨by rfl, ?_⟩) hHeld ?_
    rotate_left
    · intro w hSw
      clear hSw
      go_simp
      try with_reducible rfl
    try simp only [Act.put, List.setIfInBounds_toArray, List.set_cons_zero, List.set_cons_succ]
    refine wpAnyH_take (i := 33) (oi := { dst := some 112, op := Op.fieldAddr 37 (Operand.tmp 4) 4, type := 0, pos := "outright.go:80", after := #[{ on := 32, ground := Ground.guard }], guard := some (32, false) }) (v := undef) rfl (by kernel_rfl) (by kernel_rfl) (by kernel_rfl) (fun _ _ _ h => h) (Or.inr ⟨by rfl, rfl⟩) hHeld ?_
    try simp only [Act.put, List.setIfInBounds_toArray, List.set_cons_zero, List.set_cons_succ]
    refine wpAnyH_take (i := 34) (oi := { dst := some 113, op := Op.fieldAddr 35 (Operand.tmp 112) 0, type := 0, pos := "outright.go:80", after := #[{ on := 33, ground := Ground.data }, { on := 32, ground := Ground.guard }], guard := some (32, false) }) (v := undef) rfl (by kernel_rfl) (by kernel_rfl) (by kernel_rfl) (fun _ _ _ h => h) (Or.inr ⟨by rfl, rfl⟩) hHeld ?_
    try simp only [Act.put, List.setIfInBounds_toArray, List.set_cons_zero, List.set_cons_succ]
    refine wpAnyH_take (i := 35) (oi := { dst := some 114, op := Op.load 3 (Operand.tmp 113), type := 3, pos := "outright.go:80", after := #[{ on := 34, ground := Ground.data }, { on := 32, ground := Ground.guard }], guard := some (32, false) }) (v := undef) rfl (by kernel_rfl) (by kernel_rfl) (by kernel_rfl) (fun _ _ _ h => h) (Or.inr ⟨by rfl, rfl⟩) hHeld ?_
    try simp only [Act.put, List.setIfInBounds_toArray, List.set_cons_zero, List.set_cons_succ]
    refine wpAnyH_take (i := 36) (oi := { dst := some 115, op := Op.binOp BinOp.eql 3 (Operand.tmp 114) (Operand.const (Value.int IntKind.i64 1)) 3, type := 4, pos := "outright.go:80", after := #[{ on := 35, ground := Ground.data }, { on := 32, ground := Ground.guard }], guard := some (32, false) }) (v := undef) rfl (by kernel_rfl) (by kernel_rfl) (by kernel_rfl) (fun _ _ _ h => h) (Or.inr ⟨by rfl, rfl⟩) hHeld ?_
    try simp only [Act.put, List.setIfInBounds_toArray, List.set_cons_zero, List.set_cons_succ]
    refine wpAnyH_take (i := 37) (oi := { dst := some 116, op := Op.pick (Operand.tmp 111) (Operand.const (Value.bool true)) (Operand.tmp 115), type := 4, pos := "outright.go:80", after := #[{ on := 32, ground := Ground.data }, { on := 36, ground := Ground.data }, { on := 28, ground := Ground.guard }], guard := some (28, true) }) (v := ?_) rfl (by kernel_rfl) (by kernel_rfl) (by kernel_rfl) (fun _ _ _ h => h) (Or.inl ⟨by rfl, ?_⟩) hHeld ?_
    rotate_left
    · intro w hSw
      clear hSw
      go_simp
      try with_reducible rfl
    try simp only [Act.put, List.setIfInBounds_toArray, List.set_cons_zero, List.set_cons_succ]
    refine wpAnyH_take (i := 38) (oi := { dst := some 117, op := Op.pick (Operand.tmp 107) (Operand.tmp 116) (Operand.const (Value.bool false)), type := 4, pos := "outright.go:80", after := #[{ on := 28, ground := Ground.data }, { on := 37, ground := Ground.data }], guard := none }) (v := ?_) rfl (by kernel_rfl) (by kernel_rfl) (by kernel_rfl) (fun _ _ _ h => h) (Or.inl ⟨by rfl, ?_⟩) hHeld ?_
    rotate_left
    · intro w hSw
      clear hSw
      go_simp
      try with_reducible rfl
    try simp only [Act.put, List.setIfInBounds_toArray, List.set_cons_zero, List.set_cons_succ]
    refine wpAnyH_take (i := 39) (oi := { dst := some 6, op := Op.assign (Operand.tmp 117), type := 4, pos := "outright.go:80", after := #[{ on := 38, ground := Ground.data }, { on := 32, ground := Ground.chain }, { on := 0, ground := Ground.phase }, { on := 1, ground := Ground.phase }, { on := 2, ground := Ground.phase }, { on := 3, ground := Ground.phase }, { on := 4, ground := Ground.phase }, { on := 5, ground := Ground.phase }, { on := 6, ground := Ground.phase }, { on := 7, ground := Ground.phase }, { on := 8, ground := Ground.phase }, { on := 9, ground := Ground.phase }, { on := 10, ground := Ground.phase }, { on := 11, ground := Ground.phase }, { on := 12, ground := Ground.phase }, { on := 13, ground := Ground.phase }, { on := 14, ground := Ground.phase }, { on := 15, ground := Ground.phase }, { on := 16, ground := Ground.phase }, { on := 17, ground := Ground.phase }, { on := 18, ground := Ground.phase }, { on := 19, ground := Ground.phase }, { on := 20, ground := Ground.phase }, { on := 21, ground := Ground.phase }, { on := 22, ground := Ground.phase }, { on := 23, ground := Ground.phase }, { on := 24, ground := Ground.phase }, { on := 25, ground := Ground.phase }, { on := 26, ground := Ground.phase }, { on := 27, ground := Ground.phase }, { on := 28, ground := Ground.phase }, { on := 29, ground := Ground.phase }, { on := 30, ground := Ground.phase }, { on := 31, ground := Ground.phase }, { on := 32, ground := Ground.phase }, { on := 33, ground := Ground.phase }, { on := 34, ground := Ground.phase }, { on := 35, ground := Ground.phase }, { on := 36, ground := Ground.phase }, { on := 37, ground := Ground.phase }, { on := 38, ground := Ground.phase }], guard := none }) (v := ?_) rfl (by kernel_rfl) (by kernel_rfl) (by kernel_rfl) (fun _ _ _ h => h) (Or.inl ⟨by rfl, ?_⟩) hHeld ?_
    rotate_left
    · intro w hSw
      clear hSw
      go_simp
      try with_reducible rfl
    try simp only [Act.put, List.setIfInBounds_toArray, List.set_cons_zero, List.set_cons_succ]
    refine wpAnyH_done (by kernel_rfl) ?_ _
    have HE := Lib.hid hHeld
    clear hHeld
    go_wp2_with fail
    go_ret
    exact ⟨rfl, HE.out.bx.b⟩
  | true =>
    refine wp_region_held_drew (S := fun w' => SO w w' s k7 k8 g p t2 x) (by kernel_rfl) (HSE.out.below (below_drewN (Below.refl _ _) 1)) (fun hHeld => ?_)
    refine wpAnyH_take (i := 0) (oi := { dst := some 79, op := Op.load 33 (Operand.tmp 8), type := 33, pos := "outright.go:80", after := #[], guard := none }) (v := .agg x.ar) rfl (by kernel_rfl) (by kernel_rfl) (by kernel_rfl) (fun _ _ _ h => h) (yields_row (by rfl) _ _ rfl k8 0 (by rfl) x.ar atS 16 atZ rfl (fun w h => whole_range h.q8)) hHeld ?_
    try simp only [Act.put, List.setIfInBounds_toArray, List.set_cons_zero, List.set_cons_succ]
    refine wpAnyH_ready (rs := [1]) (by kernel_rfl) (by simp) ?_
    refine AllReadyH.cons (o := { dst := some 80, op := Op.call { callee := Callee.value (Operand.func 26), args := #[Operand.tmp 79], argTypes := #[33] }, type := 54, pos := "outright.go:80", after := #[{ on := 0, ground := Ground.data }], guard := none }) rfl (fun K hK => ?_) AllReadyH.nil
    go_simp
    refine (HCK.out _ x hHeld.xo HOF.out.ok).mono ?_
    rintro e wF ⟨rfl, hb5⟩
    have HS5 := Lib.hid hHeld
    refine hK.out _ _ (HS5.out.below hb5) (fun hHeld => ?_)
    clear hK K
    try simp only [Act.put, List.setIfInBounds_toArray, List.set_cons_zero, List.set_cons_succ]
    refine wpAnyH_take (i := 2) (oi := { dst := some 81, op := Op.binOp BinOp.eql 54 (Operand.tmp 80) (Operand.const (Value.int IntKind.i64 0)) 54, type := 4, pos := "outright.go:80", after := #[{ on := 1, ground := Ground.data }], guard := none }) (v := ?_) rfl (by kernel_rfl) (by kernel_rfl) (by kernel_rfl) (fun _ _ _ h => h) (Or.inl ⟨by rfl, ?_⟩) hHeld ?_
    rotate_left
    · intro w hSw
      clear hSw
      go_simp
      try with_reducible rfl
    try simp only [Act.put, List.setIfInBounds_toArray, List.set_cons_zero, List.set_cons_succ]
    refine wpAnyH_take (i := 3) (oi := { dst := some 82, op := Op.move (Operand.tmp 81), type := 4, pos := "outright.go:80", after := #[{ on := 2, ground := Ground.data }, { on := 1, ground := Ground.chain }], guard := none }) (v := ?_) rfl (by kernel_rfl) (by kernel_rfl) (by kernel_rfl) (fun _ _ _ h => h) (Or.inl ⟨by rfl, ?_⟩) hHeld ?_
    rotate_left
    · intro w hSw
      clear hSw
      go_simp
      try with_reducible rfl
    try simp only [Act.put, List.setIfInBounds_toArray, List.set_cons_zero, List.set_cons_succ]
    refine wpAnyH_take (i := 4) (oi := { dst := some 83, op := Op.fieldAddr 33 (Operand.tmp 8) 5, type := 0, pos := "outright.go:80", after := #[{ on := 3, ground := Ground.guard }], guard := some (3, true) }) (v := ?_) rfl (by kernel_rfl) (by kernel_rfl) (by kernel_rfl) (fun _ _ _ h => h) (Or.inl ⟨by rfl, ?_⟩) hHeld ?_
    rotate_left
    · intro w hSw
      clear hSw
      go_simp
      try with_reducible rfl
    try simp only [Act.put, List.setIfInBounds_toArray, List.set_cons_zero, List.set_cons_succ]
    refine wpAnyH_take (i := 5) (oi := { dst := some 84, op := Op.load 4 (Operand.tmp 83), type := 4, pos := "outright.go:80", after := #[{ on := 4, ground := Ground.data }, { on := 3, ground := Ground.guard }], guard := some (3, true) }) (v := ?_) rfl (by kernel_rfl) (by kernel_rfl) (by kernel_rfl) (fun _ _ _ h => h) (Or.inl ⟨by rfl, ?_⟩) hHeld ?_
    rotate_left
    · intro w hSw
      have b2 : w.cell? ⟨k8, 2, none⟩ = some (.string N) := by rw [← HXN.out]; exact (hSw.q8.c 2).trans rfl
      have b3 : w.cell? ⟨k8, 3, none⟩ = some (.bool true) := by rw [← HHM.out]; exact (hSw.q8.c 3).trans rfl
      have b5 : w.cell? ⟨k8, 5, none⟩ = some (.bool false) := by rw [← HXP.out]; exact (hSw.q8.c 5).trans rfl
      have b13 : w.cell? ⟨k8, 13, none⟩ = some (.bool false) := by rw [← HXR.out]; exact (hSw.q8.c 13).trans rfl
      have b15 : w.cell? ⟨k8, 15, none⟩ = some (.slice x.kA 0 x.kC) := by rw [show 0 = x.clus.length by rw [HXK.out]; rfl]; exact (hSw.q8.c 15).trans rfl
      have b22 : w.cell? ⟨s + 1, 22, none⟩ = some (.int .i64 1) := by rw [← HKM.out rfl]; exact (hSw.bx.p.c 22).trans rfl
      go_simp
      try with_reducible rfl
    try simp only [Act.put, List.setIfInBounds_toArray, List.set_cons_zero, List.set_cons_succ]
    refine wpAnyH_take (i := 6) (oi := { dst := some 85, op := Op.unOp UnOp.not 4 (Operand.tmp 84), type := 4, pos := "outright.go:80", after := #[{ on := 5, ground := Ground.data }, { on := 3, ground := Ground.guard }], guard := some (3, true) }) (v := ?_) rfl (by kernel_rfl) (by kernel_rfl) (by kernel_rfl) (fun _ _ _ h => h) (Or.inl ⟨by rfl, ?_⟩) hHeld ?_
    rotate_left
    · intro w hSw
      clear hSw
      go_simp
      try with_reducible rfl
    try simp only [Act.put, List.setIfInBounds_toArray, List.set_cons_zero, List.set_cons_succ]
    refine wpAnyH_take (i := 7) (oi := { dst := some 86, op := Op.pick (Operand.tmp 82) (Operand.tmp 85) (Operand.const (Value.bool false)), type := 4, pos := "outright.go:80", after := #[{ on := 3, ground := Ground.data }, { on := 6, ground := Ground.data }], guard := none }) (v := ?_) rfl (by kernel_rfl) (by kernel_rfl) (by kernel_rfl) (fun _ _ _ h => h) (Or.inl ⟨by rfl, ?_⟩) hHeld ?_
    rotate_left
    · intro w hSw
      clear hSw
      go_simp
      try with_reducible rfl
    try simp only [Act.put, List.setIfInBounds_toArray, List.set_cons_zero, List.set_cons_succ]
    refine wpAnyH_take (i := 8) (oi := { dst := some 87, op := Op.move (Operand.tmp 86), type := 4, pos := "outright.go:80", after := #[{ on := 7, ground := Ground.data }, { on := 3, ground := Ground.chain }], guard := none }) (v := ?_) rfl (by kernel_rfl) (by kernel_rfl) (by kernel_rfl) (fun _ _ _ h => h) (Or.inl ⟨by rfl, ?_⟩) hHeld ?_
    rotate_left
    · intro w hSw
      clear hSw
      go_simp
      try with_reducible rfl
    try simp only [Act.put, List.setIfInBounds_toArray, List.set_cons_zero, List.set_cons_succ]
    refine wpAnyH_take (i := 9) (oi := { dst := some 88, op := Op.fieldAddr 33 (Operand.tmp 8) 13, type := 0, pos := "outright.go:80", after := #[{ on := 8, ground := Ground.guard }], guard := some (8, true) }) (v := ?_) rfl (by kernel_rfl) (by kernel_rfl) (by kernel_rfl) (fun _ _ _ h => h) (Or.inl ⟨by rfl, ?_⟩) hHeld ?_
    rotate_left
    · intro w hSw
      clear hSw
      go_simp
      try with_reducible rfl
    try simp only [Act.put, List.setIfInBounds_toArray, List.set_cons_zero, List.set_cons_succ]
    refine wpAnyH_take (i := 10) (oi := { dst := some 89, op := Op.load 4 (Operand.tmp 88), type := 4, pos := "outright.go:80", after := #[{ on := 9, ground := Ground.data }, { on := 8, ground := Ground.guard }], guard := some (8, true) }) (v := ?_) rfl (by kernel_rfl) (by kernel_rfl) (by kernel_rfl) (fun _ _ _ h => h) (Or.inl ⟨by rfl, ?_⟩) hHeld ?_
    rotate_left
    · intro w hSw
      have b2 : w.cell? ⟨k8, 2, none⟩ = some (.string N) := by rw [← HXN.out]; exact (hSw.q8.c 2).trans rfl
      have b3 : w.cell? ⟨k8, 3, none⟩ = some (.bool true) := by rw [← HHM.out]; exact (hSw.q8.c 3).trans rfl
      have b5 : w.cell? ⟨k8, 5, none⟩ = some (.bool false) := by rw [← HXP.out]; exact (hSw.q8.c 5).trans rfl
      have b13 : w.cell? ⟨k8, 13, none⟩ = some (.bool false) := by rw [← HXR.out]; exact (hSw.q8.c 13).trans rfl
      have b15 : w.cell? ⟨k8, 15, none⟩ = some (.slice x.kA 0 x.kC) := by rw [show 0 = x.clus.length by rw [HXK.out]; rfl]; exact (hSw.q8.c 15).trans rfl
      have b22 : w.cell? ⟨s + 1, 22, none⟩ = some (.int .i64 1) := by rw [← HKM.out rfl]; exact (hSw.bx.p.c 22).trans rfl
      go_simp
      try with_reducible rfl
    try simp only [Act.put, List.setIfInBounds_toArray, List.set_cons_zero, List.set_cons_succ]
    refine wpAnyH_take (i := 11) (oi := { dst := some 90, op := Op.unOp UnOp.not 4 (Operand.tmp 89), type := 4, pos := "outright.go:80", after := #[{ on := 10, ground := Ground.data }, { on := 8, ground := Ground.guard }], guard := some (8, true) }) (v := ?_) rfl (by kernel_rfl) (by kernel_rfl) (by kernel_rfl) (fun _ _ _ h => h) (Or.inl ⟨by rfl, ?_⟩) hHeld ?_
    rotate_left
    · intro w hSw
      clear hSw
      go_simp
      try with_reducible rfl
    try simp only [Act.put, List.setIfInBounds_toArray, List.set_cons_zero, List.set_cons_succ]
    refine wpAnyH_take (i := 12) (oi := { dst := some 91, op := Op.pick (Operand.tmp 87) (Operand.tmp 90) (Operand.const (Value.bool false)), type := 4, pos := "outright.go:80", after := #[{ on := 8, ground := Ground.data }, { on := 11, ground := Ground.data }], guard := none }) (v := ?_) rfl (by kernel_rfl) (by kernel_rfl) (by kernel_rfl) (fun _ _ _ h => h) (Or.inl ⟨by rfl, ?_⟩) hHeld ?_
    rotate_left
    · intro w hSw
      clear hSw
      go_simp
      try with_reducible rfl
    try simp only [Act.put, List.setIfInBounds_toArray, List.set_cons_zero, List.set_cons_succ]
    refine wpAnyH_take (i := 13) (oi := { dst := some 92, op := Op.move (Operand.tmp 91), type := 4, pos := "outright.go:80", after := #[{ on := 12, ground := Ground.data }, { on := 8, ground := Ground.chain }], guard := none }) (v := ?_) rfl (by kernel_rfl) (by kernel_rfl) (by kernel_rfl) (fun _ _ _ h => h) (Or.inl ⟨by rfl, ?_⟩) hHeld ?_
    rotate_left
    · intro w hSw
      clear hSw
      go_simp
      try with_reducible rfl
    try simp only [Act.put, List.setIfInBounds_toArray, List.set_cons_zero, List.set_cons_succ]
    refine wpAnyH_take (i := 14) (oi := { dst := some 93, op := Op.fieldAddr 33 (Operand.tmp 8) 15, type := 0, pos := "outright.go:80", after := #[{ on := 13, ground := Ground.guard }], guard := some (13, true) }) (v := ?_) rfl (by kernel_rfl) (by kernel_rfl) (by kernel_rfl) (fun _ _ _ h => h) (Or.inl ⟨by rfl, ?_⟩) hHeld ?_
    rotate_left
    · intro w hSw
      clear hSw
      go_simp
      try with_reducible rfl
    try simp only [Act.put, List.setIfInBounds_toArray, List.set_cons_zero, List.set_cons_succ]
    refine wpAnyH_take (i := 15) (oi := { dst := some 94, op := Op.load 29 (Operand.tmp 93), type := 29, pos := "outright.go:80", after := #[{ on := 14, ground := Ground.data }, { on := 13, ground := Ground.guard }], guard := some (13, true) }) (v := ?_) rfl (by kernel_rfl) (by kernel_rfl) (by kernel_rfl) (fun _ _ _ h => h) (Or.inl ⟨by rfl, ?_⟩) hHeld ?_
    rotate_left
    · intro w hSw
      have b2 : w.cell? ⟨k8, 2, none⟩ = some (.string N) := by rw [← HXN.out]; exact (hSw.q8.c 2).trans rfl
      have b3 : w.cell? ⟨k8, 3, none⟩ = some (.bool true) := by rw [← HHM.out]; exact (hSw.q8.c 3).trans rfl
      have b5 : w.cell? ⟨k8, 5, none⟩ = some (.bool false) := by rw [← HXP.out]; exact (hSw.q8.c 5).trans rfl
      have b13 : w.cell? ⟨k8, 13, none⟩ = some (.bool false) := by rw [← HXR.out]; exact (hSw.q8.c 13).trans rfl
      have b15 : w.cell? ⟨k8, 15, none⟩ = some (.slice x.kA 0 x.kC) := by rw [show 0 = x.clus.length by rw [HXK.out]; rfl]; exact (hSw.q8.c 15).trans rfl
      have b22 : w.cell? ⟨s + 1, 22, none⟩ = some (.int .i64 1) := by rw [← HKM.out rfl]; exact (hSw.bx.p.c 22).trans rfl
      go_simp
      try with_reducible rfl
    try simp only [Act.put, List.setIfInBounds_toArray, List.set_cons_zero, List.set_cons_succ]
    refine wpAnyH_take (i := 16) (oi := { dst := some 95, op := Op.call { callee := Callee.builtin Builtin.len, args := #[Operand.tmp 94], argTypes := #[29] }, type := 3, pos := "outright.go:80", after := #[{ on := 15, ground := Ground.data }, { on := 13, ground := Ground.guard }], guard := some (13, true) }) (v := ?_) rfl (by kernel_rfl) (by kernel_rfl) (by kernel_rfl) (fun _ _ _ h => h) (Or.inl ⟨by rfl, ?_⟩) hHeld ?_
    rotate_left
    · intro w hSw
      clear hSw
      go_simp
      try with_reducible rfl
    try simp only [Act.put, List.setIfInBounds_toArray, List.set_cons_zero, List.set_cons_succ]
    refine wpAnyH_take (i := 17) (oi := { dst := some 96, op := Op.binOp BinOp.eql 3 (Operand.tmp 95) (Operand.const (Value.int IntKind.i64 0)) 3, type := 4, pos := "outright.go:80", after := #[{ on := 16, ground := Ground.data }, { on := 13, ground := Ground.guard }], guard := some (13, true) }) (v := ?_) rfl (by kernel_rfl) (by kernel_rfl) (by kernel_rfl) (fun _ _ _ h => h) (Or.inl ⟨by rfl, ?_⟩) hHeld ?_
    rotate_left
    · intro w hSw
      clear hSw
      go_simp
      try with_reducible rfl
    try simp only [Act.put, List.setIfInBounds_toArray, List.set_cons_zero, List.set_cons_succ]
    refine wpAnyH_take (i := 18) (oi := { dst := some 97, op := Op.pick (Operand.tmp 92) (Operand.tmp 96) (Operand.const (Value.bool false)), type := 4, pos := "outright.go:80", after := #[{ on := 13, ground := Ground.data }, { on := 17, ground := Ground.data }], guard := none }) (v := ?_) rfl (by kernel_rfl) (by kernel_rfl) (by kernel_rfl) (fun _ _ _ h => h) (Or.inl ⟨by rfl, ?_⟩) hHeld ?_
    rotate_left
    · intro w hSw
      clear hSw
      go_simp
      try with_reducible rfl
    try simp only [Act.put, List.setIfInBounds_toArray, List.set_cons_zero, List.set_cons_succ]
    refine wpAnyH_take (i := 19) (oi := { dst := some 98, op := Op.move (Operand.tmp 97), type := 4, pos := "outright.go:80", after := #[{ on := 18, ground := Ground.data }, { on := 13, ground := Ground.chain }], guard := none }) (v := ?_) rfl (by kernel_rfl) (by kernel_rfl) (by kernel_rfl) (fun _ _ _ h => h) (Or.inl ⟨by rfl, ?_⟩) hHeld ?_
    rotate_left
    · intro w hSw
      clear hSw
      go_simp
      try with_reducible rfl
    try simp only [Act.put, List.setIfInBounds_toArray, List.set_cons_zero, List.set_cons_succ]
    refine wpAnyH_take (i := 20) (oi := { dst := some 99, op := Op.fieldAddr 33 (Operand.tmp 8) 2, type := 0, pos := "outright.go:80", after := #[{ on := 19, ground := Ground.guard }], guard := some (19, true) }) (v := ?_) rfl (by kernel_rfl) (by kernel_rfl) (by kernel_rfl) (fun _ _ _ h => h) (Or.inl ⟨by rfl, ?_⟩) hHeld ?_
    rotate_left
    · intro w hSw
      clear hSw
      go_simp
      try with_reducible rfl
    try simp only [Act.put, List.setIfInBounds_toArray, List.set_cons_zero, List.set_cons_succ]
    refine wpAnyH_take (i := 21) (oi := { dst := some 100, op := Op.load 9 (Operand.tmp 99), type := 9, pos := "outright.go:80", after := #[{ on := 20, ground := Ground.data }, { on := 19, ground := Ground.guard }], guard := some (19, true) }) (v := ?_) rfl (by kernel_rfl) (by kernel_rfl) (by kernel_rfl) (fun _ _ _ h => h) (Or.inl ⟨by rfl, ?_⟩) hHeld ?_
    rotate_left
    · intro w hSw
      have b2 : w.cell? ⟨k8, 2, none⟩ = some (.string N) := by rw [← HXN.out]; exact (hSw.q8.c 2).trans rfl
      have b3 : w.cell? ⟨k8, 3, none⟩ = some (.bool true) := by rw [← HHM.out]; exact (hSw.q8.c 3).trans rfl
      have b5 : w.cell? ⟨k8, 5, none⟩ = some (.bool false) := by rw [← HXP.out]; exact (hSw.q8.c 5).trans rfl
      have b13 : w.cell? ⟨k8, 13, none⟩ = some (.bool false) := by rw [← HXR.out]; exact (hSw.q8.c 13).trans rfl
      have b15 : w.cell? ⟨k8, 15, none⟩ = some (.slice x.kA 0 x.kC) := by rw [show 0 = x.clus.length by rw [HXK.out]; rfl]; exact (hSw.q8.c 15).trans rfl
      have b22 : w.cell? ⟨s + 1, 22, none⟩ = some (.int .i64 1) := by rw [← HKM.out rfl]; exact (hSw.bx.p.c 22).trans rfl
      go_simp
      try with_reducible rfl
    try simp only [Act.put, List.setIfInBounds_toArray, List.set_cons_zero, List.set_cons_succ]
    refine wpAnyH_take (i := 22) (oi := { dst := some 101, op := Op.load 49 (Operand.tmp 7), type := 49, pos := "outright.go:80", after := #[{ on := 19, ground := Ground.guard }], guard := some (19, true) }) (v := .agg g.ar) rfl (by kernel_rfl) (by kernel_rfl) (by kernel_rfl) (fun _ _ _ h => h) (yields_row (by rfl) _ _ rfl k7 0 (by rfl) g.ar confS 13 confZ rfl (fun w h => whole_range h.q7)) hHeld ?_
    try simp only [Act.put, List.setIfInBounds_toArray, List.set_cons_zero, List.set_cons_succ]
    refine wpAnyH_take (i := 23) (oi := { dst := some 102, op := Op.load 37 (Operand.tmp 4), type := 37, pos := "outright.go:80", after := #[{ on := 19, ground := Ground.guard }], guard := some (19, true) }) (v := .agg p.ar) rfl (by kernel_rfl) (by kernel_rfl) (by kernel_rfl) (fun _ _ _ h => h) (yields_row (by rfl) _ _ rfl (s + 1) 0 (by rfl) p.ar pathS 29 pathZ rfl (fun w h => whole_range h.bx.p)) hHeld ?_
    try simp only [Act.put, List.setIfInBounds_toArray, List.set_cons_zero, List.set_cons_succ]
    refine wpAnyH_take (i := 24) (oi := { dst := some 103, op := Op.load 40 (Operand.tmp 5), type := 40, pos := "outright.go:80", after := #[{ on := 19, ground := Ground.guard }], guard := some (19, true) }) (v := .agg t2.ar) rfl (by kernel_rfl) (by kernel_rfl) (by kernel_rfl) (fun _ _ _ h => h) (yields_row (by rfl) _ _ rfl (s + 1 + 1) 0 (by rfl) t2.ar peerS 23 peerZ rfl (fun w h => whole_range h.bx.t)) hHeld ?_
    try simp only [Act.put, List.setIfInBounds_toArray, List.set_cons_zero, List.set_cons_succ]
    refine wpAnyH_ready (rs := [25]) (by kernel_rfl) (by simp) ?_
    refine AllReadyH.cons (o := { dst := some 104, op := Op.call { callee := Callee.value (Operand.func 18), args := #[Operand.tmp 101, Operand.tmp 102, Operand.tmp 103], argTypes := #[49, 37, 40] }, type := 9, pos := "outright.go:80", after := #[{ on := 22, ground := Ground.data }, { on := 23, ground := Ground.data }, { on := 24, ground := Ground.data }, { on := 19, ground := Ground.chain }, { on := 19, ground := Ground.guard }], guard := some (19, true) }) rfl (fun K hK => ?_) AllReadyH.nil
    go_simp
    refine (HNX.out _).mono ?_
    rintro e wG ⟨rfl, hb6⟩
    have HS6 := Lib.hid hHeld
    refine hK.out _ _ (HS6.out.below hb6) (fun hHeld => ?_)
    clear hK K
    try simp only [Act.put, List.setIfInBounds_toArray, List.set_cons_zero, List.set_cons_succ]
    refine wpAnyH_take (i := 26) (oi := { dst := some 105, op := Op.binOp BinOp.eql 9 (Operand.tmp 100) (Operand.tmp 104) 9, type := 4, pos := "outright.go:80", after := #[{ on := 21, ground := Ground.data }, { on := 25, ground := Ground.data }, { on := 19, ground := Ground.guard }], guard := some (19, true) }) (v := ?_) rfl (by kernel_rfl) (by kernel_rfl) (by kernel_rfl) (fun _ _ _ h => h) (Or.inl ⟨by rfl, ?_⟩) hHeld ?_
    rotate_left
    · intro w hSw
      clear hSw
      go_simp
      try with_reducible rfl
    try simp only [Act.put, List.setIfInBounds_toArray, List.set_cons_zero, List.set_cons_succ]
    refine wpAnyH_take (i := 27) (oi := { dst := some 106, op := Op.pick (Operand.tmp 98) (Operand.tmp 105) (Operand.const (Value.bool false)), type := 4, pos := "outright.go:80", after := #[{ on := 19, ground := Ground.data }, { on := 26, ground := Ground.data }], guard := none }) (v := ?_) rfl (by kernel_rfl) (by kernel_rfl) (by kernel_rfl) (fun _ _ _ h => h) (Or.inl ⟨by rfl, ?_⟩) hHeld ?_
    rotate_left
    · intro w hSw
      clear hSw
      go_simp
      try with_reducible rfl
    try simp only [Act.put, List.setIfInBounds_toArray, List.set_cons_zero, List.set_cons_succ]
    refine wpAnyH_take (i := 28) (oi := { dst := some 107, op := Op.move (Operand.tmp 106), type := 4, pos := "outright.go:80", after := #[{ on := 27, ground := Ground.data }, { on := 25, ground := Ground.chain }], guard := none }) (v := ?_) rfl (by kernel_rfl) (by kernel_rfl) (by kernel_rfl) (fun _ _ _ h => h) (Or.inl ⟨by rfl, ?_⟩) hHeld ?_
    rotate_left
    · intro w hSw
      clear hSw
      go_simp
      try with_reducible rfl
    try simp only [Act.put, List.setIfInBounds_toArray, List.set_cons_zero, List.set_cons_succ]
    refine wpAnyH_take (i := 29) (oi := { dst := some 108, op := Op.fieldAddr 33 (Operand.tmp 8) 3, type := 0, pos := "outright.go:80", after := #[{ on := 28, ground := Ground.guard }], guard := some (28, true) }) (v := ?_) rfl (by kernel_rfl) (by kernel_rfl) (by kernel_rfl) (fun _ _ _ h => h) (Or.inl ⟨by rfl, ?_⟩) hHeld ?_
    rotate_left
    · intro w hSw
      clear hSw
      go_simp
      try with_reducible rfl
    try simp only [Act.put, List.setIfInBounds_toArray, List.set_cons_zero, List.set_cons_succ]
    refine wpAnyH_take (i := 30) (oi := { dst := some 109, op := Op.load 4 (Operand.tmp 108), type := 4, pos := "outright.go:80", after := #[{ on := 29, ground := Ground.data }, { on := 28, ground := Ground.guard }], guard := some (28, true) }) (v := ?_) rfl (by kernel_rfl) (by kernel_rfl) (by kernel_rfl) (fun _ _ _ h => h) (Or.inl ⟨by rfl, ?_⟩) hHeld ?_
    rotate_left
    · intro w hSw
      have b2 : w.cell? ⟨k8, 2, none⟩ = some (.string N) := by rw [← HXN.out]; exact (hSw.q8.c 2).trans rfl
      have b3 : w.cell? ⟨k8, 3, none⟩ = some (.bool true) := by rw [← HHM.out]; exact (hSw.q8.c 3).trans rfl
      have b5 : w.cell? ⟨k8, 5, none⟩ = some (.bool false) := by rw [← HXP.out]; exact (hSw.q8.c 5).trans rfl
      have b13 : w.cell? ⟨k8, 13, none⟩ = some (.bool false) := by rw [← HXR.out]; exact (hSw.q8.c 13).trans rfl
      have b15 : w.cell? ⟨k8, 15, none⟩ = some (.slice x.kA 0 x.kC) := by rw [show 0 = x.clus.length by rw [HXK.out]; rfl]; exact (hSw.q8.c 15).trans rfl
      have b22 : w.cell? ⟨s + 1, 22, none⟩ = some (.int .i64 1) := by rw [← HKM.out rfl]; exact (hSw.bx.p.c 22).trans rfl
      go_simp
      try with_reducible rfl
    try simp only [Act.put, List.setIfInBounds_toArray, List.set_cons_zero, List.set_cons_succ]
    refine wpAnyH_take (i := 31) (oi := { dst := some 110, op := Op.unOp UnOp.not 4 (Operand.tmp 109), type := 4, pos := "outright.go:80", after := #[{ on := 30, ground := Ground.data }, { on := 28, ground := Ground.guard }], guard := some (28, true) }) (v := ?_) rfl (by kernel_rfl) (by kernel_rfl) (by kernel_rfl) (fun _ _ _ h => h) (Or.inl ⟨by rfl, ?_⟩) hHeld ?_
    rotate_left
    · intro w hSw
      clear hSw
      go_simp
      try with_reducible rfl
    try simp only [Act.put, List.setIfInBounds_toArray, List.set_cons_zero, List.set_cons_succ]
    refine wpAnyH_take (i := 32) (oi := { dst := some 111, op := Op.move (Operand.tmp 110), type := 4, pos := "outright.go:80", after := #[{ on := 31, ground := Ground.data }, { on := 28, ground := Ground.chain }, { on := 28, ground := Ground.guard }], guard := some (28, true) }) (v := ?_) rfl (by kernel_rfl) (by kernel_rfl) (by kernel_rfl) (fun _ _ _ h => h) (Or.inl ⟨by rfl, ?_⟩) hHeld ?_
    rotate_left
    · intro w hSw
      clear hSw
      go_simp
      try with_reducible rfl
    try simp only [Act.put, List.setIfInBounds_toArray, List.set_cons_zero, List.set_cons_succ]
    refine wpAnyH_take (i := 33) (oi := { dst := some 112, op := Op.fieldAddr 37 (Operand.tmp 4) 4, type := 0, pos := "outright.go:80", after := #[{ on := 32, ground := Ground.guard }], guard := some (32, false) }) (v := ?_) rfl (by kernel_rfl) (by kernel_rfl) (by kernel_rfl) (fun _ _ _ h => h) (Or.inl ⟨by rfl, ?_⟩) hHeld ?_
    rotate_left
    · intro w hSw
      clear hSw
      go_simp
      try with_reducible rfl
    try simp only [Act.put, List.setIfInBounds_toArray, List.set_cons_zero, List.set_cons_succ]
    refine wpAnyH_take (i := 34) (oi := { dst := some 113, op := Op.fieldAddr 35 (Operand.tmp 112) 0, type := 0, pos := "outright.go:80", after := #[{ on := 33, ground := Ground.data }, { on := 32, ground := Ground.guard }], guard := some (32, false) }) (v := ?_) rfl (by kernel_rfl) (by kernel_rfl) (by kernel_rfl) (fun _ _ _ h => h) (Or.inl ⟨by rfl, ?_⟩) hHeld ?_
    rotate_left
    · intro w hSw
      clear hSw
      go_simp
      try with_reducible rfl
    try simp only [Act.put, List.setIfInBounds_toArray, List.set_cons_zero, List.set_cons_succ]
    refine wpAnyH_take (i := 35) (oi := { dst := some 114, op := Op.load 3 (Operand.tmp 113), type := 3, pos := "outright.go:80", after := #[{ on := 34, ground := Ground.data }, { on := 32, ground := Ground.guard }], guard := some (32, false) }) (v := ?_) rfl (by kernel_rfl) (by kernel_rfl) (by kernel_rfl) (fun _ _ _ h => h) (Or.inl ⟨by rfl, ?_⟩) hHeld ?_
    rotate_left
    · intro w hSw
      have b2 : w.cell? ⟨k8, 2, none⟩ = some (.string N) := by rw [← HXN.out]; exact (hSw.q8.c 2).trans rfl
      have b3 : w.cell? ⟨k8, 3, none⟩ = some (.bool true) := by rw [← HHM.out]; exact (hSw.q8.c 3).trans rfl
      have b5 : w.cell? ⟨k8, 5, none⟩ = some (.bool false) := by rw [← HXP.out]; exact (hSw.q8.c 5).trans rfl
      have b13 : w.cell? ⟨k8, 13, none⟩ = some (.bool false) := by rw [← HXR.out]; exact (hSw.q8.c 13).trans rfl
      have b15 : w.cell? ⟨k8, 15, none⟩ = some (.slice x.kA 0 x.kC) := by rw [show 0 = x.clus.length by rw [HXK.out]; rfl]; exact (hSw.q8.c 15).trans rfl
      have b22 : w.cell? ⟨s + 1, 22, none⟩ = some (.int .i64 1) := by rw [← HKM.out rfl]; exact (hSw.bx.p.c 22).trans rfl
      go_simp
      try with_reducible rfl
    try simp only [Act.put, List.setIfInBounds_toArray, List.set_cons_zero, List.set_cons_succ]
    refine wpAnyH_take (i := 36) (oi := { dst := some 115, op := Op.binOp BinOp.eql 3 (Operand.tmp 114) (Operand.const (Value.int IntKind.i64 1)) 3, type := 4, pos := "outright.go:80", after := #[{ on := 35, ground := Ground.data }, { on := 32, ground := Ground.guard }], guard := some (32, false) }) (v := ?_) rfl (by kernel_rfl) (by kernel_rfl) (by kernel_rfl) (fun _ _ _ h => h) (Or.inl ⟨by rfl, ?_⟩) hHeld ?_
    rotate_left
    · intro w hSw
      clear hSw
      go_simp
      try with_reducible rfl
    try simp only [Act.put, List.setIfInBounds_toArray, List.set_cons_zero, List.set_cons_succ]
    refine wpAnyH_take (i := 37) (oi := { dst := some 116, op := Op.pick (Operand.tmp 111) (Operand.const (Value.bool true)) (Operand.tmp 115), type := 4, pos := "outright.go:80", after := #[{ on := 32, ground := Ground.data }, { on := 36, ground := Ground.data }, { on := 28, ground := Ground.guard }], guard := some (28, true) }) (v := ?_) rfl (by kernel_rfl) (by kernel_rfl) (by kernel_rfl) (fun _ _ _ h => h) (Or.inl ⟨by rfl, ?_⟩) hHeld ?_
    rotate_left
    · intro w hSw
      clear hSw
      go_simp
      try with_reducible rfl
    try simp only [Act.put, List.setIfInBounds_toArray, List.set_cons_zero, List.set_cons_succ]
    refine wpAnyH_take (i := 38) (oi := { dst := some 117, op := Op.pick (Operand.tmp 107) (Operand.tmp 116) (Operand.const (Value.bool false)), type := 4, pos := "outright.go:80", after := #[{ on := 28, ground := Ground.data }, { on := 37, ground := Ground.data }], guard := none }) (v := ?_) rfl (by kernel_rfl) (by kernel_rfl) (by kernel_rfl) (fun _ _ _ h => h) (Or.inl ⟨by rfl, ?_⟩) hHeld ?_
    rotate_left
    · intro w hSw
      clear hSw
      go_simp
      try with_reducible rfl
    try simp only [Act.put, List.setIfInBounds_toArray, List.set_cons_zero, List.set_cons_succ]
    refine wpAnyH_take (i := 39) (oi := { dst := some 6, op := Op.assign (Operand.tmp 117), type := 4, pos := "outright.go:80", after := #[{ on := 38, ground := Ground.data }, { on := 32, ground := Ground.chain }, { on := 0, ground := Ground.phase }, { on := 1, ground := Ground.phase }, { on := 2, ground := Ground.phase }, { on := 3, ground := Ground.phase }, { on := 4, ground := Ground.phase }, { on := 5, ground := Ground.phase }, { on := 6, ground := Ground.phase }, { on := 7, ground := Ground.phase }, { on := 8, ground := Ground.phase }, { on := 9, ground := Ground.phase }, { on := 10, ground := Ground.phase }, { on := 11, ground := Ground.phase }, { on := 12, ground := Ground.phase }, { on := 13, ground := Ground.phase }, { on := 14, ground := Ground.phase }, { on := 15, ground := Ground.phase }, { on := 16, ground := Ground.phase }, { on := 17, ground := Ground.phase }, { on := 18, ground := Ground.phase }, { on := 19, ground := Ground.phase }, { on := 20, ground := Ground.phase }, { on := 21, ground := Ground.phase }, { on := 22, ground := Ground.phase }, { on := 23, ground := Ground.phase }, { on := 24, ground := Ground.phase }, { on := 25, ground := Ground.phase }, { on := 26, ground := Ground.phase }, { on := 27, ground := Ground.phase }, { on := 28, ground := Ground.phase }, { on := 29, ground := Ground.phase }, { on := 30, ground := Ground.phase }, { on := 31, ground := Ground.phase }, { on := 32, ground := Ground.phase }, { on := 33, ground := Ground.phase }, { on := 34, ground := Ground.phase }, { on := 35, ground := Ground.phase }, { on := 36, ground := Ground.phase }, { on := 37, ground := Ground.phase }, { on := 38, ground := Ground.phase }], guard := none }) (v := ?_) rfl (by kernel_rfl) (by kernel_rfl) (by kernel_rfl) (fun _ _ _ h => h) (Or.inl ⟨by rfl, ?_⟩) hHeld ?_
    rotate_left
    · intro w hSw
      clear hSw
      go_simp
      try with_reducible rfl
    try simp only [Act.put, List.setIfInBounds_toArray, List.set_cons_zero, List.set_cons_succ]
    refine wpAnyH_done (by kernel_rfl) ?_ _
    have HE := Lib.hid hHeld
    clear hHeld
    go_wp2_with fail
    go_ret
    exact ⟨rfl, HE.out.bx.b⟩
end Go.Proofs.YtojiieghjhjoaaaGreat
