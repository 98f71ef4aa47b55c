/-
  Several texts in one.
-/
import Derived.Test.YtojiieghjhjoaaaGreatKN16
set_option linter.unusedVariables false
set_option linter.unusedSimpArgs false
namespace Go.Proofs.YtojiieghjhjoaaaGreat
open Go.RowKit Go.MapKept Go.Shelf
open Go.Lib hiding intOf

theorem Sg.c_eq {s t : Sg} : s.c = t.c ↔ s.kind = t.kind ∧ s.as_ = t.as_ := by
  unfold Sg.c
  exact Prod.mk.injEq _ _ _ _ ▸ Iff.rfl
def sgW (w : World) (s t : Sg) : World := (w.alloc (.cells #[.int .i64 s.kind, .slice s.A s.as_.length s.cap] 67)).alloc (.cells #[.int .i64 t.kind, .slice t.A t.as_.length t.cap] 67)
set_option maxRecDepth 100000 in
set_option maxHeartbeats 8000000 in
theorem same1_any (s t : Sg) (w : World) (h1 : SgOk w s) (h2 : SgOk w t) :
    Calls Tryz.prog 51 #[.agg #[.int .i64 s.kind, .slice s.A s.as_.length s.cap], .agg #[.int .i64 t.kind, .slice t.A t.as_.length t.cap]] w fun e w' => e = .returned (.bool (decide (s.c = t.c))) ∧ Below w.heap.size w w' := by
  have HB : Hid (Below w.heap.size w (sgW w s t)) := ((Below.refl _ _).alloc (Nat.le_refl _) _).alloc (by simp) _
  have HQ := Lib.hid (eq_u32 s.A t.A s.cap t.cap s.as_ t.as_ (sgW w s t) (h1.rd.below HB.out (Nat.le_refl _)) (h2.rd.below HB.out (Nat.le_refl _)) h1.len h2.len h1.cap h2.cap)
  have hsz : w.heap.size ≤ (sgW w s t).heap.size := HB.out.size
  unfold sgW at HB HQ hsz
  clear h1 h2
  by_cases hk : s.kind = t.kind
  · have hq : decide (s.c = t.c) = decide (s.as_ = t.as_) := decide_eq_decide.2 (by rw [Sg.c_eq]; exact ⟨fun h => h.2, fun h => ⟨hk, h⟩⟩)
    rw [hq]
    have he : (s.kind == t.kind) = true := beq_iff_eq.2 hk
    clear hq hk
    generalize decide (s.as_ = t.as_) = r at HQ ⊢
    go_enter Tryz.func51, Tryz.ntmps51
    go_wp2_with fail
    refine HQ.out.mono ?_
    rintro e w1 ⟨rfl, hb⟩
    have HB1 : Hid (Below w.heap.size w w1) := HB.out.trans (hb.mono hsz)
    clear hb
    go_wp2_with fail
    go_ret
    exact ⟨rfl, HB1.out⟩
  · have hq : decide (s.c = t.c) = false := decide_eq_false (fun h => hk (Sg.c_eq.1 h).1)
    rw [hq]
    have he : (s.kind == t.kind) = false := beq_eq_false_iff_ne.2 hk
    clear hq hk HQ
    go_enter Tryz.func51, Tryz.ntmps51
    go_wp2_with fail
    go_ret
    exact ⟨rfl, HB.out⟩
theorem map_alike {l m : List Sg} (hl : l.length = m.length) (h : ∀ j, j < l.length → (l.map Sg.c)[j]? = (m.map Sg.c)[j]?) : l.map Sg.c = m.map Sg.c :=
  list_alike (by rw [List.length_map, List.length_map]; exact hl) (fun j hj => h j (by rwa [List.length_map] at hj))
theorem map_unlike {l m : List Sg} {k : Nat} {s t : Sg} (hx : l[k]? = some s) (hy : m[k]? = some t) (h : s.c ≠ t.c) : ¬ l.map Sg.c = m.map Sg.c :=
  list_unlike (k := k) (by rw [List.getElem?_map, hx]; rfl) (by rw [List.getElem?_map, hy]; rfl) h
theorem map_step {l m : List Sg} {k : Nat} {s t : Sg} (hx : l[k]? = some s) (hy : m[k]? = some t) (h : s.c = t.c) (hE : ∀ j, j < k → (l.map Sg.c)[j]? = (m.map Sg.c)[j]?) : ∀ j, j < k + 1 → (l.map Sg.c)[j]? = (m.map Sg.c)[j]? := fun j hj => by
  by_cases e : j = k
  · subst e
    rw [List.getElem?_map, List.getElem?_map, hx, hy]
    exact congrArg some h
  · exact hE j (by omega)
set_option maxRecDepth 100000 in
set_option maxHeartbeats 8000000 in
theorem eqf_any (A B : Option Addr) (c d : Nat) (l m : List Sg) (w : World) (h1 : SegsOk w A c l) (h2 : SegsOk w B d m) :
    Calls Tryz.prog 50 #[.slice A l.length c, .slice B m.length d, .func (.func 51) #[] #[]] w fun e w' => e = .returned (.bool (decide (l.map Sg.c = m.map Sg.c))) ∧ Below w.heap.size w w' := by
  have H1 := Lib.hid h1
  have H2 := Lib.hid h2
  have l1 := h1.len
  have l2 := h2.len
  have l3 := h1.cap
  have l4 := h2.cap
  have HS1 := Lib.hid same1_any
  clear h1 h2
  by_cases hl : l.length = m.length
  · generalize hr : decide (l.map Sg.c = m.map Sg.c) = r
    have HR := Lib.hid hr
    clear hr
    have HLE := Lib.hid hl
    generalize hm : m.length = mm at hl l2 ⊢
    subst hl
    clear hm
    have z1 : ((l.length : Int) != (l.length : Int)) = false := by simp
    go_enter Tryz.func50, Tryz.ntmps50
    go_wp2_with fail
    go_loopw [17] (fun i wr => ∃ k : Nat, k ≤ l.length ∧ i = .int .i64 k ∧ Hid (Below w.heap.size w wr) ∧ Hid (∀ j, j < k → (l.map Sg.c)[j]? = (m.map Sg.c)[j]?)) (fun i _ => l.length + 1 - (intOf i).toNat)
    case atStart => exact ⟨0, by omega, rfl, Below.refl _ _, fun j hj => by omega⟩
    case round =>
      obtain ⟨k, hk, rfl, HB, HE⟩ := hrel
      by_cases hlt : k < l.length
      · obtain ⟨s, hx⟩ : ∃ x, l[k]? = some x := ⟨l[k], List.getElem?_eq_getElem hlt⟩
        obtain ⟨t, hy⟩ : ∃ y, m[k]? = some y := ⟨m[k]'(by have := HLE.out; omega), List.getElem?_eq_getElem (by have := HLE.out; omega)⟩
        have HO1 := H1.out.below HB.out (Nat.le_refl _)
        have HO2 := H2.out.below HB.out (Nat.le_refl _)
        obtain ⟨b1, o1, rfl, hb1, p0, p1⟩ := sg_cells HO1.rd hx
        obtain ⟨b2, o2, rfl, hb2, q0, q1⟩ := sg_cells HO2.rd hy
        have HBW : Hid (Below wr.heap.size wr (sgW wr s t)) := ((Below.refl _ _).alloc (Nat.le_refl _) _).alloc (by simp) _
        have HCL := Lib.hid (HS1.out s t (sgW wr s t) ((HO1.segs s (List.mem_of_getElem? hx)).below HBW.out (Nat.le_refl _)) ((HO2.segs t (List.mem_of_getElem? hy)).below HBW.out (Nat.le_refl _)))
        have hsz : wr.heap.size ≤ (sgW wr s t).heap.size := HBW.out.size
        have hsw := HB.out.size
        unfold sgW at HBW HCL hsz
        have HX := Lib.hid hx
        have HY := Lib.hid hy
        clear hx hy HO1 HO2
        by_cases hst : s.c = t.c
        · rw [decide_eq_true hst] at HCL
          have HST := Lib.hid hst
          clear hst
          go_wp2_with fail
          refine HCL.out.mono ?_
          rintro e w1 ⟨rfl, hb⟩
          have HB1 : Hid (Below w.heap.size w w1) := HB.out.trans ((HBW.out.trans (hb.mono hsz)).mono hsw)
          clear hb
          go_wp2_with fail
          exact ⟨⟨k + 1, by omega, by go_num, HB1.out, map_step HX.out HY.out HST.out HE.out⟩, by simp [intOf]; omega⟩
        · rw [decide_eq_false hst] at HCL
          obtain rfl : r = false := by rw [← HR.out]; exact decide_eq_false (map_unlike HX.out HY.out hst)
          clear hst
          go_wp2_with fail
          refine HCL.out.mono ?_
          rintro e w1 ⟨rfl, hb⟩
          have HB1 : Hid (Below w.heap.size w w1) := HB.out.trans ((HBW.out.trans (hb.mono hsz)).mono hsw)
          clear hb
          go_wp2_with fail
          go_ret
          exact ⟨rfl, HB1.out⟩
      · obtain rfl : k = l.length := by omega
        obtain rfl : r = true := by rw [← HR.out]; exact decide_eq_true (map_alike HLE.out HE.out)
        go_wp2_with fail
        go_ret
        exact ⟨rfl, HB.out⟩
  · have hr : decide (l.map Sg.c = m.map Sg.c) = false := decide_eq_false_iff_not.2 (fun e => hl (by rw [← List.length_map Sg.c, e, List.length_map]))
    rw [hr]
    have hne : ((l.length : Int) == (m.length : Int)) = false := by rw [beq_eq_false_iff_ne]; omega
    have hnb : ((l.length : Int) != (m.length : Int)) = true := by simp [bne, hne]
    clear hr hl
    go_enter Tryz.func50, Tryz.ntmps50
    go_wp2_with fail
    go_ret
    exact ⟨rfl, Below.refl _ _⟩
set_option maxHeartbeats 4000000 in
theorem psame_any (A B : Option Addr) (c d : Nat) (l m : List Sg) (w : World) (h1 : SegsOk w A c l) (h2 : SegsOk w B d m) :
    Calls Tryz.prog 24 #[.slice A l.length c, .slice B m.length d] w fun e w' => e = .returned (.bool (decide (l.map Sg.c = m.map Sg.c))) ∧ Below w.heap.size w w' := by
  have HQ := Lib.hid (eqf_any A B c d l m w h1 h2)
  clear h1 h2
  generalize decide (l.map Sg.c = m.map Sg.c) = r at HQ ⊢
  go_enter Tryz.func24, Tryz.ntmps24
  go_wp2_with fail
  refine HQ.out.mono ?_
  rintro e w1 ⟨rfl, hb⟩
  have HB := Lib.hid hb
  clear hb
  go_wp2_with fail
  go_ret
  exact ⟨rfl, HB.out⟩

end Go.Proofs.YtojiieghjhjoaaaGreat
