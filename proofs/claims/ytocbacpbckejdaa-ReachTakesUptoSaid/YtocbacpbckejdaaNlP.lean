/-
  Contracts of nlri.Decode joined, of reach.begin, slices.Contains; laws for values that are made. Conditions: sizes.
-/
import Derived.Test.YtocbacpbckejdaaNlK
import Derived.Test.YtocbacpbckejdaaNlL
import Derived.Test.YtocbacpbckejdaaNlM
import Derived.Test.YtocbacpbckejdaaNlN
import Derived.Test.YtocbacpbckejdaaNlO
import Derived.Test.YtocbacpbckejdaaWireR
set_option linter.unusedVariables false
set_option linter.unusedSimpArgs false
namespace Go.Proofs.Ytocbacpbckejdaa
open Go.RowKit

theorem decode_any (s : ByteArray) (f : Int) (add : Bool) (w : World) (h1 : 1 ≤ f) (h2 : f ≤ 5) (hs : s.size ≤ 1100000) :
    Calls Try.prog 40 #[.string s, .int .i64 f, .bool add] w (DecPost w s f add) := by
  rcases fam_five h1 h2 with rfl | rfl | rfl | rfl | rfl <;> cases add
  · exact decode_lai s 1 4 w h1 h2 rfl rfl rfl rfl (Or.inl rfl) hs
  · exact decode_laI s 1 4 w h1 h2 rfl rfl rfl rfl (Or.inl rfl) hs
  · exact decode_lai s 2 16 w h1 h2 rfl rfl rfl rfl (Or.inr rfl) hs
  · exact decode_laI s 2 16 w h1 h2 rfl rfl rfl rfl (Or.inr rfl) hs
  · exact decode_Lai s 3 4 w h1 h2 rfl rfl rfl rfl (Or.inl rfl) hs
  · exact decode_LaI s 3 4 w h1 h2 rfl rfl rfl rfl (Or.inl rfl) hs
  · exact decode_LAi s 4 4 w h1 h2 rfl rfl rfl rfl (Or.inl rfl) hs
  · exact decode_LAI s 4 4 w h1 h2 rfl rfl rfl rfl (Or.inl rfl) hs
  · exact decode_LAi s 5 16 w h1 h2 rfl rfl rfl rfl (Or.inr rfl) hs
  · exact decode_LAI s 5 16 w h1 h2 rfl rfl rfl rfl (Or.inr rfl) hs

/-- ints that are read -/
structure IntAt (w : World) (A : Option Addr) (c : Nat) (xs : List Int) : Prop where
  rd : 0 < xs.length → ∃ b off, A = some ⟨b, off, none⟩ ∧ b < w.heap.size ∧ ∀ i x, xs[i]? = some x → w.cell? ⟨b, off + i, none⟩ = some (.int .i64 x)
  len : xs.length ≤ c
  cap : c ≤ maxLen
theorem IntAt.below {w w' : World} {A : Option Addr} {c : Nat} {xs : List Int} {B : Nat} (h : IntAt w A c xs) (hb : Below B w w') (hB : w.heap.size ≤ B) : IntAt w' A c xs :=
  ⟨fun hl => by
    obtain ⟨b, off, hA, hlt, hc⟩ := h.rd hl
    exact ⟨b, off, hA, Nat.lt_of_lt_of_le hlt hb.size, fun i x hi => (hb.cell (p := ⟨b, off + i, none⟩) (Nat.lt_of_lt_of_le hlt hB)).trans (hc i x hi)⟩, h.len, h.cap⟩
def hasI (l : List Int) (n : Int) : Bool := l.any fun x => x == n
theorem hasI_take {l : List Int} {k : Nat} {x : Int} (n : Int) (h : l[k]? = some x) : hasI (l.take (k + 1)) n = (hasI (l.take k) n || x == n) := by
  unfold hasI
  rw [List.take_add_one, h, Option.toList_some, List.any_append, List.any_cons, List.any_nil, Bool.or_false]
theorem hasI_yes {l : List Int} {k : Nat} {x n : Int} (h : l[k]? = some x) (he : x = n) : hasI l n = true := by
  unfold hasI
  rw [List.any_eq_true]
  exact ⟨x, List.mem_of_getElem? h, by rw [he]; simp⟩
set_option maxHeartbeats 4000000 in
theorem index_int (A : Option Addr) (cap : Nat) (l : List Int) (n : Int) (w : World) (h : IntAt w A cap l) :
    Calls Try.prog 59 #[.slice A l.length cap, .int .i64 n] w fun e w' => ∃ r : Int, e = .returned (.int .i64 r) ∧ decide (0 ≤ r) = hasI l n ∧ w' = w := by
  have HR := Lib.hid h
  have hl := h.len
  have hc : cap ≤ 9223372036854775807 := h.cap
  clear h
  go_enter Try.func59, Try.ntmps59
  go_wp2_with fail
  go_loopw [8] (fun i wr => ∃ k : Nat, k ≤ l.length ∧ i = .int .i64 k ∧ hasI (l.take k) n = false ∧ wr = w) (fun i _ => l.length + 1 - (intOf i).toNat)
  case atStart => exact ⟨0, by omega, rfl, rfl, rfl⟩
  case round =>
    obtain ⟨k, hk, rfl, hno, hwr⟩ := hrel
    subst hwr
    have HNO := Lib.hid hno
    clear hno
    by_cases hlt : k < l.length
    · obtain ⟨x, hx⟩ : ∃ x, l[k]? = some x := ⟨l[k], List.getElem?_eq_getElem hlt⟩
      obtain ⟨b, off, rfl, hb, hcall⟩ := HR.out.rd (by omega)
      have hcell := hcall k x hx
      clear hcall
      have HX := Lib.hid hx
      clear hx
      by_cases he : n = x
      · have hq : (n == x) = true := by rw [he]; simp
        have HY := Lib.hid (hasI_yes HX.out he.symm)
        clear he
        go_wp2_with fail
        go_ret
        exact ⟨k, rfl, by rw [HY.out]; exact decide_eq_true (by omega), rfl⟩
      · have hq : (n == x) = false := beq_eq_false_iff_ne.2 he
        have HY : Hid (hasI (l.take (k + 1)) n = false) := by
          show _ = _
          rw [hasI_take n HX.out, HNO.out, beq_eq_false_iff_ne.2 (fun e => he e.symm)]
          rfl
        clear he
        go_wp2_with fail
        exact ⟨⟨k + 1, by omega, by go_num, HY.out, by trivial⟩, by simp [intOf]; omega⟩
    · obtain rfl : k = l.length := by omega
      rw [List.take_length] at HNO
      go_wp2_with fail
      go_ret
      exact ⟨-1, rfl, by rw [HNO.out]; rfl, rfl⟩
set_option maxHeartbeats 4000000 in
theorem contains_int (A : Option Addr) (cap : Nat) (l : List Int) (n : Int) (w : World) (h : IntAt w A cap l) :
    Calls Try.prog 42 #[.slice A l.length cap, .int .i64 n] w fun e w' => e = .returned (.bool (hasI l n)) ∧ w' = w := by
  have HI := Lib.hid (index_int A cap l n w h)
  clear h
  go_enter Try.func42, Try.ntmps42
  go_wp2_with fail
  refine HI.out.mono ?_
  rintro e w' ⟨r, rfl, hr, rfl⟩
  have HR := Lib.hid hr
  clear hr HI
  go_wp2_with fail
  go_ret
  refine ⟨?_, rfl⟩
  rw [← HR.out]
  rfl

/-- the pair at the head of a value -/
def pairF (s : ByteArray) : Int := famOf (beVal (s.data.toList.take 2) : Nat) (beVal ((s.extract 2 s.size).data.toList.take 1) : Nat)
def restF (s : ByteArray) : ByteArray := (s.extract 2 s.size).extract 1 (s.extract 2 s.size).size
theorem below_grownB {w w' : World} {b B : Nat} {w0 : World} (h : Below B w0 w) (hg : w.grownBy w' (some b)) (hb : B ≤ b) (hs : B ≤ w.heap.size) : Below B w0 w' := h.grown hg hs (fun k hk => by injection hk with hk; omega)
theorem number_any (b : Nat) (s : ByteArray) (n : Nat) (w : World) (h : RdAt w b s) (h0 : 1 ≤ n) (h1 : n ≤ 8) (hm : (s.size : Int) ≤ 9223372036854775807) :
    Calls Try.prog 38 #[.pointer (some ⟨b, 0, none⟩), .int .i64 n] w fun e w' => e = .returned (.tuple #[.int .u64 (tN s n : Nat), .bool (decide (n ≤ s.size))]) ∧ RdAt w' b (tR s n) ∧ w.grownBy w' (some b) := by
  by_cases hs : n ≤ s.size
  · rw [decide_eq_true hs, show tN s n = beVal (s.data.toList.take n) from if_pos hs, show tR s n = s.extract n s.size from if_pos hs]
    exact number_ok b s n w h h0 h1 hs hm
  · rw [decide_eq_false hs, show tN s n = 0 from if_neg hs, show tR s n = s from if_neg hs]
    exact number_short b s n w h h0 h1 (by omega) hm
/-- what a reading of a value's head stands on -/
structure HeadAt (w0 w : World) (s : ByteArray) : Prop where
  rd : RdAt w w0.heap.size s
  bl : Below w0.heap.size w0 w
theorem HeadAt.new (w : World) (s : ByteArray) : HeadAt w (w.alloc (.cells #[.bool true, .string s] 93)) s := ⟨heap_alloc_new w _, (Below.refl _ _).alloc (Nat.le_refl _) _⟩
theorem HeadAt.grown {w0 w w' : World} {s t : ByteArray} (h : HeadAt w0 w s) (hr : RdAt w' w0.heap.size t) (hg : w.grownBy w' (some w0.heap.size)) : HeadAt w0 w' t := ⟨hr, below_grownB h.bl hg (Nat.le_refl _) h.bl.size⟩
theorem HeadAt.below {w0 w w' : World} {s : ByteArray} (h : HeadAt w0 w s) (hb : Below w.heap.size w w') : HeadAt w0 w' s := ⟨h.rd.below hb h.rd.lt, h.bl.trans (hb.mono h.bl.size)⟩
theorem HeadAt.set {w0 w : World} {s : ByteArray} (h : HeadAt w0 w s) (t : ByteArray) : HeadAt w0 (w.setCell ⟨w0.heap.size, 1, none⟩ (.string t)) t := ⟨h.rd.set t, h.bl.setCell (p := ⟨w0.heap.size, 1, none⟩) (Nat.le_refl _) _⟩
set_option maxRecDepth 100000 in
set_option maxHeartbeats 4000000 in
theorem begin_short (s : ByteArray) (w : World) (hs : s.size < 3) :
    Calls Try.prog 37 #[.string s] w fun e w' => e = .returned (.tuple #[.pointer (some ⟨w.heap.size, 0, none⟩), .int .i64 0, .int .i64 4]) ∧ Below w.heap.size w w' := by
  have H0 := Lib.hid (HeadAt.new w s)
  by_cases h2 : s.size < 2
  · obtain ⟨z, HZ⟩ : ∃ z, Hid (z = tN s 1) := ⟨_, rfl⟩
    obtain ⟨b, HBO⟩ : ∃ b, Hid (b = decide (1 ≤ s.size)) := ⟨_, rfl⟩
    clear hs
    go_enter Try.func37, Try.ntmps37
    go_wp2_with fail
    refine (new_any s _).mono ?_
    rintro e w1 ⟨rfl, hw⟩
    rw [hw]
    clear hw
    go_wp2_with fail
    refine (number_short w.heap.size s 2 _ H0.out.rd (by omega) (by omega) h2 (by omega)).mono ?_
    rintro e w1 ⟨rfl, hr, hg⟩
    have H1 := Lib.hid (H0.out.grown hr hg)
    clear hr hg H0
    go_wp2_with fail
    refine (number_any w.heap.size s 1 _ H1.out.rd (by omega) (by omega) (by omega)).mono ?_
    rintro e w2 ⟨rfl, hr, hg⟩
    rw [← HZ.out, ← HBO.out]
    have H2 := Lib.hid (H1.out.grown hr hg)
    clear hr hg H1
    go_wp2_with fail
    go_ret3
    exact ⟨rfl, H2.out.bl⟩
  · have hs2 : s.size = 2 := by omega
    obtain ⟨t, HT⟩ : ∃ t, Hid (t = s.extract 2 s.size) := ⟨_, rfl⟩
    obtain ⟨z, HZ⟩ : ∃ z, Hid (z = beVal (s.data.toList.take 2)) := ⟨_, rfl⟩
    have ht : t.size < 1 := by rw [HT.out, ByteArray.size_extract]; omega
    have HN : Hid (∀ W, RdAt W w.heap.size s → Calls Try.prog 38 #[.pointer (some ⟨w.heap.size, 0, none⟩), .int .i64 2] W fun e w' => e = .returned (.tuple #[.int .u64 (z : Nat), .bool true]) ∧ RdAt w' w.heap.size t ∧ W.grownBy w' (some w.heap.size)) := fun W h => by
      rw [HZ.out, HT.out]
      exact number_ok w.heap.size s 2 W h (by omega) (by omega) (by omega) (by omega)
    clear hs h2 hs2
    go_enter Try.func37, Try.ntmps37
    go_wp2_with fail
    refine (new_any s _).mono ?_
    rintro e w1 ⟨rfl, hw⟩
    rw [hw]
    clear hw
    go_wp2_with fail
    refine (HN.out _ H0.out.rd).mono ?_
    rintro e w1 ⟨rfl, hr, hg⟩
    have H1 := Lib.hid (H0.out.grown hr hg)
    clear hr hg H0
    go_wp2_with fail
    refine (number_short w.heap.size t 1 _ H1.out.rd (by omega) (by omega) ht (by omega)).mono ?_
    rintro e w2 ⟨rfl, hr, hg⟩
    have H2 := Lib.hid (H1.out.grown hr hg)
    clear hr hg H1
    go_wp2_with fail
    go_ret3
    exact ⟨rfl, H2.out.bl⟩
set_option maxRecDepth 100000 in
set_option maxHeartbeats 4000000 in
theorem begin_any (s : ByteArray) (w : World) (hs : 3 ≤ s.size) (hm : (s.size : Int) ≤ 9223372036854775807) :
    Calls Try.prog 37 #[.string s] w fun e w' => e = .returned (.tuple #[.pointer (some ⟨w.heap.size, 0, none⟩), .int .i64 (pairF s), .int .i64 (if pairF s = 0 then 5 else 0)]) ∧ HeadAt w w' (restF s) := by
  have H0 := Lib.hid (HeadAt.new w s)
  obtain ⟨z5, HZ5⟩ : ∃ z5 : Int, Hid (z5 = if pairF s = 0 then 5 else 0) := ⟨_, rfl⟩
  rw [← HZ5.out]
  obtain ⟨t, HT⟩ : ∃ t, Hid (t = s.extract 2 s.size) := ⟨_, rfl⟩
  obtain ⟨u, HU⟩ : ∃ u, Hid (u = t.extract 1 t.size) := ⟨_, rfl⟩
  obtain ⟨z, HZ⟩ : ∃ z, Hid (z = beVal (s.data.toList.take 2)) := ⟨_, rfl⟩
  obtain ⟨y, HY⟩ : ∃ y, Hid (y = beVal (t.data.toList.take 1)) := ⟨_, rfl⟩
  have ht : t.size = s.size - 2 := by rw [HT.out, ByteArray.size_extract]; omega
  have hz : z < 65536 := by
    rw [HZ.out]
    exact beVal_lt _ 2 (by rw [List.length_take, Array.length_toList]; show min 2 s.size = 2; omega)
  have hy : y < 256 := by
    rw [HY.out]
    exact beVal_lt _ 1 (by rw [List.length_take, Array.length_toList]; show min 1 t.size = 1; omega)
  have HN : Hid (∀ W, RdAt W w.heap.size s → Calls Try.prog 38 #[.pointer (some ⟨w.heap.size, 0, none⟩), .int .i64 2] W fun e w' => e = .returned (.tuple #[.int .u64 (z : Nat), .bool true]) ∧ RdAt w' w.heap.size t ∧ W.grownBy w' (some w.heap.size)) := fun W h => by
    rw [HZ.out, HT.out]
    exact number_ok w.heap.size s 2 W h (by omega) (by omega) (by omega) (by omega)
  have HN2 : Hid (∀ W, RdAt W w.heap.size t → Calls Try.prog 38 #[.pointer (some ⟨w.heap.size, 0, none⟩), .int .i64 1] W fun e w' => e = .returned (.tuple #[.int .u64 (y : Nat), .bool true]) ∧ RdAt w' w.heap.size u ∧ W.grownBy w' (some w.heap.size)) := fun W h => by
    rw [HY.out, HU.out]
    exact number_ok w.heap.size t 1 W h (by omega) (by omega) (by omega) (by omega)
  have HPF : Hid (famOf (z : Nat) (y : Nat) = pairF s) := by
    show _ = _
    unfold pairF
    rw [HY.out, HZ.out, HT.out]
  have HRF : Hid (u = restF s) := by
    show _ = _
    unfold restF
    rw [HU.out, HT.out]
  clear hs ht HT HU HZ HY
  go_enter Try.func37, Try.ntmps37
  go_wp2_with fail
  refine (new_any s _).mono ?_
  rintro e w1 ⟨rfl, hw⟩
  rw [hw]
  clear hw
  go_wp2_with fail
  refine (HN.out _ H0.out.rd).mono ?_
  rintro e w1 ⟨rfl, hr, hg⟩
  have H1 := Lib.hid (H0.out.grown hr hg)
  clear hr hg H0
  go_wp2_with fail
  refine (HN2.out _ H1.out.rd).mono ?_
  rintro e w2 ⟨rfl, hr, hg⟩
  have H2 := Lib.hid (H1.out.grown hr hg)
  clear hr hg H1
  go_wp2_with fail
  refine (fam_any _ _ _).mono ?_
  rintro e w3 ⟨rfl, hb⟩
  have H3 := Lib.hid (H2.out.below hb)
  clear hb H2
  rw [HPF.out]
  rw [HRF.out] at H3
  by_cases hf : pairF s = 0
  · rw [hf]
    go_wp2_with fail
    go_ret3
    exact ⟨ret3 rfl (val_int hf.symm) (val_int (by rw [HZ5.out, if_pos hf])), H3.out⟩
  · have hfb : (pairF s == 0) = false := beq_eq_false_iff_ne.2 hf
    have HF := Lib.hid hf
    clear hf
    generalize hpe : pairF s = pf at hfb HF HZ5 HPF ⊢
    have HPE := Lib.hid hpe
    clear hpe
    go_wp2_with fail
    go_ret3
    exact ⟨ret3 rfl (val_int HPE.out.symm) (val_int (by rw [HZ5.out, if_neg HF.out])), H3.out⟩
end Go.Proofs.Ytocbacpbckejdaa
