/-
  Contracts of package wire: sum, Number. Conditions: the reader's block is known.
-/
import Derived.Test.YtkcojblflebomaaGreatWireA
set_option linter.unusedVariables false
set_option linter.unusedSimpArgs false
namespace Go.Proofs.YtkcojblflebomaaGreat
open Go.RowKit

/-- bytes as a number, the highest first -/
def beVal (l : List UInt8) : Nat := l.foldl (fun v b => v * 256 + b.toNat) 0
theorem beVal_snoc (l : List UInt8) (c : UInt8) : beVal (l ++ [c]) = beVal l * 256 + c.toNat := by simp [beVal]
theorem beVal_lt (l : List UInt8) : ∀ n, l.length = n → beVal l < 256 ^ n := by
  intro n
  induction n generalizing l with
  | zero =>
    intro h
    have : l = [] := List.eq_nil_of_length_eq_zero h
    subst this
    simp [beVal]
  | succ n ih =>
    intro h
    have hne : l ≠ [] := fun e => by subst e; simp at h
    rw [← List.dropLast_concat_getLast hne, beVal_snoc, Nat.pow_succ]
    have h1 := ih l.dropLast (by rw [List.length_dropLast]; omega)
    have h2 := (l.getLast hne).toNat_lt
    omega
theorem beVal_lt7 (l : List UInt8) (n : Nat) (h : l.length = n) (hn : n ≤ 7) : beVal l < 72057594037927936 := by
  have h1 := beVal_lt l n h
  have h2 : 256 ^ n ≤ 256 ^ 7 := Nat.pow_le_pow_right (by omega) hn
  have h3 : (256 : Nat) ^ 7 = 72057594037927936 := by decide
  omega

theorem or_join (v c : Int) (h0 : 0 ≤ v) (h1 : v < 72057594037927936) (c0 : 0 ≤ c) (c1 : c < 256) : bits .or .u64 (v * 256) c = v * 256 + c := by
  rw [u64_or _ _ (by omega) (by omega) (by omega) (by omega), nat_join 8 _ _ (by omega) (by omega)]
  omega

theorem more_any (g : Nat) (v c : Int) (w : World) (hc : w.cell? ⟨g, 0, none⟩ = some (.int .u64 v)) (hf : w.frozen? ⟨g, 0, none⟩ = false) (h0 : 0 ≤ v) (h1 : v < 72057594037927936) (c0 : 0 ≤ c) (c1 : c < 256) :
    Calls Tryz.prog 110 #[.int .u8 c, .pointer (some ⟨g, 0, none⟩)] w fun e w' => e = .returned (.tuple #[]) ∧ w' = w.setCell ⟨g, 0, none⟩ (.int .u64 (v * 256 + c)) := by
  go_enter Tryz.func110, Tryz.ntmps110
  go_wp2
  go_end0
  exact ⟨rfl, by rw [or_join v c h0 h1 c0 c1]⟩

theorem value_any (g : Nat) (v : Int) (w : World) (hc : w.cell? ⟨g, 0, none⟩ = some (.int .u64 v)) :
    Calls Tryz.prog 111 #[.pointer (some ⟨g, 0, none⟩)] w fun e w' => e = .returned (.int .u64 v) ∧ w' = w := by
  go_enter Tryz.func111, Tryz.ntmps111
  go_wp2
  go_ret
  exact ⟨rfl, rfl⟩

/-- a block of one number -/
def NumAt (w : World) (g : Nat) (v : Int) : Prop := w.heap[g]? = some (.cells #[.int .u64 v] 57 (0, 0))
theorem NumAt.c {w : World} {g : Nat} {v : Int} (h : NumAt w g v) : w.cell? ⟨g, 0, none⟩ = some (.int .u64 v) := (cell_of_row w g 0 _ _ _ h).trans rfl
theorem NumAt.fz {w : World} {g : Nat} {v : Int} (h : NumAt w g v) : w.frozen? ⟨g, 0, none⟩ = false := by
  unfold NumAt at h
  simp [World.frozen?, h]
theorem NumAt.set {w : World} {g : Nat} {v : Int} (h : NumAt w g v) (u : Int) : NumAt (w.setCell ⟨g, 0, none⟩ (.int .u64 u)) g u := by
  unfold NumAt at h ⊢
  simp [World.setCell, Array.getElem?_modify, h]
theorem NumAt.new (w : World) (v : Int) : NumAt (w.alloc (.cells #[.int .u64 v] 57)) w.heap.size v := heap_alloc_new w _

theorem number_bad (b : Nat) (n : Int) (w : World) (h1 : n < 1 ∨ 8 < n) :
    Calls Tryz.prog 35 #[.pointer (some ⟨b, 0, none⟩), .int .i64 n] w fun e w' => e = .returned (.tuple #[.int .u64 0, .bool false]) ∧ w' = w := by
  rcases h1 with h1 | h1
  · go_enter Tryz.func35, Tryz.ntmps35
    go_wp2
    go_ret2
    exact ⟨rfl, rfl⟩
  · have h0 : ¬ n < 1 := by omega
    go_enter Tryz.func35, Tryz.ntmps35
    go_wp2
    go_ret2
    exact ⟨rfl, rfl⟩

theorem sum_any (w : World) :
    Calls Tryz.prog 72 #[] w fun e w' => e = .returned (.tuple #[.func (.func 110) #[] #[.pointer (some ⟨w.heap.size, 0, none⟩)], .func (.func 111) #[] #[.pointer (some ⟨w.heap.size, 0, none⟩)]]) ∧
      w' = w.alloc (.cells #[.int .u64 0] 57) := by
  go_enter Tryz.func72, Tryz.ntmps72
  go_wp2
  go_ret2
  exact ⟨rfl, rfl⟩

theorem beVal_step (t : ByteArray) (k : Nat) (h : k < t.size) : ((beVal (t.data.toList.take (k + 1)) : Nat) : Int) = (beVal (t.data.toList.take k) : Nat) * 256 + (t[k].toNat : Int) := by
  have e : t.data.toList.take (k + 1) = t.data.toList.take k ++ [t[k]] := by
    rw [List.take_succ_eq_append_getElem (by simpa using h)]; rfl
  rw [e, beVal_snoc]
  omega
theorem beVal_at (t : ByteArray) (k : Nat) (h : k ≤ 7) : beVal (t.data.toList.take k) < 72057594037927936 :=
  beVal_lt7 _ _ rfl (Nat.le_trans (List.length_take_le _ _) h)

/-- what the loop of Number does: all bytes of t, one behind the other -/
theorem number_ok (b : Nat) (s : ByteArray) (n : Nat) (w : World) (h : RdAt w b s) (h0 : 1 ≤ n) (h1 : n ≤ 8) (hs : n ≤ s.size) (hm : (s.size : Int) ≤ 9223372036854775807) :
    Calls Tryz.prog 35 #[.pointer (some ⟨b, 0, none⟩), .int .i64 n] w fun e w' => e = .returned (.tuple #[.int .u64 (beVal (s.data.toList.take n) : Nat), .bool true]) ∧
      RdAt w' b (s.extract n s.size) ∧ w.grownBy w' (some b) := by
  have H := Lib.hid h
  have hlt : b < w.heap.size := h.lt
  clear h
  go_enter Tryz.func35, Tryz.ntmps35
  go_wp2_with fail
  refine (take_ok b s _ _ H.out (by omega) (by omega) hm).mono ?_
  rintro e w' ⟨rfl, rfl⟩
  rw [Int.toNat_natCast]
  obtain ⟨t, ht⟩ : ∃ t, t = s.extract 0 n := ⟨_, rfl⟩
  rw [← ht]
  have hsz : t.size = n := by rw [ht]; simp; omega
  have hsz1 : t.size ≤ 8 := by omega
  have HT : Hid (t = s.extract 0 n ∧ t.size = n) := ⟨ht, hsz⟩
  clear ht hsz
  have HR : Hid (RdAt (w.setCell ⟨b, 1, none⟩ (.string (s.extract n s.size))) b (s.extract n s.size)) := H.out.set _
  have HG : Hid (w.grownBy (w.setCell ⟨b, 1, none⟩ (.string (s.extract n s.size))) (some b)) :=
grown_setCell w _ _
  generalize hW : w.setCell ⟨b, 1, none⟩ (.string (s.extract n s.size)) = W at HR HG ⊢
  clear hW
  go_wp2_with fail
  refine (sum_any _).mono ?_
  rintro e w' ⟨rfl, rfl⟩
  go_wp2_with fail
  go_loopw [32] (fun i wr => ∃ k : Nat, k ≤ t.size ∧ i = .int .i64 k ∧ NumAt wr W.heap.size (beVal (t.data.toList.take k) : Nat) ∧ Below W.heap.size W wr) (fun i _ => t.size - (intOf i).toNat)
  case atStart => exact ⟨0, Nat.zero_le _, rfl, by simpa [beVal] using NumAt.new W 0, (Below.refl _ _).alloc (Nat.le_refl _) _⟩
  case round =>
    obtain ⟨k, hk, rfl, hn, hb⟩ := hrel
    have HN := Lib.hid hn
    have HB := Lib.hid hb
    clear hn hb
    by_cases hlt : k < t.size
    · have hst := beVal_step t k hlt
      have HS := Lib.hid hst
      clear hst
      have hv := beVal_at t k (by omega)
      have hc := t[k].toNat_lt
      go_wp2_with fail
      refine (more_any _ _ _ _ HN.out.c HN.out.fz (by omega) (by omega) (by omega) (by omega)).mono ?_
      rintro e w' ⟨rfl, rfl⟩
      go_wp2_with fail
      go_roundw
      case rel =>
        refine ⟨k + 1, by omega, by go_num, ?_, HB.out.setCell (Nat.le_refl _) _⟩
        rw [HS.out]
        exact HN.out.set _
      case measure => simp [intOf]; omega
    · go_wp2_with fail
      refine (value_any _ _ _ HN.out.c).mono ?_
      rintro e w' ⟨rfl, rfl⟩
      go_wp2_with fail
      go_ret2
      have hsz := HT.out.2
      have hkn : k = n := by omega
      have hl : RdAt W b (s.extract n s.size) := HR.out
      refine ⟨?_, (HB.out.block b hl.lt).trans hl, ?_⟩
      · refine ret2 (val_int ?_) rfl
        rw [HT.out.1, hkn]
        simp only [ByteArray.data_extract, Array.toList_extract, List.extract_eq_take_drop, List.drop_zero, Nat.sub_zero, List.take_take, Nat.min_self]
      · exact grown_below HG.out HB.out

theorem number_short (b : Nat) (s : ByteArray) (n : Nat) (w : World) (h : RdAt w b s) (h0 : 1 ≤ n) (h1 : n ≤ 8) (hs : s.size < n) (hm : (s.size : Int) ≤ 9223372036854775807) :
    Calls Tryz.prog 35 #[.pointer (some ⟨b, 0, none⟩), .int .i64 n] w fun e w' => e = .returned (.tuple #[.int .u64 0, .bool false]) ∧ RdAt w' b s ∧ w.grownBy w' (some b) := by
  have H := Lib.hid h
  clear h
  go_enter Tryz.func35, Tryz.ntmps35
  go_wp2_with fail
  refine (take_no b s _ _ H.out (by omega) hm).mono ?_
  rintro e w' ⟨rfl, rfl⟩
  go_wp2_with fail
  refine (sum_any _).mono ?_
  rintro e w1 ⟨rfl, rfl⟩
  go_wp2_with fail
  refine wp_loop_rounds 1 ?_
  rw [rounds_succ]
  go_wp2_with fail
  have hn := NumAt.new w' 0
  refine (value_any _ 0 _ hn.c).mono ?_
  rintro e w1 ⟨rfl, rfl⟩
  go_wp2_with fail
  go_ret2
  exact ⟨rfl, (Below.heap_alloc _ _ _ H.out.lt).trans H.out, World.grownBy_alloc _ _ _⟩

end Go.Proofs.YtkcojblflebomaaGreat
