/-
  Contracts of strings.Builder's WriteByte at a builder of the call's own. Conditions: sizes.
-/
import Derived.Test.YtgjebmnomgdckaaWireD
import Derived.Lib.Builder
import Derived.Lib.UnsafeStr
import Derived.Laws.Externs
set_option linter.unusedVariables false
set_option linter.unusedSimpArgs false
namespace Go.Proofs.Ytgjebmnomgdckaa
open Go.RowKit

theorem sizeBuilder : (Try.prog.info? 67).map (·.size) = some 2 := by kernel_rfl

theorem copyCheck_used (b : Nat) (w : World) (h0 : w.cell? ⟨b, 0, none⟩ = some (.pointer (some ⟨b, 0, none⟩))) :
    Calls Try.prog 33 #[.pointer (some ⟨b, 0, none⟩)] w fun e w' => e = .returned (.tuple #[]) ∧ w' = w := by
  obtain ⟨j, hj, _⟩ := Option.map_eq_some_iff.1 sizeBuilder
  go_enter Try.func33, Try.ntmps33
  go_wp2
  rw [Lib.run_neq_ptr_same w _ Try.underlying65 hj]
  go_wp2
  go_end0
  exact ⟨rfl, rfl⟩

theorem copyCheck_new (b : Nat) (w : World) (h0 : w.cell? ⟨b, 0, none⟩ = some (.pointer none)) (hf : w.frozen? ⟨b, 0, none⟩ = false) (hs : w.shape? b = some (67, 2)) :
    Calls Try.prog 33 #[.pointer (some ⟨b, 0, none⟩)] w fun e w' => e = .returned (.tuple #[]) ∧ w' = w.setCell ⟨b, 0, none⟩ (.pointer (some ⟨b, 0, none⟩)) := by
  obtain ⟨j, hj, hjs⟩ := Option.map_eq_some_iff.1 sizeBuilder
  go_enter Try.func33, Try.ntmps33
  go_wp2
  rw [Lib.run_to_unsafe w ⟨b, 0, none⟩ Try.underlying65 Try.underlying72 hj (by rw [hjs]; decide) hs (Nat.zero_lt_succ 1)]
  simp only [Result.andThen]
  rw [Oper.upon_value]
  go_wp2
  rw [run_callFunc_extern Try.func35 (by kernel_rfl) (by kernel_rfl) (by kernel_rfl) (e := Extern.AbiNoEscape.same) (by kernel_rfl)]
  rw [Lib.run_noEscape]
  simp only [Result.andThen]
  rw [Oper.upon_value]
  go_wp2
  rw [Lib.run_from_unsafe w ⟨b, 0, none⟩ Try.underlying72 Try.underlying65 hj hs (by kernel_rfl)]
  simp only [Result.andThen]
  rw [Oper.upon_value]
  go_wp2
  go_end0
  exact ⟨rfl, rfl⟩

/-- WriteByte at a builder of the call's own -/
theorem writeByte_any (B b : Nat) (bs : List Value) (c : Int) (w : World) (h : Lib.IsBuilder 67 5 B b bs w) (hlen : bs.length + 1 ≤ 140737488355328) (hBw : B ≤ w.heap.size) :
    Calls Try.prog 28 #[.pointer (some ⟨b, 0, none⟩), .int .u8 c] w fun e w' => e = .returned .nilIface ∧ Lib.IsBuilder 67 5 B b (bs ++ [.int .u8 c]) w' ∧ Below B w w' := by
  obtain ⟨i0, hi, hz0, hz1, hz2⟩ := info_parts infoU8
  have hcc : Calls Try.prog 33 #[.pointer (some ⟨b, 0, none⟩)] w fun e w' => e = .returned (.tuple #[]) ∧ Lib.BuilderAt 67 5 B b (.pointer (some ⟨b, 0, none⟩)) bs w' ∧ Below B w w' := by
    rcases h with ⟨hB, v, hb, hown, hne⟩ | ⟨hB, v, hb, hown, hne⟩
    · refine (copyCheck_new b w (by rw [Lib.cell_of_heap hb]; rfl) (Lib.frozen_of_heap hb 0) (by simp [World.shape?, hb])).mono fun e w' ⟨h1, h2⟩ => ⟨h1, ?_, ?_⟩
      · subst h2
        refine ⟨hB, v, ?_, ?_, hne⟩
        · simp [World.setCell, Array.getElem?_modify, hb]
        · exact hown.kept (grown_setCell w _ _) (by right; exact hne)
      · subst h2
        exact (Below.refl _ _).setCell hB _
    · exact (copyCheck_used b w (by rw [Lib.cell_of_heap hb]; rfl)).mono fun e w' ⟨h1, h2⟩ => ⟨h1, h2 ▸ ⟨hB, v, hb, hown, hne⟩, h2 ▸ Below.refl _ _⟩
  have HCC := Lib.hid hcc
  clear hcc h
  go_enter Try.func28, Try.ntmps28
  go_wp2_with fail
  refine HCC.out.mono ?_
  rintro e w1 ⟨rfl, ⟨hB, v, hbk, hown, hne⟩, hb1⟩
  have c1 : w1.cell? ⟨b, 1, none⟩ = some v := by rw [Lib.cell_of_heap hbk]; rfl
  have hlt : b < w1.heap.size := (Array.getElem?_eq_some_iff.1 hbk).1
  have HO := Lib.hid hown
  have HN := Lib.hid hne
  have HB := Lib.hid hb1
  have HK := Lib.hid hbk
  clear hown hne hb1 hbk
  go_wp2_with (at_builtin; refine wpList_append_own _ rfl _ _ 52 rfl B 5 i0 (.int .u8 0) 1 1 Try.underlying52 hi hz0 hz1 hz2 rfl (by decide) v bs.length bs rfl (HO.out.alloc _) ⟨w1.heap.size, 0, none⟩ 1 1 [.int .u8 c] rfl rfl ?c1 ?c2 ?c3 ?c4 ?c5 ?_)
  case c1 =>
    intro j u hj
    match j, hj with
    | 0, hj => simp at hj; subst hj; simp [Addr.add]
  case c2 => intro u hu; simp at hu; subst hu; rfl
  case c3 => unfold maxLen; omega
  case c4 => omega
  case c5 => have := HB.out.size; simp; omega
  intro v' w2 hown' hgrow _
  have hb2 : w2.heap[b]? = some (.cells #[.pointer (some ⟨b, 0, none⟩), v] 67 (0, 0)) := by
    rw [hgrow.block b (by simp; omega) (fun e => HN.out e.symm), Below.heap_alloc w1 _ b hlt]
    exact HK.out
  have d1 : w2.cell? ⟨b, 1, none⟩ = some v := by rw [Lib.cell_of_heap hb2]; rfl
  have f1 : w2.frozen? ⟨b, 1, none⟩ = false := Lib.frozen_of_heap hb2 1
  obtain ⟨g, cap, rfl⟩ : ∃ g cap, v' = .slice (some ⟨g, 0, none⟩) (bs.length + 1) cap := by
    rcases hown'.2 with ⟨_, h0⟩ | ⟨g, cap, cur, hv, _⟩
    · omega
    · exact ⟨g, cap, hv⟩
  have HO' := Lib.hid hown'
  have HG := Lib.hid hgrow
  have HB2 := Lib.hid hb2
  clear hown' hgrow hb2
  go_wp2_with fail
  go_ret
  refine ⟨rfl, ?_, ?_⟩
  · exact .inr (Lib.BuilderAt.put (T := 67) (e := 5) hB HB2.out (bs' := bs ++ [.int .u8 c]) (by simpa using HO'.out) (by decide))
  · exact ((HB.out.alloc (by have := HB.out.size; omega) _).grown HG.out (by have := HB.out.size; simp; omega) (fun k hk => (HO.out.lt k hk).1)).setCell (p := ⟨b, 1, none⟩) hB _

/-- the digits of a byte -/
def hdig (n : Nat) : UInt8 := [48, 49, 50, 51, 52, 53, 54, 55, 56, 57, 97, 98, 99, 100, 101, 102].getD n 0
theorem digs_at : ∀ (n : Nat) (h : n < (ByteArray.mk #[48, 49, 50, 51, 52, 53, 54, 55, 56, 57, 97, 98, 99, 100, 101, 102]).size), (ByteArray.mk #[48, 49, 50, 51, 52, 53, 54, 55, 56, 57, 97, 98, 99, 100, 101, 102])[n]'h = hdig n := by
  intro n h
  have h16 : n < 16 := h
  have : ∀ m : Fin 16, (ByteArray.mk #[48, 49, 50, 51, 52, 53, 54, 55, 56, 57, 97, 98, 99, 100, 101, 102])[m.val]'m.isLt = hdig m.val := by decide +kernel
  exact this ⟨n, h16⟩
def hexL (l : List UInt8) : List UInt8 := l.flatMap fun b => [hdig (b.toNat / 16), hdig (b.toNat % 16)]
theorem hexL_snoc (l : List UInt8) (b : UInt8) : hexL (l ++ [b]) = hexL l ++ [hdig (b.toNat / 16), hdig (b.toNat % 16)] := by simp [hexL]
theorem hexL_length (l : List UInt8) : (hexL l).length = 2 * l.length := by
  induction l with
  | nil => rfl
  | cons a l ih => simp [hexL] at ih ⊢; omega
theorem take_snoc (s : ByteArray) (k : Nat) (h : k < s.size) : s.data.toList.take (k + 1) = s.data.toList.take k ++ [s[k]] := by
  rw [List.take_succ_eq_append_getElem (by simpa using h)]; rfl

theorem rhex_any (s : ByteArray) (w : World) (hs : s.size ≤ 1048576) :
    Calls Try.prog 22 #[.string s] w fun e w' => e = .returned (.string ⟨(hexL s.data.toList).toArray⟩) ∧ Below w.heap.size w w' := by
  obtain ⟨i0, hi, hz0, hz1, hz2⟩ := info_parts infoU8
  go_enter Try.func22, Try.ntmps22
  go_wp2_with fail
  go_loopw [3, 4] (fun o i wr => ∃ k : Nat, k ≤ s.size ∧ i = .int .i64 k ∧ OwnM wr w.heap.size 5 1 o (2 * k) (byteVals (hexL (s.data.toList.take k))) ∧ Below w.heap.size w wr) (fun _ i _ => s.size - (intOf i).toNat)
  case atStart => exact ⟨0, Nat.zero_le _, rfl, OwnM.nil _ _ _ _, Below.refl _ _⟩
  case round =>
    obtain ⟨k, hk, rfl, hn, hb2⟩ := hrel
    have HN := Lib.hid hn
    have HB2 := Lib.hid hb2
    clear hn hb2
    by_cases hlt : k < s.size
    · have hc := s[k].toNat_lt
      have hdg := digs_at
      have hnext : byteVals (hexL (s.data.toList.take (k + 1))) = (byteVals (hexL (s.data.toList.take k)) ++ [.int .u8 (hdig (s[k].toNat / 16)).toNat]) ++ [.int .u8 (hdig (s[k].toNat % 16)).toNat] := by
        rw [take_snoc s k hlt, hexL_snoc, byteVals_append, List.append_assoc]
        rfl
      have HX := Lib.hid hnext
      clear hnext
      go_wp2_with (first
        | (at_builtin; refine wpList_append_m rfl (.tmp 11) (.tmp 17) 52 52 rfl w.heap.size 5 i0 _ 1 1 Try.underlying52 hi hz0 hz1 hz2 rfl (by omega) u3 (2 * k) _ rfl (HN.out.alloc _) _ 1 [.int .u8 (hdig (s[k].toNat / 16)).toNat] rfl (Src.one_new _ _ Try.underlying52 rfl) (by unfold maxLen; omega) (by omega) (by simp; have := HB2.out.size; omega) ?_; intro o' w1 hown1 hg1 hat1)
        | (at_builtin; refine wpList_append_m rfl (.tmp 19) (.tmp 25) 52 52 rfl w.heap.size 5 i0 _ 1 1 Try.underlying52 hi hz0 hz1 hz2 rfl (by omega) o' (2 * k + 1) _ rfl (hown1.alloc _) _ 1 [.int .u8 (hdig (s[k].toNat % 16)).toNat] rfl (Src.one_new _ _ Try.underlying52 rfl) (by unfold maxLen; omega) (by omega) (by simp; have := HB2.out.size; have := hg1.size; simp at this; omega) ?_; intro o2 w2 hown2 hg2 hat2))
      rw [← HX.out] at hown2
      have hb1 := (HN.out.alloc (.cells #[.int .u8 (hdig (s[k].toNat / 16)).toNat] 5)).below_grown hg1 (HB2.out.alloc HB2.out.size _) (by simp; have := HB2.out.size; omega) (Nat.le_refl _)
      have hb2 := (hown1.alloc (.cells #[.int .u8 (hdig (s[k].toNat % 16)).toNat] 5)).below_grown hg2 (hb1.alloc hb1.size _) (by simp; have := hb1.size; omega) (Nat.le_refl _)
      exact ⟨⟨k + 1, by omega, by go_num, hown2, hb2⟩, by simp [intOf]; omega⟩
    · obtain rfl : s.size = k := by omega
      have hstr := run_string_m (P := Try.prog) wr 52 9 5 _ _ _ _ Try.underlying52 Try.underlying5 Try.underlying9 HN.out
      go_wp2_with fail
      go_ret
      refine ⟨ret_val (val_str ?_), HB2.out⟩
      rw [List.take_of_length_le (by simp)]

theorem hex_any (s : ByteArray) (w : World) (hs : s.size ≤ 1048576) :
    Calls Try.prog 21 #[.string s] w fun e w' => e = .returned (.string ⟨(hexL s.data.toList).toArray⟩) ∧ Below w.heap.size w w' := by
  go_enter Try.func21, Try.ntmps21
  go_wp2_with fail
  have hb0 : Lib.IsBuilder 67 5 w.heap.size w.heap.size [] (w.alloc (.cells #[.pointer none, .slice none 0 0] 67)) :=
    .inl ⟨Nat.le_refl _, .slice none 0 0, heap_alloc_new w _, World.ownsRow_nil _ _ _ _, by simp [Value.ownBlock]⟩
  have hb1 : Below w.heap.size w (w.alloc (.cells #[.pointer none, .slice none 0 0] 67)) := (Below.refl _ _).alloc (Nat.le_refl _) _
  have HB0 := Lib.hid hb0
  have HB1 := Lib.hid hb1
  clear hb0 hb1
  go_loopw [7] (fun i wr => ∃ k : Nat, k ≤ s.size ∧ i = .int .i64 k ∧ Lib.IsBuilder 67 5 w.heap.size w.heap.size (byteVals (hexL (s.data.toList.take k))) wr ∧ Below w.heap.size w wr) (fun i _ => s.size - (intOf i).toNat)
  case atStart => exact ⟨0, Nat.zero_le _, rfl, HB0.out, HB1.out⟩
  case round =>
    obtain ⟨k, hk, rfl, hn, hb2⟩ := hrel
    have HN := Lib.hid hn
    have HB2 := Lib.hid hb2
    clear hn hb2
    by_cases hlt : k < s.size
    · have hc := s[k].toNat_lt
      have hdg := digs_at
      have hlen : (byteVals (hexL (s.data.toList.take k))).length = 2 * k := by
        rw [byteVals_length, hexL_length, List.length_take]
        have : s.data.toList.length = s.size := by simp
        omega
      have hnext : byteVals (hexL (s.data.toList.take (k + 1))) = (byteVals (hexL (s.data.toList.take k)) ++ [.int .u8 (hdig (s[k].toNat / 16)).toNat]) ++ [.int .u8 (hdig (s[k].toNat % 16)).toNat] := by
        rw [take_snoc s k hlt, hexL_snoc, byteVals_append, List.append_assoc]
        rfl
      have HX := Lib.hid hnext
      have HL := Lib.hid hlen
      clear hnext hlen
      go_wp2_with fail
      refine (writeByte_any _ _ _ _ _ HN.out (by rw [HL.out]; omega) HB2.out.size).mono ?_
      rintro e w1 ⟨rfl, h1, hb1⟩
      have H1 := Lib.hid h1
      have HB3 := Lib.hid (HB2.out.trans hb1)
      clear h1 hb1
      go_wp2_with fail
      refine (writeByte_any _ _ _ _ _ H1.out (by rw [List.length_append, HL.out]; simp; omega) HB3.out.size).mono ?_
      rintro e w2 ⟨rfl, h2, hb2⟩
      rw [← HX.out] at h2
      have H2 := Lib.hid h2
      have HB4 := Lib.hid (HB3.out.trans hb2)
      clear h2 hb2
      go_wp2_with fail
      exact ⟨⟨k + 1, by omega, by go_num, H2.out, HB4.out⟩, by simp [intOf]; omega⟩
    · obtain rfl : s.size = k := by omega
      go_wp2_with fail
      refine (Try.Builder_String_any w.heap.size w.heap.size (hexL (s.data.toList.take s.size)) wr HN.out HB2.out.size).mono ?_
      rintro e w2 ⟨rfl, hb2⟩
      have HB3 := Lib.hid (HB2.out.trans hb2)
      clear hb2
      go_wp2_with fail
      go_ret
      refine ⟨ret_val (val_str ?_), HB3.out⟩
      rw [List.take_of_length_le (by simp)]

end Go.Proofs.Ytgjebmnomgdckaa
