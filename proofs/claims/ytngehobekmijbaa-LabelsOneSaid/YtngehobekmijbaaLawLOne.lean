/-
  LabelsOne: for all keys, bits, rooms the law answers true. Conditions: none of its own.
-/
import Derived.Test.YtngehobekmijbaaLabG
import Derived.Deep.QuietTactic
import Derived.BigQuiet
set_option linter.unusedVariables false
set_option linter.unusedSimpArgs false
namespace Go.Proofs.Ytngehobekmijbaa
open Go.RowKit Go.MapKept
open Go.Maps (Keyed)
open Go.ChangeShapes Go.WideShapes Go.ChangeAt

theorem cells5 {w : World} {b o : Nat} {x0 x1 x2 x3 x4 : Value} (h : ∀ j, j < 5 → w.cell? ⟨b, o + j, none⟩ = [x0, x1, x2, x3, x4][j]?) :
    w.cell? ⟨b, o, none⟩ = some x0 ∧ w.cell? ⟨b, o + 1, none⟩ = some x1 ∧ w.cell? ⟨b, o + 2, none⟩ = some x2 ∧ w.cell? ⟨b, o + 3, none⟩ = some x3 ∧ w.cell? ⟨b, o + 4, none⟩ = some x4 :=
  ⟨h 0 (by omega), h 1 (by omega), h 2 (by omega), h 3 (by omega), h 4 (by omega)⟩
theorem noKey_ok' : noKey.Ok := ⟨by decide, by decide, by decide, by decide, by decide⟩
/-- the j-th key that came in, later -/
def KeyAt (w : World) (b o : Nat) (k : LK) : Prop := w.cell? ⟨b, o, none⟩ = some (.string k.vrf) ∧ w.cell? ⟨b, o + 1, none⟩ = some (.int .i64 k.fam) ∧ w.cell? ⟨b, o + 2, none⟩ = some (.int .u64 k.rd) ∧ w.cell? ⟨b, o + 3, none⟩ = some (.string k.addr) ∧ w.cell? ⟨b, o + 4, none⟩ = some (.int .i64 k.len)
theorem KeyAt.below {w w' : World} {b o B : Nat} {k : LK} (h : KeyAt w b o k) (hb : Below B w w') (hB : b < B) : KeyAt w' b o k := by
  obtain ⟨h0, h1, h2, h3, h4⟩ := h
  exact ⟨(hb.cell (p := ⟨b, _, none⟩) hB).trans h0, (hb.cell (p := ⟨b, _, none⟩) hB).trans h1, (hb.cell (p := ⟨b, _, none⟩) hB).trans h2, (hb.cell (p := ⟨b, _, none⟩) hB).trans h3, (hb.cell (p := ⟨b, _, none⟩) hB).trans h4⟩
theorem keysAt {w : World} {A : Option Addr} {len cap i : Nat} (h : ElemsIn w A len cap 5 KeyCs) (hi : i < len) : ∃ b off k, A = some ⟨b, off, none⟩ ∧ b < w.heap.size ∧ LK.Ok k ∧ KeyAt w b (off + i * 5) k := by
  obtain ⟨b, off, cs, hA, hlt, _, ⟨k, hk, rfl⟩, hc⟩ := h.at_ hi
  exact ⟨b, off, k, hA, hlt, hk, cells5 hc⟩

set_option maxRecDepth 100000 in
set_option maxHeartbeats 8000000 in
theorem labelsOne_walk (A : Option Addr) (len cap : Nat) (give room : Nat) (w : World) (he : ElemsIn w A len cap 5 KeyCs) (g1 : give < 18446744073709551616) (r1 : room < 256) :
    Calls Try.prog 4 #[.slice A len cap, .int .u64 give, .int .u8 room] w fun e w' => e = .returned (.bool true) ∧ Below w.heap.size w w' := by
  have hm1 := he.1
  have hm2 := he.2.1
  unfold maxLen at hm2
  obtain ⟨N, hN, hN1, hN2⟩ : ∃ N : Nat, min (len : Int) 60 = (N : Int) ∧ N ≤ len ∧ N ≤ 60 := ⟨min len 60, by omega, by omega, by omega⟩
  have HE := Lib.hid (he.take hN1)
  clear he
  have h0 : (room : Int) % 40 = ((room % 40 : Nat) : Int) := by omega
  have h1 : room % 40 < 40 := Nat.mod_lt _ (by omega)
  have hh : ∃ high : Nat, (16 : Int) + ((room % 40 : Nat) : Int) = (high : Int) ∧ 16 ≤ high ∧ high ≤ 55 := ⟨16 + room % 40, by omega, by omega, by omega⟩
  obtain ⟨high, hh3, hh1, hh2⟩ := hh
  have hh : (16 : Int) + (room : Int) % 40 = (high : Int) := by omega
  clear h0 h1 hh3
  go_enter Try.func4, Try.ntmps4
  go_wp2_with fail
  refine (works_any _).mono ?_
  rintro e w1 ⟨rfl, hb⟩
  have HB0 := Lib.hid hb
  clear hb
  go_wp2_with fail
  refine (new_ok 16 high _ (by omega) (by omega) (by omega)).mono ?_
  rintro e w2 ⟨rfl, hL, hb, hz⟩
  have hx0 : w.heap.size ≤ w1.heap.size := HB0.out.size
  have HL0 := Lib.hid hL
  have HB := Lib.hid (HB0.out.trans (hb.mono HB0.out.size))
  clear hL hb hz HB0
  go_wp2_with fail
  clear hN
  go_loopw [10] (fun i wr => ∃ (j : Nat) (S : List (LK × Nat)), j ≤ N ∧ i = .int .i64 j ∧ Hid (LabAt wr (w1.heap.size + 2) w1.heap.size (w1.heap.size + 1) 16 high S) ∧ Hid (Below w.heap.size w wr)) (fun i _ => N + 1 - (intOf i).toNat)
  case atStart => exact ⟨0, [], by omega, rfl, HL0.out, HB.out⟩
  case round =>
    obtain ⟨j, S, hj, rfl, HL, HB1⟩ := hrel
    clear HL0 HB
    by_cases hlt : j < N
    · obtain ⟨b, off, k, hA, hbl, hk, hka⟩ := keysAt HE.out hlt
      subst hA
      have HKA := Lib.hid hka
      have HK := Lib.hid hk
      clear hka hk
      obtain ⟨c0, c1, c2, c3, c4⟩ := HKA.out.below HB1.out hbl
      go_wp2_with fail
      · clear c0 c1 c2 c3 c4
        by_cases hin : ∃ p ∈ S, p.1 = k
        · obtain ⟨⟨k', n⟩, hp, hpk⟩ := hin
          simp only at hpk
          subst hpk
          obtain ⟨i, hi⟩ := List.getElem?_of_mem hp
          refine (give_some _ _ _ _ _ _ i S k' n HL.out HK.out hi).mono ?_
          rintro e w3 ⟨rfl, hl, hgr⟩
          have HN3 := Lib.hid (erase_no HL.out.keys hi)
          have HL3 := Lib.hid hl
          have HB3 := Lib.hid (hgr.below2 HB1.out (by omega) (by omega))
          clear hl hgr hp hi HL HB1
          obtain ⟨c0, c1, c2, c3, c4⟩ := HKA.out.below HB3.out hbl
          go_wp2_with fail
          refine (of_none _ _ _ _ _ _ _ k' HL3.out HK.out HN3.out).mono ?_
          rintro e w4 ⟨rfl, hb⟩
          have HL4 := Lib.hid (HL3.out.below hb (Nat.le_refl _))
          have HB4 := Lib.hid (HB3.out.trans (hb.mono HB3.out.size))
          clear hb c0 c1 c2 c3 c4 HL3 HB3
          go_wp2_with fail
          exact ⟨⟨j + 1, _, by omega, by go_num, HL4.out, HB4.out⟩, by simp [intOf]; omega⟩
        · have hno : ∀ p ∈ S, p.1 ≠ k := fun p hp e => hin ⟨p, hp, e⟩
          have HNO := Lib.hid hno
          clear hno hin
          refine (give_none _ _ _ _ _ _ S k HL.out HK.out HNO.out).mono ?_
          rintro e w3 ⟨rfl, hb⟩
          have HL3 := Lib.hid (HL.out.below hb (Nat.le_refl _))
          have HB3 := Lib.hid (HB1.out.trans (hb.mono HB1.out.size))
          clear hb HL HB1
          obtain ⟨c0, c1, c2, c3, c4⟩ := HKA.out.below HB3.out hbl
          go_wp2_with fail
          refine (of_none _ _ _ _ _ _ _ k HL3.out HK.out HNO.out).mono ?_
          rintro e w4 ⟨rfl, hb⟩
          have HL4 := Lib.hid (HL3.out.below hb (Nat.le_refl _))
          have HB4 := Lib.hid (HB3.out.trans (hb.mono HB3.out.size))
          clear hb c0 c1 c2 c3 c4 HL3 HB3
          go_wp2_with fail
          exact ⟨⟨j + 1, _, by omega, by go_num, HL4.out, HB4.out⟩, by simp [intOf]; omega⟩
      · clear c0 c1 c2 c3 c4
        by_cases hm : kmay k = true
        · by_cases hin : ∃ p ∈ S, p.1 = k
          · obtain ⟨⟨k', n⟩, hp, hpk⟩ := hin
            simp only at hpk
            subst hpk
            obtain ⟨i, hi⟩ := List.getElem?_of_mem hp
            refine (take_some _ _ _ _ _ _ i S k' n HL.out HK.out hm hi).mono ?_
            rintro e w3 ⟨rfl, hb⟩
            have HL3 := Lib.hid (HL.out.below hb (Nat.le_refl _))
            have HB3 := Lib.hid (HB1.out.trans (hb.mono HB1.out.size))
            clear hb HL HB1 hp hm
            go_wp2_with fail
            refine (lkey_some _ _ _ _ _ _ (i) _ k' n HL3.out hi).mono ?_
            rintro e w4 ⟨rfl, hb⟩
            rw [show k'.v = .agg #[.string k'.vrf, .int .i64 k'.fam, .int .u64 k'.rd, .string k'.addr, .int .i64 k'.len] from rfl]
            have HL4 := Lib.hid ((HL3.out.below hb (Nat.le_refl _)).below (Below.alloc (Below.refl w4.heap.size w4) (Nat.le_refl _) (.cells #[.string k'.vrf, .int .i64 k'.fam, .int .u64 k'.rd, .string k'.addr, .int .i64 k'.len] 34)) (Nat.le_refl _))
            have HB4 := Lib.hid ((HB3.out.trans (hb.mono HB3.out.size)).alloc (HB3.out.trans (hb.mono HB3.out.size)).size (.cells #[.string k'.vrf, .int .i64 k'.fam, .int .u64 k'.rd, .string k'.addr, .int .i64 k'.len] 34))
            have HX4 := Lib.hid (CellsAt.new w4 #[.string k'.vrf, .int .i64 k'.fam, .int .u64 k'.rd, .string k'.addr, .int .i64 k'.len] 34)
            clear hb HL3 HB3
            obtain ⟨c0, c1, c2, c3, c4⟩ := HKA.out.below HB4.out hbl
            go_wp2_with fail
            refine (of_some _ _ _ _ _ _ (i) _ k' n HL4.out HK.out hi).mono ?_
            rintro e w5 ⟨rfl, hb⟩
            have HL5 := Lib.hid (HL4.out.below hb (Nat.le_refl _))
            have HB5 := Lib.hid (HB4.out.trans (hb.mono HB4.out.size))
            have HX5 := Lib.hid (HX4.out.below hb HX4.out.lt)
            clear hb c0 c1 c2 c3 c4 HL4 HB4 HX4
            obtain ⟨c0, c1, c2, c3, c4⟩ := HKA.out.below HB5.out hbl
            obtain ⟨x0, x1, x2, x3, x4⟩ := HX5.out.c5
            have hn0 := (HL5.out.ok _ (List.mem_of_getElem? hi)).2
            simp only at hn0
            have n0 : ¬ ((n : Int) < 16) := by omega
            have n1 : ¬ ((high : Int) < (n : Int)) := by omega
            go_wp2_with fail
            go_quiet (fail)
            go_wp2_with fail
            exact ⟨⟨j + 1, _, by omega, by go_num, HL5.out.drew _, below_drewN HB5.out _⟩, by simp [intOf]; omega⟩
          · have hno : ∀ p ∈ S, p.1 ≠ k := fun p hp e => hin ⟨p, hp, e⟩
            have HNO := Lib.hid hno
            clear hno hin
            refine (take_new _ _ _ _ _ _ S k HL.out HK.out hm HNO.out).mono ?_
            rintro e w3 (⟨n, a0, a1, a2, a3, rfl, hl, hgr⟩ | ⟨hf, rfl, hb⟩)
            · have hi : (S ++ [(k, n)])[S.length]? = some (k, n) := by simp
              have HL3 := Lib.hid hl
              have HB3 := Lib.hid (hgr.below2 HB1.out (by omega) (by omega))
              clear hl hgr HL HB1 hm a2 a3 HNO
              go_wp2_with fail
              refine (lkey_some _ _ _ _ _ _ (S.length) _ k n HL3.out hi).mono ?_
              rintro e w4 ⟨rfl, hb⟩
              rw [show k.v = .agg #[.string k.vrf, .int .i64 k.fam, .int .u64 k.rd, .string k.addr, .int .i64 k.len] from rfl]
              have HL4 := Lib.hid ((HL3.out.below hb (Nat.le_refl _)).below (Below.alloc (Below.refl w4.heap.size w4) (Nat.le_refl _) (.cells #[.string k.vrf, .int .i64 k.fam, .int .u64 k.rd, .string k.addr, .int .i64 k.len] 34)) (Nat.le_refl _))
              have HB4 := Lib.hid ((HB3.out.trans (hb.mono HB3.out.size)).alloc (HB3.out.trans (hb.mono HB3.out.size)).size (.cells #[.string k.vrf, .int .i64 k.fam, .int .u64 k.rd, .string k.addr, .int .i64 k.len] 34))
              have HX4 := Lib.hid (CellsAt.new w4 #[.string k.vrf, .int .i64 k.fam, .int .u64 k.rd, .string k.addr, .int .i64 k.len] 34)
              clear hb HL3 HB3
              obtain ⟨c0, c1, c2, c3, c4⟩ := HKA.out.below HB4.out hbl
              go_wp2_with fail
              refine (of_some _ _ _ _ _ _ (S.length) _ k n HL4.out HK.out hi).mono ?_
              rintro e w5 ⟨rfl, hb⟩
              have HL5 := Lib.hid (HL4.out.below hb (Nat.le_refl _))
              have HB5 := Lib.hid (HB4.out.trans (hb.mono HB4.out.size))
              have HX5 := Lib.hid (HX4.out.below hb HX4.out.lt)
              clear hb c0 c1 c2 c3 c4 HL4 HB4 HX4
              obtain ⟨c0, c1, c2, c3, c4⟩ := HKA.out.below HB5.out hbl
              obtain ⟨x0, x1, x2, x3, x4⟩ := HX5.out.c5
              have hn0 := (HL5.out.ok _ (List.mem_of_getElem? hi)).2
              simp only at hn0
              have n0 : ¬ ((n : Int) < 16) := by omega
              have n1 : ¬ ((high : Int) < (n : Int)) := by omega
              go_wp2_with fail
              go_quiet (fail)
              go_wp2_with fail
              exact ⟨⟨j + 1, _, by omega, by go_num, HL5.out.drew _, below_drewN HB5.out _⟩, by simp [intOf]; omega⟩
            · have HF := Lib.hid hf
              have HL3 := Lib.hid (HL.out.below hb (Nat.le_refl _))
              have HB3 := Lib.hid (HB1.out.trans (hb.mono HB1.out.size))
              clear hb HL HB1 hm hf
              go_wp2_with fail
              refine (lkey_none _ _ _ _ _ _ _ 0 HL3.out (by omega) (fun p hp e => by have := (HL3.out.ok p hp).2.1; omega)).mono ?_
              rintro e w4 ⟨rfl, hb⟩
              rw [show noKey.v = .agg #[.string ⟨#[]⟩, .int .i64 0, .int .u64 0, .string ⟨#[]⟩, .int .i64 0] from rfl]
              have HL4 := Lib.hid ((HL3.out.below hb (Nat.le_refl _)).below (Below.alloc (Below.refl w4.heap.size w4) (Nat.le_refl _) (.cells #[.string ⟨#[]⟩, .int .i64 0, .int .u64 0, .string ⟨#[]⟩, .int .i64 0] 34)) (Nat.le_refl _))
              have HB4 := Lib.hid ((HB3.out.trans (hb.mono HB3.out.size)).alloc (HB3.out.trans (hb.mono HB3.out.size)).size (.cells #[.string ⟨#[]⟩, .int .i64 0, .int .u64 0, .string ⟨#[]⟩, .int .i64 0] 34))
              clear hb HL3 HB3
              obtain ⟨c0, c1, c2, c3, c4⟩ := HKA.out.below HB4.out hbl
              go_wp2_with fail
              refine (of_none _ _ _ _ _ _ _ k HL4.out HK.out HNO.out).mono ?_
              rintro e w5 ⟨rfl, hb⟩
              have HL5 := Lib.hid (HL4.out.below hb (Nat.le_refl _))
              have HB5 := Lib.hid (HB4.out.trans (hb.mono HB4.out.size))
              clear hb c0 c1 c2 c3 c4 HL4 HB4
              go_wp2_with fail
              go_quiet (fail)
              go_wp2_with fail
              refine (left_is (HL5.out.drew nq) (by have := HL5.out.count; omega) 0 (by have := HL5.out.full HF.out; omega)).mono ?_
              rintro e w6 ⟨rfl, q, rfl⟩
              go_wp2_with fail
              exact ⟨⟨j + 1, _, by omega, by go_num, HL5.out.drew (nq + q), below_drewN HB5.out (nq + q)⟩, by simp [intOf]; omega⟩
        · have hm : kmay k = false := by simpa using hm
          refine (take_bad _ _ _ _ _ _ S k HL.out HK.out hm).mono ?_
          rintro e w3 ⟨rfl, hb⟩
          have HL3 := Lib.hid (HL.out.below hb (Nat.le_refl _))
          have HB3 := Lib.hid (HB1.out.trans (hb.mono HB1.out.size))
          clear hb HL HB1 hm
          by_cases hin : ∃ p ∈ S, p.1 = k
          · obtain ⟨⟨k', n⟩, hp, hpk⟩ := hin
            simp only at hpk
            subst hpk
            obtain ⟨i, hi⟩ := List.getElem?_of_mem hp
            clear hp
            go_wp2_with fail
            refine (lkey_none _ _ _ _ _ _ _ 0 HL3.out (by omega) (fun p hp e => by have := (HL3.out.ok p hp).2.1; omega)).mono ?_
            rintro e w4 ⟨rfl, hb⟩
            rw [show noKey.v = .agg #[.string ⟨#[]⟩, .int .i64 0, .int .u64 0, .string ⟨#[]⟩, .int .i64 0] from rfl]
            have HL4 := Lib.hid ((HL3.out.below hb (Nat.le_refl _)).below (Below.alloc (Below.refl w4.heap.size w4) (Nat.le_refl _) (.cells #[.string ⟨#[]⟩, .int .i64 0, .int .u64 0, .string ⟨#[]⟩, .int .i64 0] 34)) (Nat.le_refl _))
            have HB4 := Lib.hid ((HB3.out.trans (hb.mono HB3.out.size)).alloc (HB3.out.trans (hb.mono HB3.out.size)).size (.cells #[.string ⟨#[]⟩, .int .i64 0, .int .u64 0, .string ⟨#[]⟩, .int .i64 0] 34))
            clear hb HL3 HB3
            obtain ⟨c0, c1, c2, c3, c4⟩ := HKA.out.below HB4.out hbl
            go_wp2_with fail
            refine (of_some _ _ _ _ _ _ i _ k' n HL4.out HK.out hi).mono ?_
            rintro e w5 ⟨rfl, hb⟩
            have HL5 := Lib.hid (HL4.out.below hb (Nat.le_refl _))
            have HB5 := Lib.hid (HB4.out.trans (hb.mono HB4.out.size))
            clear hb c0 c1 c2 c3 c4 HL4 HB4
            go_wp2_with fail
            go_quiet (fail)
            go_wp2_with fail
            exact ⟨⟨j + 1, _, by omega, by go_num, HL5.out.drew _, below_drewN HB5.out _⟩, by simp [intOf]; omega⟩
          · have hno : ∀ p ∈ S, p.1 ≠ k := fun p hp e => hin ⟨p, hp, e⟩
            have HNO := Lib.hid hno
            clear hno hin
            go_wp2_with fail
            refine (lkey_none _ _ _ _ _ _ _ 0 HL3.out (by omega) (fun p hp e => by have := (HL3.out.ok p hp).2.1; omega)).mono ?_
            rintro e w4 ⟨rfl, hb⟩
            rw [show noKey.v = .agg #[.string ⟨#[]⟩, .int .i64 0, .int .u64 0, .string ⟨#[]⟩, .int .i64 0] from rfl]
            have HL4 := Lib.hid ((HL3.out.below hb (Nat.le_refl _)).below (Below.alloc (Below.refl w4.heap.size w4) (Nat.le_refl _) (.cells #[.string ⟨#[]⟩, .int .i64 0, .int .u64 0, .string ⟨#[]⟩, .int .i64 0] 34)) (Nat.le_refl _))
            have HB4 := Lib.hid ((HB3.out.trans (hb.mono HB3.out.size)).alloc (HB3.out.trans (hb.mono HB3.out.size)).size (.cells #[.string ⟨#[]⟩, .int .i64 0, .int .u64 0, .string ⟨#[]⟩, .int .i64 0] 34))
            clear hb HL3 HB3
            obtain ⟨c0, c1, c2, c3, c4⟩ := HKA.out.below HB4.out hbl
            go_wp2_with fail
            refine (of_none _ _ _ _ _ _ _ k HL4.out HK.out HNO.out).mono ?_
            rintro e w5 ⟨rfl, hb⟩
            have HL5 := Lib.hid (HL4.out.below hb (Nat.le_refl _))
            have HB5 := Lib.hid (HB4.out.trans (hb.mono HB4.out.size))
            clear hb c0 c1 c2 c3 c4 HL4 HB4
            go_wp2_with fail
            go_quiet (fail)
            go_wp2_with fail
            exact ⟨⟨j + 1, _, by omega, by go_num, HL5.out.drew _, below_drewN HB5.out _⟩, by simp [intOf]; omega⟩
    · obtain rfl : j = N := by omega
      go_wp2_with fail
      go_loopw [19, 20] (fun t i wr => ∃ q : Nat, 16 ≤ q ∧ q ≤ high + 1 ∧ i = .int .u32 q ∧ t = .int .i64 (cntB S q) ∧ Hid (LabAt wr (w1.heap.size + 2) w1.heap.size (w1.heap.size + 1) 16 high S) ∧ Hid (Below w.heap.size w wr)) (fun _ i _ => high + 2 - (intOf i).toNat)
      case atStart =>
        have e0 : cntB S 16 = 0 := Nat.le_zero.1 (cntB_le S HL.out.labels 16 (fun p hp => (HL.out.ok p hp).2.1) 0)
        exact ⟨16, by omega, by omega, rfl, by rw [e0]; rfl, HL.out, HB1.out⟩
      case round =>
        obtain ⟨q, q0, q1, rfl, rfl, HL2, HB2⟩ := hrel
        clear HL HB1
        have hcl := cntB_le S HL2.out.labels 16 (fun p hp => (HL2.out.ok p hp).2.1) (q - 16)
        rw [show 16 + (q - 16) = q by omega] at hcl
        by_cases hq : q ≤ high
        · by_cases hin : ∃ p ∈ S, p.2 = q
          · obtain ⟨⟨k, n⟩, hp, hpk⟩ := hin
            simp only at hpk
            subst hpk
            have HC := Lib.hid (cntB_has S n HL2.out.labels ⟨_, hp, rfl⟩)
            obtain ⟨i, hi⟩ := List.getElem?_of_mem hp
            have HK := Lib.hid (HL2.out.ok _ hp).1
            clear hp
            go_wp2_with fail
            refine (lkey_some _ _ _ _ _ _ i S k n HL2.out hi).mono ?_
            rintro e w4 ⟨rfl, hb⟩
            rw [show k.v = .agg #[.string k.vrf, .int .i64 k.fam, .int .u64 k.rd, .string k.addr, .int .i64 k.len] from rfl]
            have HL4 := Lib.hid ((HL2.out.below hb (Nat.le_refl _)).below (Below.alloc (Below.refl w4.heap.size w4) (Nat.le_refl _) (.cells #[.string k.vrf, .int .i64 k.fam, .int .u64 k.rd, .string k.addr, .int .i64 k.len] 34)) (Nat.le_refl _))
            have HB4 := Lib.hid ((HB2.out.trans (hb.mono HB2.out.size)).alloc (HB2.out.trans (hb.mono HB2.out.size)).size (.cells #[.string k.vrf, .int .i64 k.fam, .int .u64 k.rd, .string k.addr, .int .i64 k.len] 34))
            have HX4 := Lib.hid (CellsAt.new w4 #[.string k.vrf, .int .i64 k.fam, .int .u64 k.rd, .string k.addr, .int .i64 k.len] 34)
            clear hb HL2 HB2
            obtain ⟨x0, x1, x2, x3, x4⟩ := HX4.out.c5
            go_wp2_with fail
            refine (of_some _ _ _ _ _ _ i S k n HL4.out HK.out hi).mono ?_
            rintro e w5 ⟨rfl, hb⟩
            have HL5 := Lib.hid (HL4.out.below hb (Nat.le_refl _))
            have HB5 := Lib.hid (HB4.out.trans (hb.mono HB4.out.size))
            clear hb x0 x1 x2 x3 x4 HL4 HB4 HX4
            go_wp2_with fail
            exact ⟨⟨n + 1, by omega, by omega, by go_num, by rw [HC.out]; go_num, HL5.out, HB5.out⟩, by simp [intOf]; omega⟩
          · have hno : ∀ p ∈ S, p.2 ≠ q := fun p hp e => hin ⟨p, hp, e⟩
            have HC := Lib.hid (cntB_no S q hno)
            have HNO := Lib.hid hno
            clear hno hin
            go_wp2_with fail
            refine (lkey_none _ _ _ _ _ _ S q HL2.out (by omega) HNO.out).mono ?_
            rintro e w4 ⟨rfl, hb⟩
            rw [show noKey.v = .agg #[.string ⟨#[]⟩, .int .i64 0, .int .u64 0, .string ⟨#[]⟩, .int .i64 0] from rfl]
            have HL4 := Lib.hid ((HL2.out.below hb (Nat.le_refl _)).below (Below.alloc (Below.refl w4.heap.size w4) (Nat.le_refl _) (.cells #[.string ⟨#[]⟩, .int .i64 0, .int .u64 0, .string ⟨#[]⟩, .int .i64 0] 34)) (Nat.le_refl _))
            have HB4 := Lib.hid ((HB2.out.trans (hb.mono HB2.out.size)).alloc (HB2.out.trans (hb.mono HB2.out.size)).size (.cells #[.string ⟨#[]⟩, .int .i64 0, .int .u64 0, .string ⟨#[]⟩, .int .i64 0] 34))
            have HX4 := Lib.hid (CellsAt.new w4 #[.string ⟨#[]⟩, .int .i64 0, .int .u64 0, .string ⟨#[]⟩, .int .i64 0] 34)
            clear hb HL2 HB2
            obtain ⟨x0, x1, x2, x3, x4⟩ := HX4.out.c5
            go_wp2_with fail
            by_cases hin : ∃ p ∈ S, p.1 = noKey
            · obtain ⟨⟨k', n⟩, hp, hpk⟩ := hin
              simp only at hpk
              subst hpk
              obtain ⟨i, hi⟩ := List.getElem?_of_mem hp
              clear hp
              refine (of_some _ _ _ _ _ _ i S noKey n HL4.out noKey_ok' hi).mono ?_
              rintro e w5 ⟨rfl, hb⟩
              have HL5 := Lib.hid (HL4.out.below hb (Nat.le_refl _))
              have HB5 := Lib.hid (HB4.out.trans (hb.mono HB4.out.size))
              clear hb x0 x1 x2 x3 x4 HL4 HB4 HX4
              go_wp2_with fail
              exact ⟨⟨q + 1, by omega, by omega, by go_num, by rw [HC.out], HL5.out, HB5.out⟩, by simp [intOf]; omega⟩
            · have hno : ∀ p ∈ S, p.1 ≠ noKey := fun p hp e => hin ⟨p, hp, e⟩
              refine (of_none _ _ _ _ _ _ S noKey HL4.out noKey_ok' hno).mono ?_
              rintro e w5 ⟨rfl, hb⟩
              have HL5 := Lib.hid (HL4.out.below hb (Nat.le_refl _))
              have HB5 := Lib.hid (HB4.out.trans (hb.mono HB4.out.size))
              clear hb x0 x1 x2 x3 x4 HL4 HB4 HX4 hno hin
              go_wp2_with fail
              exact ⟨⟨q + 1, by omega, by omega, by go_num, by rw [HC.out], HL5.out, HB5.out⟩, by simp [intOf]; omega⟩
        · obtain rfl : q = high + 1 := by omega
          have hcw := cntB_whole S (high + 1) (fun p hp => Nat.lt_succ_of_le (HL2.out.ok p hp).2.2)
          rw [hcw] at hcl ⊢
          clear hcw
          go_wp2_with fail
          refine (left_is HL2.out (by omega) ((high : Int) - 15 - (S.length : Int)) (by omega)).mono ?_
          rintro e w3 ⟨rfl, q, rfl⟩
          go_wp2_with fail
          go_ret
          exact ⟨rfl, below_drewN HB2.out q⟩

set_option maxRecDepth 100000 in
theorem labelsOne_lifted (os : Os) (started : os.Started) (H : Type) (enc : TypeId × Value → H) :
    ReturnsInHanded {} Try.checked os 4 .any (Rows.labelsOneSpec.pre6 enc Try.prog Try.f4 Rows.labelsOneRow.domain false) (Rows.labelsOneSpec.post enc Try.prog Try.f4 false true false false) := by
  refine returnsInHanded_of_change (C := Try.checked) own started (by kernel_rfl) Try.func4
    (ChangeSpec.witness6 (enc := enc) (C := Try.checked) false ⟨#[], #[.slice none 0 0, .int .u64 0, .int .u8 0], []⟩ 8 (by kernel_rfl) (by kernel_rfl) (by kernel_rfl) (by kernel_rfl)) ?_
  intro W base args ds gs before hval0 hW hcnd _
  have hval : ∀ (j : Nat) t v, Try.f4.params[j]? = some t → args[j]? = some v → Value.okWide Try.prog W .any base t v := hval0
  have hW' := hW
  obtain ⟨p, q, hA0, hV, rfl, hfz, hnd⟩ := hW
  have hA : DataW.TrodAll enc Try.prog W 0 (fun _ => true) true Try.f4.params.toList args.toList ds p := hA0
  rw [Try.params4] at hA hval
  obtain ⟨v0, vs0, d0, ds0, p0, q0, hargs, rfl, rfl, h0, r0⟩ := trodAll_cons hA
  obtain ⟨v1, vs1, d1, ds1, p1, q1, rfl, rfl, rfl, h1, r1⟩ := trodAll_cons r0
  obtain ⟨v2, vs2, d2, ds2, p2, q2, rfl, rfl, rfl, h2, r2⟩ := trodAll_cons r1
  obtain ⟨rfl, rfl, rfl⟩ := trodAll_nil r2
  obtain rfl : args = #[v0, v1, v2] := by cases args; simp_all
  obtain ⟨rfl, rfl⟩ := trodVars_none hV
  obtain ⟨A, len, cap, rfl, he⟩ := open_elems (C := 5) Try.underlying39 (by kernel_rfl) (by omega) (hval 0 39 v0 rfl rfl) h0
  have he := he.mono (fun cs ⟨n, y, hy⟩ => key_cs hy)
  obtain ⟨give, rfl, rfl, rfl, wf_give⟩ := open_int Try.underlying30 (hval 1 30 v1 rfl rfl) h1
  have bd_give : 0 ≤ give ∧ give ≤ 18446744073709551615 := by simpa [Lit.wf, IntKind.min, IntKind.max, IntKind.signed, IntKind.bits] using wf_give
  obtain ⟨room, rfl, rfl, rfl, wf_room⟩ := open_int Try.underlying5 (hval 2 5 v2 rfl rfl) h2
  have bd_room : 0 ≤ room ∧ room ≤ 255 := by simpa [Lit.wf, IntKind.min, IntKind.max, IntKind.signed, IntKind.bits] using wf_room
  obtain ⟨give, rfl⟩ := Int.eq_ofNat_of_zero_le bd_give.1
  obtain ⟨room, rfl⟩ := Int.eq_ofNat_of_zero_le bd_room.1
  refine (labelsOne_walk A len cap give room W he (by omega) (by omega)).mono fun e W' ⟨he, bel⟩ => ?_
  exact ⟨_, he, law_post laidOut (by kernel_rfl) rfl (by kernel_rfl) Try.underlying4 hW' rfl bel⟩

theorem labelsOne_holds : Rows.LabelsOneSaid :=
  OpenClaim.holds_of_wide 4 Try.f4 rfl rfl rfl rfl rfl rfl rfl ⟨rfl, rfl, rfl, rfl, rfl⟩ rfl rfl rfl rfl rfl (by kernel_rfl) Try.func4 (by kernel_rfl)
    (of_decide_eq_true (by kernel_rfl)) (by unfold Func.isWrapper; first | (rw [if_pos (by decide +kernel)]; kernel_rfl) | (rw [if_neg (by decide +kernel)]; exact ⟨rfl, rfl⟩))
    (fun os started H enc _ => labelsOne_lifted os started H enc)


end Go.Proofs.Ytngehobekmijbaa
