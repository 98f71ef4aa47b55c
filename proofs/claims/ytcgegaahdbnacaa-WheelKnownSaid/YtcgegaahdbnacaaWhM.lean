/-
  WheelRest: for all timers by small numbers, any tick and peer the law answers true. Conditions: none of its own.
-/
import Derived.Test.YtcgegaahdbnacaaWhL
set_option linter.unusedVariables false
set_option linter.unusedSimpArgs false
namespace Go.Proofs.Ytcgegaahdbnacaa
open Go.RowKit Go.MapKept Go.Shelf Go.Lib
open Go.Maps (Keyed)
open Go.ChangeShapes Go.WideShapes Go.ChangeAt

theorem parts {S O K : List Tm} {f : Tm → Bool} (h1 : O.Perm (S.filter f)) (h2 : K.Perm (S.filter fun x => !f x)) : (O ++ K).Perm S := (h1.append h2).trans (List.filter_append_perm _ _)
theorem parts_len {S O K : List Tm} {f : Tm → Bool} (h1 : O.Perm (S.filter f)) (h2 : K.Perm (S.filter fun x => !f x)) : O.length + K.length = S.length := by
  have := (parts h1 h2).length_eq
  rwa [List.length_append] at this

set_option maxRecDepth 100000 in
set_option maxHeartbeats 8000000 in
theorem wheelRest_walk (A : Option Addr) (len cap : Nat) (X : List SetV) (now peer : Nat) (w : World) (h : SetsIn w A len cap X) (hn : now < 256) (hpe : peer < 256) :
    Calls Try.prog 4 #[.slice A len cap, .int .u8 now, .int .u8 peer] w fun e w' => e = .returned (.bool true) ∧ Below w.heap.size w w' := by
  have HS := Lib.hid h
  clear h
  go_enter Try.func4, Try.ntmps4
  go_wp2_with fail
  refine (filled_no A len cap X _ HS.out).mono ?_
  rintro e w1 ⟨b, m, S, rfl, ha, _, lw0, lw1, hb⟩
  have HA1 := Lib.hid ha
  have HB1 := Lib.hid hb
  have hkeys := Lib.hid ha.keys
  have hSl := ha.len
  have HSO := Lib.hid ha.ok
  clear ha hb
  go_wp2_with fail
  refine (wlen_any _ _ _ _ HA1.out).mono ?_
  rintro e w2 ⟨rfl, hw⟩
  have hw := hw.symm
  subst hw
  go_wp2_with fail
  refine (wtake_any _ b m now S HA1.out).mono ?_
  rintro e w3 ⟨v, O, K, rfl, ho1, ho2, hwk, hk, hf, hg⟩
  have hlen := parts_len ho2 hk
  have hOl : O.length ≤ 1024 := by omega
  have hL : (O.length : Int) + (K.length : Int) = (S.length : Int) := by omega
  have HDIS : Hid (∀ p ∈ O, ∀ q ∈ K, q.k ≠ p.k) := by
    intro p hp q hq e
    have h1 := ((parts ho2 hk).pairwise_iff (fun a => fun e => a e.symm)).2 hkeys.out
    exact (List.pairwise_append.1 h1).2.2 p hp q hq e.symm
  have HOP : Hid (∀ p ∈ O, p.at_ ≤ now ∧ p.k.Ok) := by
    intro p hp
    obtain ⟨h1, h2⟩ := List.mem_filter.1 (ho2.mem_iff.1 hp)
    exact ⟨by simpa [dueF] using h2, (HSO.out p h1).1⟩
  have HKP : Hid (∀ p ∈ K, now < p.at_) := by
    intro p hp
    obtain ⟨h1, h2⟩ := List.mem_filter.1 (hk.mem_iff.1 hp)
    simp [dueF] at h2
    omega
  have HA3 := Lib.hid hwk
  have HF3 := Lib.hid hf
  have HB3 : Hid (Below w.heap.size w w3) := hg.below HB1.out (fun i hi => by omega) HB1.out.size
  have hvlt := Lib.hid (fun g (hg : v.ownBlock = some g) => (hf.lt g hg).1)
  have zw1 : w.heap.size ≤ w1.heap.size := HB1.out.size
  obtain ⟨lt1, lt2⟩ := HA1.out.lt
  clear ho1 ho2 hwk hk hf hg hlen HA1 HB1
  obtain ⟨A2, c2, rfl⟩ := OwnM.form HF3.out
  go_wp2_with fail
  refine (wlen_any _ _ _ _ HA3.out).mono ?_
  rintro e w2 ⟨rfl, hw⟩
  have hw := hw.symm
  subst hw
  go_wp2_with fail
  clear hL
  go_loopw [11] (fun x wr => ∃ j : Nat, j ≤ O.length ∧ x = .int .i64 j ∧ Hid (WheelAt wr b m K) ∧ Hid (FiredAt wr w1.heap.size (.slice A2 O.length c2) O) ∧ Hid (Below w.heap.size w wr)) (fun x _ => O.length + 1 - (intOf x).toNat)
  case atStart => exact ⟨0, by omega, rfl, HA3.out, HF3.out, HB3.out⟩
  case round =>
    obtain ⟨j, hj, rfl, HA, HF, HB⟩ := hrel
    clear HA3 HF3 HB3
    by_cases hlt : j < O.length
    · obtain ⟨x, hox⟩ : ∃ x, O[j]? = some x := ⟨O[j], List.getElem?_eq_getElem hlt⟩
      obtain ⟨gx, cx', ex, _⟩ := FiredAt.at_ HF.out hox
      simp only [Value.slice.injEq] at ex
      obtain ⟨rfl, _, rfl⟩ := ex
      have hxm : x ∈ O := List.mem_of_getElem? hox
      obtain ⟨hxa, hxk⟩ := HOP.out x hxm
      have HXO := Lib.hid hox
      have HXK := Lib.hid hxk
      have HNO := Lib.hid (fun p (hp : p ∈ K) => HDIS.out x hxm p hp)
      have hgm : ¬ gx = m := fun e => by have := hvlt.out gx rfl; omega
      clear hxm hxk
      obtain ⟨x0, x1, x2, x3⟩ := FiredAt.cs HF.out hox
      clear hox
      have HCON := Lib.hid (wat_none _ b m K x.k HA.out HXK.out HNO.out)
      rw [WK.agg] at HCON
      go_wp2_with fail
      refine HCON.out.mono ?_
      rintro e w4 ⟨rfl, hb⟩
      have HA4 := Lib.hid (HA.out.below hb (Nat.le_refl _))
      have HF4 := Lib.hid (FiredAt.below HF.out hb)
      have HB4 := Lib.hid (HB.out.trans (hb.mono HB.out.size))
      clear hb x0 x1 x2 x3 HA HF HB HCON
      obtain ⟨x0, x1, x2, x3⟩ := FiredAt.cs HF4.out HXO.out
      have HCON := Lib.hid (wcancel_none _ b m K x.k HA4.out HXK.out HNO.out)
      rw [WK.agg] at HCON
      go_wp2_with fail
      refine HCON.out.mono ?_
      rintro e w5 ⟨rfl, hwk, hg⟩
      have HA5 := Lib.hid hwk
      have HF5 : Hid (FiredAt w5 w1.heap.size (.slice (some ⟨gx, 0, none⟩) O.length c2) O) := OwnM.grownX HF4.out hg (fun g h1 e => by simp [Value.ownBlock] at h1; omega)
      have HB5 : Hid (Below w.heap.size w w5) := hg.below HB4.out (fun i hi => by omega) HB4.out.size
      clear hwk hg x0 x1 x2 x3 HA4 HF4 HB4 HCON
      go_wp2_with fail
      exact ⟨⟨j + 1, by omega, by go_num, HA5.out, HF5.out, HB5.out⟩, by simp [intOf]; omega⟩
    · obtain rfl : j = O.length := by omega
      have hKl := HA.out.len
      have HKO := Lib.hid HA.out.ok
      go_wp2_with fail
      refine (wnext_any _ b m K HA.out).mono ?_
      rintro e w4 ⟨hcase, hb⟩
      have HA4 := Lib.hid (HA.out.below hb (Nat.le_refl _))
      have HB4 := Lib.hid (HB.out.trans (hb.mono HB.out.size))
      clear hb HA HB HF
      obtain ⟨nm, hnm⟩ : ∃ nm : ByteArray, nm = ⟨#[UInt8.ofNat (97 + peer % 5)]⟩ := ⟨_, rfl⟩
      have hcn : (UInt8.ofNat (97 + peer % 5)).toNat = 97 + peer % 5 := by rw [UInt8.toNat_ofNat']; omega
      have hc : (97 : Int) + (peer : Int) % 5 = ((UInt8.ofNat (97 + peer % 5)).toNat : Int) := by omega
      clear hcn
      generalize UInt8.ofNat (97 + peer % 5) = c at hc hnm
      have hcl := c.toNat_lt
      have hconv := run_convert_bytes_back (P := Try.prog) (w4.alloc (.cells #[.int .u8 (c.toNat : Int)] 5)) 40 9 5 ⟨w4.heap.size, 0, none⟩ 1 [c] Try.underlying40 Try.underlying5 Try.underlying9 (fun j hj => by
        rw [add_flat, cell_of_row _ w4.heap.size j _ _ _ (heap_alloc_new w4 _)]
        rcases (show j = 0 by simp at hj; omega) with rfl
        rfl)
      simp only [List.length_cons, List.length_nil, Nat.zero_add] at hconv
      rw [show (⟨[c].toArray⟩ : ByteArray) = nm from hnm.symm] at hconv
      clear hnm
      have HA5 := Lib.hid (HA4.out.alloc (.cells #[.int .u8 (c.toNat : Int)] 5))
      have HB5 := Lib.hid (HB4.out.alloc HB4.out.size (.cells #[.int .u8 (c.toNat : Int)] 5))
      clear HA4 HB4
      rcases hcase with ⟨hK0, rfl⟩ | ⟨n, hn1, hn2, rfl⟩
      all_goals
        first
          | (have hk0 : decide ((0 : Int) < (K.length : Int)) = false := by rw [hK0]; rfl
             have hk1 : ¬ 0 < K.length := by rw [hK0]; simp
             clear hK0)
          | (have hn3 : now < n := by
               obtain ⟨p, hp, rfl⟩ := hn1
               exact HKP.out p hp
             have hpos : 0 < K.length := by
               obtain ⟨p, hp, _⟩ := hn1
               exact List.length_pos_of_mem hp
             have hn4 : ¬ n ≤ now := by omega
             clear hn1 hn2)
        go_wp2_with fail
        refine (wdrop_any _ b m nm _ HA5.out).mono ?_
        rintro e w6 ⟨K2, rfl, hw2, hk2, hg⟩
        have hcnt := parts_len (List.Perm.refl _) hk2
        have HNP : Hid (∀ p ∈ K2, (p.k.peer.toList == nm.toList) = false) := by
          intro p hp
          obtain ⟨h1, h2⟩ := List.mem_filter.1 (hk2.mem_iff.1 hp)
          simpa [peerF] using h2
        have HA6 := Lib.hid hw2
        have HB6 : Hid (Below w.heap.size w w6) := hg.below HB5.out (fun i hi => by omega) HB5.out.size
        clear hw2 hk2 hg HA5 HB5 hconv hc
        go_wp2_with fail
        refine (wtake_any _ b m 1099511627776 K2 HA6.out).mono ?_
        rintro e w7 ⟨v3, O3, K3, rfl, ho1, ho2, hwk, hk, hf, hg⟩
        have hall : O3.Perm K2 := ho2.trans (List.Perm.of_eq (List.filter_eq_self.2 fun p hp => by have := (HA6.out.ok p hp).2; simp [dueF]; omega))
        have hK3 : K3 = [] := by
          have h1 : (K2.filter fun x => !dueF 1099511627776 x) = [] := List.filter_eq_nil_iff.2 (fun p hp => by have := (HA6.out.ok p hp).2; simp [dueF]; omega)
          rw [h1] at hk
          exact hk.eq_nil
        subst hK3
        have HNO := Lib.hid (fun p (hp : p ∈ O3) => HNP.out p (hall.mem_iff.1 hp))
        have hO3l := hall.length_eq
        have hO3m : O3.length ≤ 1024 := by have := HA6.out.len; omega
        have HL2 : Hid ((O3.length : Int) = (K2.length : Int)) := by show _ = _; omega
        have HA7 := Lib.hid hwk
        have HF7 := Lib.hid hf
        have HB7 : Hid (Below w.heap.size w w7) := hg.below HB6.out (fun i hi => by omega) HB6.out.size
        clear ho1 ho2 hwk hk hf hg hall HA6 HB6 HNP hO3l
        obtain ⟨A3, c3, rfl⟩ := OwnM.form HF7.out
        generalize hCN : (List.filter (peerF nm) _).length = CN at hcnt ⊢
        clear hCN
        have hsum := congrArg (Nat.cast (R := Int)) hcnt
        rw [Int.natCast_add, ← HL2.out] at hsum
        have HSUM := Lib.hid hsum
        have hcn1 : CN ≤ 1024 := by omega
        clear hsum hcnt
        go_wp2_with fail
        go_loop [19] (fun x => ∃ j : Nat, j ≤ O3.length ∧ x = .int .i64 j) (fun x => O3.length + 1 - (intOf x).toNat)
        case atStart => exact ⟨0, by omega, rfl⟩
        case round =>
          obtain ⟨i, hi, rfl⟩ := hrel
          by_cases hlt2 : i < O3.length
          · obtain ⟨x, hox⟩ : ∃ x, O3[i]? = some x := ⟨O3[i], List.getElem?_eq_getElem hlt2⟩
            obtain ⟨gx, cx', ex, _⟩ := FiredAt.at_ HF7.out hox
            simp only [Value.slice.injEq] at ex
            obtain ⟨rfl, _, rfl⟩ := ex
            have hne := HNO.out x (List.mem_of_getElem? hox)
            have hne2 : ¬ x.k.peer.toList = nm.toList := by rwa [beq_eq_false_iff_ne] at hne
            obtain ⟨x0, x1, x2, x3⟩ := FiredAt.cs HF7.out hox
            clear hox
            go_wp2_with fail
            exact ⟨⟨i + 1, by omega, by go_num⟩, by simp [intOf]; omega⟩
          · obtain rfl : i = O3.length := by omega
            have hsum := HSUM.out
            go_wp2_with fail
            refine (wlen_any _ _ _ _ HA7.out).mono ?_
            rintro e w8 ⟨rfl, hw⟩
            have hw := hw.symm
            subst hw
            go_wp2_with fail
            refine (works_any _).mono ?_
            rintro e w9 ⟨rfl, hb⟩
            have HE := Lib.hid (HB7.out.trans (hb.mono HB7.out.size))
            clear hb
            go_wp2_with fail
            go_ret
            exact ⟨rfl, HE.out⟩
end Go.Proofs.Ytcgegaahdbnacaa
