/-
  ReachKnown: the law answers true. Conditions: none.
-/
import Derived.Test.YtocbacpbckejdaaNlY
set_option linter.unusedVariables false
set_option linter.unusedSimpArgs false
namespace Go.Proofs.Ytocbacpbckejdaa
open Go.RowKit
open Go.ChangeShapes Go.WideShapes Go.ChangeAt
open Go.ChangeMaps (open_string shut_string)

def sixS : ByteArray := ⟨(List.replicate 16 0).toArray⟩
theorem k1 : takeF ⟨#[0, 1, 1]⟩ [] = .error 4 := by kernel_rfl
theorem k2 : takeF ⟨#[0, 3, 1, 0, 0]⟩ [] = .error 5 := by kernel_rfl
theorem k3 : takeF ⟨#[0, 1]⟩ [] = .error 4 := by kernel_rfl
theorem k4 : takeF (ByteArray.mk #[0, 1, 1, 16] ++ sixS ++ ByteArray.mk #[0]) [] = .error 4 := by kernel_rfl
theorem k5 : takeF (ByteArray.mk #[0, 2, 1, 32] ++ sixS ++ sixS ++ ByteArray.mk #[7]) [] = .ok (2, sixS, []) := by kernel_rfl
theorem k6 : takeF ⟨#[0, 1, 128, 12, 0, 0, 0, 0, 0, 0, 0, 1, 10, 0, 0, 1, 0]⟩ [] = .error 4 := by kernel_rfl
theorem k7 : takeF ⟨#[0, 1, 128, 12, 0, 0, 0, 0, 0, 0, 0, 0, 10, 0, 0, 1, 0]⟩ [] = .ok (4, ⟨#[10, 0, 0, 1]⟩, []) := by kernel_rfl
theorem k8 : putR 1 sixS [] false = .tuple #[.string ⟨#[]⟩, .int .i64 2] := by kernel_rfl
theorem k9 : putR 6 ⟨#[10, 0, 0, 1]⟩ [] false = .tuple #[.string ⟨#[]⟩, .int .i64 2] := by kernel_rfl
def tenI : Nl := ⟨1, 0, ⟨#[10, 0, 0, 0]⟩, 8, 1, 0⟩
theorem k10 : putR 1 ⟨#[10, 0, 0, 1]⟩ [tenI] false = .tuple #[.string ⟨#[]⟩, .int .i64 2] := by kernel_rfl
theorem k11 : goneR 1 [tenN 3] false = .tuple #[.string ⟨#[]⟩, .int .i64 2] := by kernel_rfl
theorem k12 : goneR 1 [tenN 1] false = .tuple #[.string ⟨#[0, 1, 1, 8, 10]⟩, .int .i64 0] := by kernel_rfl
theorem k13 : goneF ⟨#[0, 1, 1]⟩ [] = .ok (1, []) := by kernel_rfl
theorem k14 : goneF ⟨#[0, 1, 1, 33]⟩ [] = .error 4 := by kernel_rfl
theorem tenI_ok : tenI.Ok := ⟨by show (-9223372036854775808 : Int) ≤ 1 ∧ (1 : Int) ≤ _; omega, by show (0 : Int) ≤ 0 ∧ (0 : Int) < _; omega, by show 4 ≤ _; omega, by show (-9223372036854775808 : Int) ≤ 8 ∧ (8 : Int) ≤ _; omega, by show (0 : Int) ≤ 1 ∧ (1 : Int) < _; omega, by show (0 : Int) ≤ 0 ∧ (0 : Int) < _; omega⟩
def mixL (k : Nat) : List Nl := List.replicate k (tenN 1) ++ List.replicate (2050 - k) nlZero
theorem mixL_len (k : Nat) (h : k ≤ 2050) : (mixL k).length = 2050 := by
  unfold mixL
  rw [List.length_append, List.length_replicate, List.length_replicate]
  omega
theorem mixL_zero : mixL 0 = List.replicate 2050 nlZero := by
  unfold mixL
  rw [List.replicate_zero, List.nil_append]
theorem mixL_end : mixL 2050 = List.replicate 2050 (tenN 1) := by
  unfold mixL
  rw [Nat.sub_self, List.replicate_zero, List.append_nil]
theorem mixL_set (k : Nat) (h : k < 2050) : (mixL k).set k (tenN 1) = mixL (k + 1) := by
  unfold mixL
  have e : 2050 - k = (2050 - (k + 1)) + 1 := by omega
  rw [List.set_append_right _ _ (by rw [List.length_replicate]; omega), List.length_replicate, Nat.sub_self, e, List.replicate_succ, List.set_cons_zero, List.replicate_succ', List.append_assoc, List.singleton_append]
theorem NlRow.nil (w : World) : NlRow w none 0 0 [] := ⟨rfl, Nat.le_refl _, Nat.zero_le _, fun _ => rfl, (fun n hn => by cases hn), fun h => absurd h (by omega)⟩

set_option maxRecDepth 100000 in
set_option maxHeartbeats 16000000 in
theorem known_walk (w : World) : Calls Try.prog 8 #[] w fun e w' => e = .returned (.bool true) ∧ Below w.heap.size w w' := by
  obtain ⟨six, hsix⟩ : ∃ x, x = sixS := ⟨_, rfl⟩
  have K4 : Hid (takeF (ByteArray.mk #[0, 1, 1, 16] ++ six ++ ByteArray.mk #[0]) [] = .error 4) := by rw [hsix]; exact k4
  have K5 : Hid (takeF (ByteArray.mk #[0, 2, 1, 32] ++ six ++ six ++ ByteArray.mk #[7]) [] = .ok (2, six, [])) := by rw [hsix]; exact k5
  have K8 : Hid (putR 1 six [] false = .tuple #[.string ⟨#[]⟩, .int .i64 2]) := by rw [hsix]; exact k8
  have h16 : six.size = 16 := by rw [hsix]; rfl
  have HZ4 : Hid ((ByteArray.mk #[0, 1, 1, 16] ++ six ++ ByteArray.mk #[0]).size ≤ 1100000) := by
    show _ ≤ _
    rw [ByteArray.size_append, ByteArray.size_append, h16]
    show 4 + 16 + 1 ≤ 1100000
    omega
  have HZ5 : Hid ((ByteArray.mk #[0, 2, 1, 32] ++ six ++ six ++ ByteArray.mk #[7]).size ≤ 1100000) := by
    show _ ≤ _
    rw [ByteArray.size_append, ByteArray.size_append, ByteArray.size_append, h16]
    show 4 + 16 + 16 + 1 ≤ 1100000
    omega
  have HSIX : Hid (sixS = six) := hsix.symm
  clear hsix
  go_enter Try.func8, Try.ntmps8
  have HB0 : Hid (Below w.heap.size w w) := Below.refl _ _
  go_wp2_with fail
  refine (afi_in 4 _ (by omega) (by omega)).mono ?_
  rintro e v1 ⟨rfl, hb⟩
  have HB1 := Lib.hid (HB0.out.trans (hb.mono HB0.out.size))
  clear HB0
  clear hb
  rw [show afiV 4 = 1 from rfl, show safiV 4 = 128 from rfl]
  go_wp2_with fail
  refine (afi_out 0 _ (by omega)).mono ?_
  rintro e v2 ⟨rfl, hb⟩
  have HB2 := Lib.hid (HB1.out.trans (hb.mono HB1.out.size))
  clear HB1
  clear hb
  go_wp2_with fail
  refine (fam_any 1 4 _).mono ?_
  rintro e v3 ⟨rfl, hb⟩
  have HB3 := Lib.hid (HB2.out.trans (hb.mono HB2.out.size))
  clear HB2
  clear hb
  rw [show famOf 1 4 = 3 from rfl]
  go_wp2_with fail
  refine (fam_any 3 1 _).mono ?_
  rintro e v4 ⟨rfl, hb⟩
  have HB4 := Lib.hid (HB3.out.trans (hb.mono HB3.out.size))
  clear HB3
  clear hb
  rw [show famOf 3 1 = 0 from rfl]
  go_wp2_with fail
  refine (fam_any 2 128 _).mono ?_
  rintro e v5 ⟨rfl, hb⟩
  have HB5 := Lib.hid (HB4.out.trans (hb.mono HB4.out.size))
  clear HB4
  clear hb
  rw [show famOf 2 128 = 5 from rfl]
  go_wp2_with fail
  refine (take_any ⟨#[0, 1, 1]⟩ none 0 [] _ (IntAt.nil _) (by decide)).mono ?_
  rintro e v6 ⟨hb, hm⟩
  have HB6 := Lib.hid (HB5.out.trans (hb.mono HB5.out.size))
  clear HB5
  rw [k1] at hm
  clear hb
  obtain rfl : e = _ := hm
  go_wp2_with fail
  refine (take_any ⟨#[0, 3, 1, 0, 0]⟩ none 0 [] _ (IntAt.nil _) (by decide)).mono ?_
  rintro e v7 ⟨hb, hm⟩
  have HB7 := Lib.hid (HB6.out.trans (hb.mono HB6.out.size))
  clear HB6
  rw [k2] at hm
  clear hb
  obtain rfl : e = _ := hm
  go_wp2_with fail
  refine (take_any ⟨#[0, 1]⟩ none 0 [] _ (IntAt.nil _) (by decide)).mono ?_
  rintro e v8 ⟨hb, hm⟩
  have HB8 := Lib.hid (HB7.out.trans (hb.mono HB7.out.size))
  clear HB7
  rw [k3] at hm
  clear hb
  obtain rfl : e = _ := hm
  go_wp2_with (with_reducible show wpList _ _ _ (_ :: _) _ _; refine wpList_make_bytes rfl (.const (.int .i64 16)) (.const (.int .i64 16)) rfl 16 rfl rfl (by omega) ?_)
  intro V8 HO8 HMB
  have hstr := run_string_m (P := Try.prog) V8 52 9 5 _ 16 _ (List.replicate 16 0) Try.underlying52 Try.underlying5 Try.underlying9 HO8.out
  rw [show (⟨(List.replicate 16 0).toArray⟩ : ByteArray) = six from HSIX.out] at hstr
  have HB9 := Lib.hid (HB8.out.trans (HMB.out.mono HB8.out.size))
  clear HB8
  clear HO8 HMB
  go_wp2_with fail
  clear hstr
  refine (take_any (ByteArray.mk #[0, 1, 1, 16] ++ six ++ ByteArray.mk #[0]) none 0 [] _ (IntAt.nil _) HZ4.out).mono ?_
  rintro e v10 ⟨hb, hm⟩
  have HB10 := Lib.hid (HB9.out.trans (hb.mono HB9.out.size))
  clear HB9
  rw [K4.out] at hm
  clear hb
  obtain rfl : e = _ := hm
  go_wp2_with fail
  refine (take_any (ByteArray.mk #[0, 2, 1, 32] ++ six ++ six ++ ByteArray.mk #[7]) none 0 [] _ (IntAt.nil _) HZ5.out).mono ?_
  rintro e v11 ⟨hb, hm⟩
  have HB11 := Lib.hid (HB10.out.trans (hb.mono HB10.out.size))
  clear HB10
  rw [K5.out] at hm
  clear hb
  obtain ⟨v, rfl, ho⟩ := hm
  obtain ⟨A11, c11, rfl⟩ := OwnM.form ho
  clear ho
  go_wp2_with fail
  refine (take_any ⟨#[0, 1, 128, 12, 0, 0, 0, 0, 0, 0, 0, 1, 10, 0, 0, 1, 0]⟩ none 0 [] _ (IntAt.nil _) (by decide)).mono ?_
  rintro e v12 ⟨hb, hm⟩
  have HB12 := Lib.hid (HB11.out.trans (hb.mono HB11.out.size))
  clear HB11
  rw [k6] at hm
  clear hb
  obtain rfl : e = _ := hm
  go_wp2_with fail
  refine (take_any ⟨#[0, 1, 128, 12, 0, 0, 0, 0, 0, 0, 0, 0, 10, 0, 0, 1, 0]⟩ none 0 [] _ (IntAt.nil _) (by decide)).mono ?_
  rintro e v13 ⟨hb, hm⟩
  have HB13 := Lib.hid (HB12.out.trans (hb.mono HB12.out.size))
  clear HB12
  rw [k7] at hm
  clear hb
  obtain ⟨v, rfl, ho⟩ := hm
  obtain ⟨A13, c13, rfl⟩ := OwnM.form ho
  clear ho
  go_wp2_with fail
  refine (put_any 1 six none 0 0 [] false _ (NlRow.nil _) (by omega) (by omega)).mono ?_
  rintro e v14 ⟨rfl, hb⟩
  have HB14 := Lib.hid (HB13.out.trans (hb.mono HB13.out.size))
  clear HB13
  clear hb
  rw [K8.out]
  go_wp2_with fail
  refine (put_any 6 ⟨#[10, 0, 0, 1]⟩ none 0 0 [] false _ (NlRow.nil _) (by omega) (by decide)).mono ?_
  rintro e v15 ⟨rfl, hb⟩
  have HB15 := Lib.hid (HB14.out.trans (hb.mono HB14.out.size))
  clear HB14
  clear hb
  rw [k9]
  go_wp2_with fail
  refine (ten_any 1 _).mono ?_
  rintro e v16 ⟨rfl, hb⟩
  have HB16 := Lib.hid (HB15.out.trans (hb.mono HB15.out.size))
  clear HB15
  clear hb
  have HR : Hid (NlRow ((v16.alloc (.cells tenI.cs.toArray 47)).alloc (.cells tenI.cs.toArray 47)) (some ⟨v16.heap.size + 1, 0, none⟩) 1 1 [tenI]) := by
    have h := NlRow.new1 (v16.alloc (.cells tenI.cs.toArray 47)) tenI tenI_ok 47
    rwa [World.size_alloc] at h
  have HBX : Hid (Below v16.heap.size v16 ((v16.alloc (.cells tenI.cs.toArray 47)).alloc (.cells tenI.cs.toArray 47))) := ((Below.refl _ _).alloc (Nat.le_refl _) _).alloc (by simp) _
  have HB17 := Lib.hid (HB16.out.trans (HBX.out.mono HB16.out.size))
  clear HB16
  clear HBX
  go_wp2_with fail
  refine (put_any 1 ⟨#[10, 0, 0, 1]⟩ _ 1 1 [tenI] false _ HR.out (by omega) (by decide)).mono ?_
  rintro e v18 ⟨rfl, hb⟩
  have HB18 := Lib.hid (HB17.out.trans (hb.mono HB17.out.size))
  clear HB17
  clear hb
  rw [k10]
  clear HR
  go_wp2_with fail
  refine (ten_any 3 _).mono ?_
  rintro e v19 ⟨rfl, hb⟩
  have HB19 := Lib.hid (HB18.out.trans (hb.mono HB18.out.size))
  clear HB18
  clear hb
  have HR : Hid (NlRow (v19.alloc (.cells (tenN 3).cs.toArray 47)) (some ⟨v19.heap.size, 0, none⟩) 1 1 [tenN 3]) := NlRow.new1 _ _ (tenN_ok (by omega) (by omega)) _
  have HB20 := Lib.hid (HB19.out.alloc HB19.out.size (.cells (tenN 3).cs.toArray 47))
  clear HB19
  go_wp2_with fail
  refine (putgone_any 1 _ 1 1 [tenN 3] false _ HR.out (by omega)).mono ?_
  rintro e v21 ⟨rfl, hb⟩
  have HB21 := Lib.hid (HB20.out.trans (hb.mono HB20.out.size))
  clear HB20
  clear hb
  rw [k11]
  clear HR
  go_wp2_with fail
  refine (ten_any 1 _).mono ?_
  rintro e v22 ⟨rfl, hb⟩
  have HB22 := Lib.hid (HB21.out.trans (hb.mono HB21.out.size))
  clear HB21
  clear hb
  have HR : Hid (NlRow (v22.alloc (.cells (tenN 1).cs.toArray 47)) (some ⟨v22.heap.size, 0, none⟩) 1 1 [tenN 1]) := NlRow.new1 _ _ (tenN_ok (by omega) (by omega)) _
  have HB23 := Lib.hid (HB22.out.alloc HB22.out.size (.cells (tenN 1).cs.toArray 47))
  clear HB22
  go_wp2_with fail
  refine (putgone_any 1 _ 1 1 [tenN 1] false _ HR.out (by omega)).mono ?_
  rintro e v24 ⟨rfl, hb⟩
  have HB24 := Lib.hid (HB23.out.trans (hb.mono HB23.out.size))
  clear HB23
  clear hb
  rw [k12]
  clear HR
  go_wp2_with fail
  refine (takegone_any ⟨#[0, 1, 1]⟩ none 0 [] _ (IntAt.nil _) (by decide)).mono ?_
  rintro e v25 ⟨hb, hm⟩
  have HB25 := Lib.hid (HB24.out.trans (hb.mono HB24.out.size))
  clear HB24
  rw [k13] at hm
  clear hb
  obtain ⟨v, rfl, ho⟩ := hm
  obtain ⟨A25, c25, rfl⟩ := OwnM.form ho
  clear ho
  go_wp2_with fail
  refine (takegone_any ⟨#[0, 1, 1, 33]⟩ none 0 [] _ (IntAt.nil _) (by decide)).mono ?_
  rintro e v26 ⟨hb, hm⟩
  have HB26 := Lib.hid (HB25.out.trans (hb.mono HB25.out.size))
  clear HB25
  rw [k14] at hm
  clear hb
  obtain rfl : e = _ := hm
  go_wp2_with (with_reducible show wpList _ _ _ (_ :: _) _ _; refine wpList_make_nl rfl (.const (.int .i64 2050)) (.const (.int .i64 2050)) rfl 2050 rfl rfl (by omega) ?_)
  intro V0 HO0 HMB
  have HGE : Hid (w.heap.size ≤ v26.heap.size) := HB26.out.size
  have HB27 := Lib.hid (HB26.out.trans (HMB.out.mono HB26.out.size))
  clear HB26
  clear HMB
  generalize v26.heap.size = g at HO0 HGE ⊢
  go_wp2_with fail
  go_loopw [54] (fun i wr => ∃ k : Nat, k ≤ 2050 ∧ i = .int .i64 k ∧ Hid (NlOwn wr g (.slice (some ⟨g, 0, none⟩) (mixL k).length 2050) (mixL k)) ∧ Hid (Below w.heap.size w wr)) (fun i _ => 2051 - (intOf i).toNat)
  case atStart => exact ⟨0, Nat.zero_le _, rfl, by rw [mixL_len _ (by omega), mixL_zero]; exact HO0, HB27⟩
  case round =>
    obtain ⟨k, hk, rfl, HO, HB⟩ := hrel
    clear HO0 HB27
    by_cases hlt : k < 2050
    · go_wp2_with fail
      refine (ten_any 1 _).mono ?_
      rintro e u1 ⟨rfl, hb⟩
      have HO1 : Hid (NlOwn u1 g (.slice (some ⟨g, 0, none⟩) (mixL k).length 2050) (mixL k)) := OwnM.below HO.out hb (Nat.le_refl _)
      have HB1 := Lib.hid (HB.out.trans (hb.mono HB.out.size))
      have hgl : Hid (w.heap.size ≤ u1.heap.size) := HB1.out.size
      clear hb HO HB
      go_wp2_with (with_reducible show wpList _ _ _ (_ :: _) _ _; refine wpList_nl_store rfl (.tmp 242) (.tmp 241) rfl g g 2050 k (mixL k) (tenN 1) rfl rfl HO1 (by rw [mixL_len k (by omega)]; exact hlt) ?_)
      intro u2 HO2 HG2
      have HB2 : Hid (Below w.heap.size w u2) := below_grownB HB1.out HG2.out HGE.out hgl.out
      have HO3 : Hid (NlOwn u2 g (.slice (some ⟨g, 0, none⟩) (mixL (k + 1)).length 2050) (mixL (k + 1))) := by
        have h := HO2.out
        rw [mixL_set k hlt, mixL_len k (by omega)] at h
        rw [mixL_len (k + 1) (by omega)]
        exact h
      clear HO1 HO2 HG2 HB1 hgl
      go_wp2_with fail
      exact ⟨⟨k + 1, by omega, by go_num, HO3, HB2⟩, by simp [intOf]; omega⟩
    · obtain rfl : k = 2050 := by omega
      have HRW : Hid (NlRow wr (some ⟨g, 0, none⟩) 2050 2050 (List.replicate 2050 (tenN 1))) := by
        have h := HO.out
        rw [mixL_len 2050 (by omega), mixL_end] at h
        have h2 : NlOwn wr g (.slice (some ⟨g, 0, none⟩) (List.replicate 2050 (tenN 1)).length 2050) (List.replicate 2050 (tenN 1)) := by rw [List.length_replicate]; exact h
        obtain ⟨A9, c9, hv, hr⟩ := NlOwn.row h2 (fun n hn => by rw [List.eq_of_mem_replicate hn]; exact tenN_ok (by omega) (by omega))
        injection hv with e1 e2 e3
        rw [← e1, ← e3, List.length_replicate] at hr
        exact hr
      have HRV : Hid (∀ W n, n ≤ 2050 → Below wr.heap.size wr W → NlRow W (some ⟨g, 0, none⟩) n 2050 (List.replicate n (tenN 1))) := fun W n hn hb => by
        have h := (HRW.out.below hb (Nat.le_refl _)).take hn
        rwa [List.take_replicate, Nat.min_eq_left hn] at h
      have G1 := Lib.hid ((gone_rep 2050).1 (by omega))
      obtain ⟨s2, hg2⟩ := (gone_rep 2036).2 (by omega)
      have G2 := Lib.hid hg2
      have G3 := Lib.hid ((put_rep 2036).1 (by omega))
      obtain ⟨s4, hg4⟩ := (put_rep 2034).2 (by omega)
      have G4 := Lib.hid hg4
      clear hg2 hg4 HRW HO hlt hk
      have HW0 : Hid (Below wr.heap.size wr wr) := Below.refl _ _
      go_wp2_with fail
      refine (putgone_any 1 _ 2050 2050 (List.replicate 2050 (tenN 1)) false _ (HRV.out _ 2050 (by omega) HW0.out) (by omega)).mono ?_
      rintro e y1 ⟨rfl, hb⟩
      have HW1 := Lib.hid (HW0.out.trans (hb.mono HW0.out.size))
      clear hb HW0
      rw [G1.out]
      go_wp2_with fail
      refine (putgone_any 1 _ 2036 2050 (List.replicate 2036 (tenN 1)) false _ (HRV.out _ 2036 (by omega) HW1.out) (by omega)).mono ?_
      rintro e y2 ⟨rfl, hb⟩
      have HW2 := Lib.hid (HW1.out.trans (hb.mono HW1.out.size))
      clear hb HW1
      rw [G2.out]
      go_wp2_with fail
      refine (put_any 1 ⟨#[10, 0, 0, 1]⟩ _ 2036 2050 (List.replicate 2036 (tenN 1)) false _ (HRV.out _ 2036 (by omega) HW2.out) (by omega) (by decide)).mono ?_
      rintro e y3 ⟨rfl, hb⟩
      have HW3 := Lib.hid (HW2.out.trans (hb.mono HW2.out.size))
      clear hb HW2
      rw [G3.out]
      go_wp2_with fail
      refine (put_any 1 ⟨#[10, 0, 0, 1]⟩ _ 2034 2050 (List.replicate 2034 (tenN 1)) false _ (HRV.out _ 2034 (by omega) HW3.out) (by omega) (by decide)).mono ?_
      rintro e y4 ⟨rfl, hb⟩
      have HW4 := Lib.hid (HW3.out.trans (hb.mono HW3.out.size))
      clear hb HW3
      rw [G4.out]
      go_wp2_with fail
      refine (works_any _).mono ?_
      rintro e y9 ⟨rfl, hb⟩
      have HWE := Lib.hid (HB.out.trans ((HW4.out.trans (hb.mono HW4.out.size)).mono HB.out.size))
      clear hb
      go_wp2_with fail
      go_ret
      exact ⟨rfl, HWE.out⟩

set_option maxRecDepth 100000 in
theorem reachKnown_lifted (os : Os) (started : os.Started) (H : Type) (enc : TypeId × Value → H) :
    ReturnsInHanded {} Try.checked os 8 .any (Rows.reachKnownSpec.pre6 enc Try.prog Try.f8 Rows.reachKnownRow.domain false) (Rows.reachKnownSpec.post enc Try.prog Try.f8 false true false false) := by
  refine returnsInHanded_of_change (C := Try.checked) own started (by kernel_rfl) Try.func8
    (ChangeSpec.witness6 (enc := enc) (C := Try.checked) false ⟨#[], #[], []⟩ 8 (by kernel_rfl) (by kernel_rfl) (by kernel_rfl) (by kernel_rfl)) ?_
  intro W base args ds gs before hval0 hW hcnd _
  have hval : ∀ (j : Nat) t v, Try.f8.params[j]? = some t → args[j]? = some v → Value.okWide Try.prog W .any base t v := hval0
  have hW' := hW
  obtain ⟨p, q, hA0, hV, rfl, hfz, hnd⟩ := hW
  have hA : DataW.TrodAll enc Try.prog W 0 (fun _ => true) true Try.f8.params.toList args.toList ds p := hA0
  rw [Try.params8] at hA hval
  obtain ⟨hargs, rfl, rfl⟩ := trodAll_none hA
  obtain rfl : args = #[] := by cases args; simp_all
  obtain ⟨rfl, rfl⟩ := trodVars_none hV
  refine (known_walk W).mono fun e W' ⟨he, bel⟩ => ?_
  exact ⟨_, he, law_post laidOut (by kernel_rfl) rfl (by kernel_rfl) Try.underlying4 hW' rfl bel⟩

theorem reachKnown_holds : Rows.ReachKnownSaid :=
  OpenClaim.holds_of_wide 8 Try.f8 rfl rfl rfl rfl rfl rfl rfl ⟨rfl, rfl, rfl, rfl, rfl⟩ rfl rfl rfl rfl rfl (by kernel_rfl) Try.func8 (by kernel_rfl)
    (of_decide_eq_true (by kernel_rfl)) (by unfold Func.isWrapper; first | (rw [if_pos (by decide +kernel)]; kernel_rfl) | (rw [if_neg (by decide +kernel)]; exact ⟨rfl, rfl⟩))
    (fun os started H enc _ => reachKnown_lifted os started H enc)
end Go.Proofs.Ytocbacpbckejdaa
