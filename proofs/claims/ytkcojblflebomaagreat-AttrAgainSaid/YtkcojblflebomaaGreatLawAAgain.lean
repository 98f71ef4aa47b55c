/-
  AttrAgain: for all lists of raw attributes the law answers true. Conditions: none of its own.
-/
import Derived.Test.YtkcojblflebomaaGreatAcF
import Derived.Test.YtkcojblflebomaaGreatAcE
import Derived.BigQuiet
import Derived.Deep.QuietTactic
set_option linter.unusedVariables false
set_option linter.unusedSimpArgs false
namespace Go.Proofs.YtkcojblflebomaaGreat
open Go.RowKit Go.MapKept Go.Shelf
open Go.ChangeShapes Go.WideShapes Go.ChangeAt
open Go.ChangeMaps (open_string shut_string)
open Go.Lib hiding intOf

theorem RwsOk.take {w : World} {A : Option Addr} {c N : Nat} {L : List Rw} (h : RwsOk w A c L) (hN : N ≤ L.length) : RwsOk w A c (L.take N) := by
  refine ⟨fun hl => ?_, by rw [List.length_take]; have := h.len; omega, h.cap, fun r hr => h.fits r (List.mem_of_mem_take hr)⟩
  rw [List.length_map, List.length_take] at hl
  obtain ⟨b, off, hA, hb, hc⟩ := h.rd (by rw [List.length_map]; omega)
  refine ⟨b, off, hA, hb, fun i cs hi j u hu => hc i cs ?_ j u hu⟩
  rw [List.getElem?_map] at hi ⊢
  by_cases hin : i < N
  · rwa [List.getElem?_take_of_lt hin] at hi
  · rw [List.getElem?_take_eq_none (by omega)] at hi
    cases hi
set_option maxRecDepth 100000 in
set_option maxHeartbeats 8000000 in
theorem again_walk (A : Option Addr) (L0 : List Rw) (cap : Nat) (w : World) (h : RwsOk w A cap L0) :
    Calls Tryz.prog 8 #[.slice A L0.length cap] w fun e w' => e = .returned (.bool true) ∧ Below w.heap.size w w' := by
  have hm1 := h.len
  have hm2 := h.cap
  obtain ⟨N, hN, hN1, hN2⟩ : ∃ N : Nat, min (L0.length : Int) 100 = (N : Int) ∧ N ≤ L0.length ∧ N ≤ 100 := ⟨min L0.length 100, by omega, by omega, by omega⟩
  have hr := h.take hN1
  have hln : (L0.take N).length = N := by rw [List.length_take]; omega
  have hcapN : N ≤ cap := by omega
  generalize L0.take N = L at hr hln
  have HR := Lib.hid hr
  have HWK := Lib.hid works_any
  have HLN := Lib.hid hln
  clear h hr
  by_cases hbig : 4077 < (laysB L).length
  · have HLA : Hid (∀ W, RwsOk W A cap L → Calls Tryz.prog 13 #[.slice A N cap] W fun e w' => e = .returned (.tuple #[.string ⟨#[]⟩, .int .i64 3]) ∧ Below W.heap.size W w') := fun W h => by
      have h2 := lay_any A cap _ W h
      rwa [layR_no hbig, hln] at h2
    clear hln hbig
    go_enter Tryz.func8, Tryz.ntmps8
    go_wp2_with fail
    refine (HWK.out _).mono ?_
    rintro e w1 ⟨rfl, hb1⟩
    have HB1 := Lib.hid hb1
    clear hb1
    go_wp2_with fail
    refine (HLA.out _ (HR.out.below HB1.out (Nat.le_refl _))).mono ?_
    rintro e w2 ⟨rfl, hb2⟩
    have HB2 := Lib.hid (HB1.out.trans (hb2.mono HB1.out.size))
    clear hb2 HB1
    go_wp2_with fail
    go_ret
    exact ⟨rfl, HB2.out⟩
  have hsmall : (laysB L).length ≤ 4077 := by omega
  obtain ⟨s, hs⟩ : ∃ s, s = bts (laysB L) := ⟨_, rfl⟩
  have hss : s.size ≤ 4077 := by rw [hs, bts_size]; exact hsmall
  have HLA : Hid (∀ W, RwsOk W A cap L → Calls Tryz.prog 13 #[.slice A N cap] W fun e w' => e = .returned (.tuple #[.string s, .int .i64 0]) ∧ Below W.heap.size W w') := fun W h => by
    have h2 := lay_any A cap _ W h
    rw [layR_ok hsmall, hln] at h2
    rw [hs]
    exact h2
  have hmn : (L.map normR).length = N := by rw [List.length_map]; exact hln
  have HSP : Hid (∀ W, Calls Tryz.prog 17 #[.string s] W fun e w' => (∃ B c, e = .returned (.tuple #[.slice B N c, .bool true]) ∧ RwsOk w' B c (L.map normR)) ∧ Below W.heap.size W w') := fun W => by
    have h2 := split_both s W (by omega) (L.map normR) true (by rw [if_pos rfl, hs]; exact split_back hsmall) (fun h => by cases h)
    rw [hmn] at h2
    refine h2.mono fun e w' ⟨⟨B, c, he, ho⟩, hb⟩ => ⟨⟨B, c, he, ?_⟩, hb⟩
    rw [← hmn] at ho
    obtain ⟨A2, c2, hv, hok⟩ := OwnL.raws ho (fun r hr => by
      obtain ⟨q, hq, rfl⟩ := List.mem_map.1 hr
      have := lays_each hsmall q hq
      show q.v.size ≤ _
      omega)
    injection hv with e1 e2 e3
    subst e1
    subst e3
    exact hok
  have HSM : Hid (∀ W, Calls Tryz.prog 17 #[.string (s ++ ⟨#[64]⟩)] W fun e w' => (∃ B c, e = .returned (.tuple #[.slice B 0 c, .bool false])) ∧ Below W.heap.size W w') := fun W => by
    have h2 := split_both (s ++ ⟨#[64]⟩) W (by rw [ByteArray.size_append]; show ((s.size + 1 : Nat) : Int) ≤ _; omega) [] false (by rw [hs]; simpa using split_more hsmall) (fun h => rfl)
    exact h2.mono fun e w' ⟨⟨B, c, he, ho⟩, hb⟩ => ⟨⟨B, c, he⟩, hb⟩
  have HFIT : Hid (∀ r ∈ L, r.v.size < 65536) := lays_each hsmall
  clear hs hbig hsmall hmn hln
  go_enter Tryz.func8, Tryz.ntmps8
  go_wp2_with fail
  refine (HWK.out _).mono ?_
  rintro e w1 ⟨rfl, hb1⟩
  have HB1 := Lib.hid hb1
  clear hb1
  go_wp2_with fail
  refine (HLA.out _ (HR.out.below HB1.out (Nat.le_refl _))).mono ?_
  rintro e w2 ⟨rfl, hb2⟩
  have HB2 := Lib.hid (HB1.out.trans (hb2.mono HB1.out.size))
  clear hb2 HB1
  go_wp2_with fail
  refine (HSP.out _).mono ?_
  rintro e w3 ⟨⟨B, d, rfl, hm⟩, hb3⟩
  have HM := Lib.hid hm
  have hdm := hm.len
  rw [List.length_map, HLN.out] at hdm
  have hdc := hm.cap
  have HB3 := Lib.hid (HB2.out.trans (hb3.mono HB2.out.size))
  clear hb3 HB2 hm
  have zN : ((N : Int) != (N : Int)) = false := by simp
  clear hN
  go_wp2_with fail
  go_loopw [7] (fun i wr => ∃ k : Nat, i = .int .i64 k ∧ Hid (Below w3.heap.size w3 wr)) (fun i _ => N + 1 - (intOf i).toNat)
  case atStart => exact ⟨0, rfl, Below.refl _ _⟩
  case round =>
    obtain ⟨k, rfl, HBR⟩ := hrel
    by_cases hlt : k < N
    · obtain ⟨x, hx⟩ : ∃ x, L[k]? = some x := ⟨L[k]'(by rw [HLN.out]; exact hlt), List.getElem?_eq_getElem _⟩
      have hy : (L.map normR)[k]? = some (normR x) := by rw [List.getElem?_map, hx]; rfl
      obtain ⟨b1, o1, rfl, hb1, p0, p1, p2⟩ := rw_at ((HR.out.below HB3.out (Nat.le_refl _)).below HBR.out (Nat.le_refl _)).rd hx
      obtain ⟨b2, o2, rfl, hb2, q0, q1, q2⟩ := rw_at (HM.out.below HBR.out (Nat.le_refl _)).rd hy
      change _ = some (Value.int .u8 x.t.toNat) at q1
      change _ = some (Value.string x.v) at q2
      have hxs : x.v.size < 65536 := HFIT.out x (List.mem_of_getElem? hx)
      obtain ⟨nf, hnf⟩ : ∃ nf, nf = (normR x).f := ⟨_, rfl⟩
      rw [← hnf] at q0
      have zc1 := clr_bits nf
      have zc2 := clr_bits x.f
      have hcc : clr8 nf = clr8 x.f := by
        rw [hnf]
        show clr8 (if 255 < x.v.size then set8 x.f else clr8 x.f) = _
        split
        · exact clr_set _
        · exact clr_clr _
      rw [hcc] at zc1
      have za := and16u nf
      clear hcc hx hy
      have he1 : ((x.t.toNat : Int) == (x.t.toNat : Int)) = true := by simp
      have he2 : (x.v.toList == x.v.toList) = true := bytes_eq.2 rfl
      have he3 : (((clr8 x.f).toNat : Int) == ((clr8 x.f).toNat : Int)) = true := by simp
      have hn1 : ((x.t.toNat : Int) != (x.t.toNat : Int)) = false := by simp
      have hn3 : (((clr8 x.f).toNat : Int) != ((clr8 x.f).toNat : Int)) = false := by simp
      by_cases hlong : 255 < x.v.size
      · rw [show bit8 nf.toNat = true by rw [hnf]; unfold normR; rw [if_pos hlong]; exact bit_set _, if_pos rfl] at za
        have zl : decide ((255 : Int) < (x.v.size : Int)) = true := decide_eq_true (by omega)
        clear hnf
        go_wp2_with fail
        go_quiet (fail)
        go_wp2_with fail
        exact ⟨⟨k + 1, by go_num, below_drewN HBR.out _⟩, by simp [intOf]; omega⟩
      · rw [show bit8 nf.toNat = false by rw [hnf]; unfold normR; rw [if_neg hlong]; exact bit_clr _, if_neg (by simp)] at za
        have zl : decide ((255 : Int) < (x.v.size : Int)) = false := decide_eq_false (by omega)
        clear hnf
        go_wp2_with fail
        go_quiet (fail)
        go_wp2_with fail
        exact ⟨⟨k + 1, by go_num, below_drewN HBR.out _⟩, by simp [intOf]; omega⟩
    · have HB4 := Lib.hid (HB3.out.trans (HBR.out.mono HB3.out.size))
      clear HBR HB3
      have g1 : ¬ (9223372036854775807 < s.size + (ByteArray.mk #[64]).size) := by show ¬ (9223372036854775807 < s.size + 1); omega
      go_wp2_with fail
      refine (HSM.out _).mono ?_
      rintro e w5 ⟨⟨B5, c5, rfl⟩, hb5⟩
      have HB5 := Lib.hid (HB4.out.trans (hb5.mono HB4.out.size))
      clear hb5 HB4
      go_wp2_with fail
      go_ret
      exact ⟨rfl, HB5.out⟩
set_option maxHeartbeats 4000000 in
set_option maxRecDepth 100000 in
theorem attrAgain_lifted (os : Os) (started : os.Started) (H : Type) (enc : TypeId × Value → H) :
    ReturnsInHanded {} Tryz.checked os 8 .any (Rows.attrAgainSpec.pre6 enc Tryz.prog Tryz.f8 Rows.attrAgainRow.domain false) (Rows.attrAgainSpec.post enc Tryz.prog Tryz.f8 false true false false) := by
  refine returnsInHanded_of_change_sized (C := Tryz.checked) own started (by kernel_rfl) Tryz.func8
    (ChangeSpec.witness6 (enc := enc) (C := Tryz.checked) false ⟨#[], #[.slice none 0 0], []⟩ 8 (by kernel_rfl) (by kernel_rfl) (by kernel_rfl) (by kernel_rfl)) ?_
  intro W base args ds gs before hval0 hW hcnd hsz _
  have hval : ∀ (j : Nat) t v, Tryz.f8.params[j]? = some t → args[j]? = some v → Value.okWide Tryz.prog W .any base t v := hval0
  have hW' := hW
  obtain ⟨p, q, hA0, hV, rfl, hfz, hnd⟩ := hW
  have hA : DataW.TrodAll enc Tryz.prog W 0 (fun _ => true) true Tryz.f8.params.toList args.toList ds p := hA0
  rw [Tryz.params8] at hA hval
  obtain ⟨v0, vs0, d0, ds0, p0, q0, hargs, rfl, rfl, h0, r0⟩ := trodAll_cons hA
  obtain ⟨rfl, rfl, rfl⟩ := trodAll_nil r0
  obtain rfl : args = #[v0] := by cases args; simp_all
  obtain ⟨rfl, rfl⟩ := trodVars_none hV
  obtain ⟨A0, len0, cap0, rfl⟩ := okWide_slice Tryz.underlying22 (hval 0 22 v0 rfl rfl)
  obtain ⟨fu0, hf0⟩ := h0
  obtain ⟨A, l, cap, hv0, hok, hs, hlen⟩ := open_raws (v := .slice A0 len0 cap0) (x := (d0, p0)) hf0 (light_of hsz (j := 0) rfl rfl)
  injection hv0 with ea0 eb0 ec0
  subst ea0
  subst eb0
  subst ec0
  refine (again_walk A0 l cap0 W hok).mono fun e W' ⟨he, bel⟩ => ?_
  exact ⟨_, he, law_post laidOut (by kernel_rfl) rfl (by kernel_rfl) Tryz.underlying4 hW' rfl bel⟩

theorem attrAgain_holds : Rows.AttrAgainSaid :=
  OpenClaim.holds_of_wide 8 Tryz.f8 rfl rfl rfl rfl rfl rfl rfl ⟨rfl, rfl, rfl, rfl, rfl⟩ rfl rfl rfl rfl rfl (by kernel_rfl) Tryz.func8 (by kernel_rfl)
    (of_decide_eq_true (by kernel_rfl)) (by unfold Func.isWrapper; first | (rw [if_pos (by decide +kernel)]; kernel_rfl) | (rw [if_neg (by decide +kernel)]; exact ⟨rfl, rfl⟩))
    (fun os started H enc _ => attrAgain_lifted os started H enc)
end Go.Proofs.YtkcojblflebomaaGreat
