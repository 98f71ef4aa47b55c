/-
  AttrSplits: for all bytes (up to the small bulk) the law answers true. Conditions: none of its own.
-/
import Derived.Test.YtkcojblflebomaaGreatAcE
import Derived.Test.YtkcojblflebomaaGreatAcA
set_option linter.unusedVariables false
set_option linter.unusedSimpArgs false
namespace Go.Proofs.YtkcojblflebomaaGreat
open Go.RowKit Go.MapKept Go.Shelf
open Go.ChangeShapes Go.WideShapes Go.ChangeAt
open Go.ChangeMaps (open_string shut_string)
open Go.Lib hiding intOf

theorem bulk_string {H : Type} {s : ByteArray} {l : List (DataW H)} (hk : Rows.uptoSmall H (.lit (.string s.data.toList) :: l) = true) : s.size ≤ 1048576 := by
  have h : Rows.uptoBulkAll (DataW.lit (H := H) (.string s.data.toList) :: l) ≤ 1048576 := of_decide_eq_true hk
  have h2 : s.data.toList.length = s.size := rfl
  simp only [Rows.uptoBulkAll, Rows.uptoBulk] at h
  omega
set_option maxRecDepth 100000 in
set_option maxHeartbeats 8000000 in
theorem splits_walk (s : ByteArray) (w : World) (hs : s.size ≤ 1048576) :
    Calls Tryz.prog 4 #[.string s] w fun e w' => e = .returned (.bool true) ∧ Below w.heap.size w w' := by
  obtain ⟨L, b, hsp, hbl, hf, hl⟩ := split_letters s
  have HSP : Hid (∀ W, Calls Tryz.prog 17 #[.string s] W fun e w' => (∃ A c, e = .returned (.tuple #[.slice A L.length c, .bool b]) ∧ OwnL w' (W.heap.size + 1) 32 3 Rw.cs (.slice A L.length c) L) ∧ Below W.heap.size W w') := fun W => split_both s W (by omega) L b hsp hbl
  have HRS : Hid (∀ W, Calls Tryz.prog 18 #[.string s] W fun e w' => (∃ A c, e = .returned (.tuple #[.slice A L.length c, .bool b]) ∧ OwnL w' W.heap.size 32 3 Rw.cs (.slice A L.length c) L) ∧ Below W.heap.size W w') := fun W => rsplit_both s W (by omega) L b hsp hbl
  have HF : Hid (∀ r ∈ L, r.v.size ≤ 9223372036854775807) := fun r hr => by have := hf r hr; omega
  have HSR : Hid (∀ A B c d W, RwsOk W A c L → RwsOk W B d L → Calls Tryz.prog 15 #[.slice A L.length c, .slice B L.length d] W fun e w' => e = .returned (.bool true) ∧ Below W.heap.size W w') := fun A B c d W h1 h2 => by
    have h3 := rsraws_any A B c d _ _ W h1 h2
    rwa [decide_eq_true rfl] at h3
  have HOK : Hid (∀ {W : World} {base : Nat} {A : Option Addr} {c : Nat}, OwnL W base 32 3 Rw.cs (.slice A L.length c) L → RwsOk W A c L) := by
    show ∀ {W : World} {base : Nat} {A : Option Addr} {c : Nat}, _
    intro W base A c ho
    obtain ⟨A2, c2, hv, hok⟩ := OwnL.raws ho HF.out
    injection hv with e1 e2 e3
    subst e1
    subst e3
    exact hok
  have HWK := Lib.hid works_any
  have hll : L.length ≤ 1048576 := by omega
  have z1 : (b == b) = true := beq_iff_eq.2 rfl
  have z2 : (b != b) = false := by rw [bne, z1]; rfl
  clear hsp hbl hf hl hs
  go_enter Tryz.func4, Tryz.ntmps4
  go_wp2_with fail
  refine (HSP.out _).mono ?_
  rintro e w1 ⟨⟨A, c, rfl, ho1⟩, hb1⟩
  have HO1 := Lib.hid ho1
  have HB1 := Lib.hid hb1
  clear ho1 hb1
  go_wp2_with fail
  refine (HRS.out _).mono ?_
  rintro e w2 ⟨⟨B, d, rfl, ho2⟩, hb2⟩
  have HO2 := Lib.hid ho2
  have HO1b : Hid (OwnL w2 (w.heap.size + 1) 32 3 Rw.cs (.slice A L.length c) L) := HO1.out.below hb2 (Nat.le_refl _)
  have HLT1 : Hid (∀ k, (Value.slice A L.length c).ownBlock = some k → k < w1.heap.size) := fun k hk => (OwnM.lt HO1.out k hk).2
  have HB2 := Lib.hid (HB1.out.trans (hb2.mono HB1.out.size))
  clear ho2 hb2 HO1
  go_wp2_with fail
  refine (HSR.out A B c d _ (HOK.out HO1b.out) (HOK.out HO2.out)).mono ?_
  rintro e w3 ⟨rfl, hb3⟩
  have HO1c : Hid (OwnL w3 (w.heap.size + 1) 32 3 Rw.cs (.slice A L.length c) L) := HO1b.out.below hb3 (Nat.le_refl _)
  have HO2c : Hid (OwnL w3 w1.heap.size 32 3 Rw.cs (.slice B L.length d) L) := HO2.out.below hb3 (Nat.le_refl _)
  have HB3 := Lib.hid (HB2.out.trans (hb3.mono HB2.out.size))
  have hs1 := HB1.out.size
  clear hb3 HO1b HO2 HB1 HB2
  have hcc : L.length ≤ c := (HOK.out HO1c.out).len
  have hcm : c ≤ 9223372036854775807 := (HOK.out HO1c.out).cap
  go_wp2_with fail
  go_loopw [7] (fun i wr => ∃ k : Nat, i = .int .i64 k ∧ Hid (w3.grownBy wr (Value.slice A L.length c).ownBlock) ∧ Hid (OwnL wr w1.heap.size 32 3 Rw.cs (.slice B L.length d) L) ∧ Hid (0 < L.length → ∃ g, A = some ⟨g, 0, none⟩ ∧ w.heap.size + 1 ≤ g ∧ g < w1.heap.size ∧ g < wr.heap.size ∧ wr.there g 0 (L.length * 3))) (fun i _ => L.length + 1 - (intOf i).toNat)
  case atStart =>
    refine ⟨0, rfl, grown_of_below (Below.refl _ _) _, HO2c.out, fun hp => ?_⟩
    obtain ⟨g, cap, hv, h1, h2, h3, h4, h5⟩ := OwnM.there HO1c.out hp
    injection hv with e1 e2 e3
    subst e1
    exact ⟨g, rfl, h1, HLT1.out g (by simp [Value.ownBlock]), h2, h5⟩
  case round =>
    obtain ⟨k, rfl, HG, HO, HT⟩ := hrel
    by_cases hlt : k < L.length
    · obtain ⟨g, rfl, h1, h2, h3, h4⟩ := HT.out (by omega)
      have HTH : Hid (wr.there g (k * 3) (#[Value.int .u8 0, .int .u8 0, .string ⟨#[]⟩] : Array Value).size) := there_part h4 hlt
      have HW4 := Lib.hid h4
      clear HT h4
      go_wp2_with (with_reducible show wpList _ _ _ (_ :: _) _ _; refine wpList_store_mid rfl 32 (.tmp 37) (.tmp 36) rfl g (k * 3) #[.int .u8 0, .int .u8 0, .string ⟨#[]⟩] rfl rfl HTH.out (by kernel_rfl) (by kernel_rfl) ?_)
      have HGS := Lib.hid (grown_setCells g [Value.int .u8 0, .int .u8 0, .string ⟨#[]⟩] (k * 3) wr)
      refine ⟨⟨k + 1, by go_num, ?_, ?_, fun _ => ⟨g, rfl, h1, h2, Nat.lt_of_lt_of_le h3 HGS.out.size, World.there_setCells HW4.out _ _ _⟩⟩, by simp [intOf]; omega⟩
      · exact grown_trans HG.out HGS.out
      · exact HO.out.grown HGS.out (fun q hq => by cases hq; exact h2)
    · clear HT
      have HBR : Hid (Below w.heap.size w wr) := HB3.out.grown HG.out HB3.out.size (fun q hq => by
        have := (OwnM.lt HO1c.out q hq).1
        omega)
      clear HG HB3 HO1c HO2c HLT1
      go_wp2_with fail
      refine (HSP.out _).mono ?_
      rintro e w5 ⟨⟨A5, c5, rfl, ho5⟩, hb5⟩
      have HO5 := Lib.hid ho5
      have HO6 : Hid (OwnL w5 w1.heap.size 32 3 Rw.cs (.slice B L.length d) L) := HO.out.below hb5 (Nat.le_refl _)
      have HB5 := Lib.hid (HBR.out.trans (hb5.mono HBR.out.size))
      clear ho5 hb5 HBR HO
      go_wp2_with fail
      refine (HSR.out A5 B c5 d _ (HOK.out HO5.out) (HOK.out HO6.out)).mono ?_
      rintro e w6 ⟨rfl, hb6⟩
      have HB6 := Lib.hid (HB5.out.trans (hb6.mono HB5.out.size))
      clear hb6 HB5 HO5 HO6
      go_wp2_with fail
      refine (HWK.out _).mono ?_
      rintro e w7 ⟨rfl, hb7⟩
      have HB7 := Lib.hid (HB6.out.trans (hb7.mono HB6.out.size))
      clear hb7 HB6
      go_wp2_with fail
      go_ret
      exact ⟨rfl, HB7.out⟩
set_option maxHeartbeats 4000000 in
set_option maxRecDepth 100000 in
theorem attrSplits_liftedU (os : Os) (started : os.Started) (H : Type) (enc : TypeId × Value → H) (F : Stop.Interp) :
    ReturnsInHanded {} Tryz.checked os 4 .any ((Rows.OpenSpec.upto Rows.attrSplitsSpec).pre6 enc Tryz.prog Tryz.f4 Rows.attrSplitsUptoRow.domain false) (((Rows.OpenSpec.upto Rows.attrSplitsSpec).at F).post enc Tryz.prog Tryz.f4 false true false false) := by
  refine returnsInHanded_of_cond (C := Tryz.checked) (s := Rows.OpenSpec.upto Rows.attrSplitsSpec) (k := Rows.uptoSmall) rfl own started (by kernel_rfl) Tryz.func4
    (OpenSpec.witness (enc := enc) (C := Tryz.checked) (s := Rows.OpenSpec.upto Rows.attrSplitsSpec) (k := Rows.uptoSmall) rfl false ⟨#[], #[.string ⟨#[]⟩], []⟩ 8 (by kernel_rfl) (by kernel_rfl) (by kernel_rfl)
      (x := ([.lit (.string [])], [], [])) (by kernel_rfl) rfl (by kernel_rfl)) ?_
  intro W base args ds gs before hval0 hW hcnd hk _
  have hval : ∀ (j : Nat) t v, Tryz.f4.params[j]? = some t → args[j]? = some v → Value.okWide Tryz.prog W .any base t v := hval0
  have hW' := hW
  obtain ⟨p, q, hA0, hV, rfl, hfz, hnd⟩ := hW
  have hA : DataW.TrodAll enc Tryz.prog W 0 (fun _ => true) true Tryz.f4.params.toList args.toList ds p := hA0
  rw [Tryz.params4] at hA hval
  obtain ⟨v0, vs0, d0, ds0, p0, q0, hargs, rfl, rfl, h0, r0⟩ := trodAll_cons hA
  obtain ⟨rfl, rfl, rfl⟩ := trodAll_nil r0
  obtain rfl : args = #[v0] := by cases args; simp_all
  obtain ⟨rfl, rfl⟩ := trodVars_none hV
  obtain ⟨s, rfl, rfl, rfl, hs_s⟩ := open_string Tryz.underlying9 (hval 0 9 v0 rfl rfl) h0
  simp only [List.append_nil] at hk
  refine (splits_walk s W (bulk_string hk)).mono fun e W' ⟨he, bel⟩ => ?_
  exact ⟨_, he, law_post laidOut (by kernel_rfl) rfl (by kernel_rfl) Tryz.underlying4 hW' rfl bel⟩

theorem attrSplits_holdsU : Rows.AttrSplitsUptoSaid :=
  OpenClaim.holds_of_cond 4 Tryz.f4 rfl rfl rfl rfl rfl rfl rfl ⟨rfl, rfl, rfl, rfl, rfl⟩ rfl rfl rfl rfl rfl (by kernel_rfl) Tryz.func4 (by kernel_rfl)
    (of_decide_eq_true (by kernel_rfl)) (by unfold Func.isWrapper; first | (rw [if_pos (by decide +kernel)]; kernel_rfl) | (rw [if_neg (by decide +kernel)]; exact ⟨rfl, rfl⟩))
    (fun os started H enc _ F => attrSplits_liftedU os started H enc F)
end Go.Proofs.YtkcojblflebomaaGreat
