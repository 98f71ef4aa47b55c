/-
  AttrLays: for all lists of raw attributes the law answers true. Conditions: none of its own.
-/
import Derived.Test.YtkcojblflebomaaGreatAbO
import Derived.Test.YtkcojblflebomaaGreatAcA
import Derived.Test.YtkcojblflebomaaGreatAcB
import Derived.Test.YtkcojblflebomaaGreatAcC
set_option linter.unusedVariables false
set_option linter.unusedSimpArgs false
namespace Go.Proofs.YtkcojblflebomaaGreat
open Go.RowKit Go.MapKept Go.Shelf
open Go.ChangeShapes Go.WideShapes Go.ChangeAt
open Go.ChangeMaps (open_string shut_string)
open Go.Lib hiding intOf

theorem RwsOk.take {w : World} {A : Option Addr} {c N : Nat} {L : List Rw} (h : RwsOk w A c L) (hN : N ≤ L.length) : RwsOk w A c (L.take N) := by
  refine ⟨fun hl => ?_, by rw [List.length_take]; have := h.len; omega, h.cap, fun r hr => h.fits r (List.mem_of_mem_take hr)⟩
  rw [List.length_map, List.length_take] at hl
  obtain ⟨b, off, hA, hb, hc⟩ := h.rd (by rw [List.length_map]; omega)
  refine ⟨b, off, hA, hb, fun i cs hi j u hu => hc i cs ?_ j u hu⟩
  rw [List.getElem?_map] at hi ⊢
  by_cases hin : i < N
  · rwa [List.getElem?_take_of_lt hin] at hi
  · rw [List.getElem?_take_eq_none (by omega)] at hi
    cases hi
theorem layR_form (L : List Rw) : ∃ (s : ByteArray) (n : Int), layR L = .tuple #[.string s, .int .i64 n] ∧ (n = 0 ∨ n = 3) := by
  unfold layR
  split
  · exact ⟨_, 0, rfl, Or.inl rfl⟩
  · exact ⟨_, 3, rfl, Or.inr rfl⟩
set_option maxRecDepth 100000 in
set_option maxHeartbeats 8000000 in
theorem lays_walk (A : Option Addr) (L : List Rw) (cap : Nat) (w : World) (h : RwsOk w A cap L) (hsz : ∀ r ∈ L, r.v.size ≤ 140737488351232) (hlen : L.length * 24 ≤ 140737488351232) :
    Calls Tryz.prog 3 #[.slice A L.length cap] w fun e w' => e = .returned (.bool true) ∧ Below w.heap.size w w' := by
  have hm1 := h.len
  have hm2 := h.cap
  obtain ⟨N, hN, hN1, hN2⟩ : ∃ N : Nat, min (L.length : Int) 100 = (N : Int) ∧ N ≤ L.length ∧ N ≤ 100 := ⟨min L.length 100, by omega, by omega, by omega⟩
  have HR := Lib.hid (h.take hN1)
  have HSZ : Hid (∀ r ∈ L.take N, r.v.size ≤ 140737488351232) := fun r hr => hsz r (List.mem_of_mem_take hr)
  have hln : (L.take N).length = N := by rw [List.length_take]; omega
  have hcapN : N ≤ cap := by omega
  clear h hsz hlen
  obtain ⟨s, n, hs, hn⟩ := layR_form (L.take N)
  have HLA : Hid (∀ A' c' W, RwsOk W A' c' (L.take N) → Calls Tryz.prog 13 #[.slice A' N c'] W fun e w' => e = .returned (.tuple #[.string s, .int .i64 n]) ∧ Below W.heap.size W w') := fun A' c' W h => by
    have h2 := lay_any A' c' _ W h
    rwa [hs, hln] at h2
  have HRL : Hid (∀ A' c' W, RwsOk W A' c' (L.take N) → Calls Tryz.prog 14 #[.slice A' N c'] W fun e w' => e = .returned (.tuple #[.string s, .int .i64 n]) ∧ Below W.heap.size W w') := fun A' c' W h => by
    have h2 := rlay_any A' c' _ W h HSZ.out
    rwa [hs, hln] at h2
  have HSR : Hid (∀ A' B' c' d' W, RwsOk W A' c' (L.take N) → RwsOk W B' d' (L.take N) → Calls Tryz.prog 15 #[.slice A' N c', .slice B' N d'] W fun e w' => e = .returned (.bool true) ∧ Below W.heap.size W w') := fun A' B' c' d' W h1 h2 => by
    have h3 := rsraws_any A' B' c' d' _ _ W h1 h2
    rwa [hln, decide_eq_true rfl] at h3
  have HWK := Lib.hid works_any
  have HAP : Hid (∀ {ops : Array Oper} {rest : List Oper} {op : Oper} {a : Act} {Q : Exit → Act → World → Prop} {W : World} (hgd : op.guard = none) (s p : Operand) (ho : op.op = .call { callee := .builtin .append, args := #[s, p], argTypes := #[22, 22] }) (hs : a.eval s = .slice none 0 0)
    (A : Option Addr) (c : Nat) (hp : a.eval p = .slice A N c) (hr : Hid (RwsOk W A c (L.take N)))
    (h : ∀ A' c' w', Hid (RwsOk w' A' c' (L.take N)) → Hid (Below W.heap.size W w') → wpList Tryz.prog ops Q rest (a.put op.dst (.slice A' N c')) w'), wpList Tryz.prog ops Q (op :: rest) a W) := by
    show ∀ {ops : Array Oper} {rest : List Oper} {op : Oper} {a : Act} {Q : Exit → Act → World → Prop} {W : World}, _
    intro ops rest op a Q W hgd s p ho hs A c hp hr h
    refine wpList_own_raws hgd s p ho hs A c (L.take N) (by rw [hln]; exact hp) hr.out.rd (by rw [hln]; omega) (fun A' c' w' ho hb => ?_)
    rw [hln]
    refine h A' c' w' ?_ hb
    obtain ⟨A2, c2, hv, hok⟩ := OwnL.raws ho.out hr.out.fits
    injection hv with e1 e2 e3
    subst e1
    subst e3
    exact hok
  clear hs hln
  go_enter Tryz.func3, Tryz.ntmps3
  go_wp2_with (with_reducible show wpList _ _ _ (_ :: _) _ _; refine HAP.out rfl (.tmp 13) (.tmp 14) rfl rfl A cap rfl HR ?_)
  intro B d w1 HR1 HB1
  clear hN
  have HA1 : Hid (RwsOk w1 A cap (L.take N)) := HR.out.below HB1.out (Nat.le_refl _)
  clear HAP HR
  go_wp2_with fail
  refine (HLA.out B d _ HR1.out).mono ?_
  rintro e w2 ⟨rfl, hb2⟩
  have HA2 : Hid (RwsOk w2 A cap (L.take N)) := HA1.out.below hb2 (Nat.le_refl _)
  have HR2 : Hid (RwsOk w2 B d (L.take N)) := HR1.out.below hb2 (Nat.le_refl _)
  have HB2 : Hid (Below w.heap.size w w2) := HB1.out.trans (hb2.mono HB1.out.size)
  clear hb2 HA1 HR1 HB1
  go_wp2_with fail
  refine (HRL.out A cap _ HA2.out).mono ?_
  rintro e w3 ⟨rfl, hb3⟩
  have HA3 : Hid (RwsOk w3 A cap (L.take N)) := HA2.out.below hb3 (Nat.le_refl _)
  have HR3 : Hid (RwsOk w3 B d (L.take N)) := HR2.out.below hb3 (Nat.le_refl _)
  have HB3 : Hid (Below w.heap.size w w3) := HB2.out.trans (hb3.mono HB2.out.size)
  clear hb3 HA2 HR2 HB2
  have z1 : (s.toList == s.toList) = true := bytes_eq.2 rfl
  have z2 : ((n : Int) == n) = true := beq_iff_eq.2 rfl
  go_wp2_with fail
  refine (HSR.out B A d cap _ HR3.out HA3.out).mono ?_
  rintro e w4 ⟨rfl, hb4⟩
  have HB4 : Hid (Below w.heap.size w w4) := HB3.out.trans (hb4.mono HB3.out.size)
  clear hb4 HA3 HR3 HB3
  go_wp2_with fail
  refine (HWK.out _).mono ?_
  rintro e w5 ⟨rfl, hb5⟩
  have HB5 : Hid (Below w.heap.size w w5) := HB4.out.trans (hb5.mono HB4.out.size)
  clear hb5 HB4
  go_wp2_with fail
  go_ret
  exact ⟨rfl, HB5.out⟩

set_option maxHeartbeats 4000000 in
set_option maxRecDepth 100000 in
theorem attrLays_lifted (os : Os) (started : os.Started) (H : Type) (enc : TypeId × Value → H) :
    ReturnsInHanded {} Tryz.checked os 3 .any (Rows.attrLaysSpec.pre6 enc Tryz.prog Tryz.f3 Rows.attrLaysRow.domain false) (Rows.attrLaysSpec.post enc Tryz.prog Tryz.f3 false true false false) := by
  refine returnsInHanded_of_change_sized (C := Tryz.checked) own started (by kernel_rfl) Tryz.func3
    (ChangeSpec.witness6 (enc := enc) (C := Tryz.checked) false ⟨#[], #[.slice none 0 0], []⟩ 8 (by kernel_rfl) (by kernel_rfl) (by kernel_rfl) (by kernel_rfl)) ?_
  intro W base args ds gs before hval0 hW hcnd hsz _
  have hval : ∀ (j : Nat) t v, Tryz.f3.params[j]? = some t → args[j]? = some v → Value.okWide Tryz.prog W .any base t v := hval0
  have hW' := hW
  obtain ⟨p, q, hA0, hV, rfl, hfz, hnd⟩ := hW
  have hA : DataW.TrodAll enc Tryz.prog W 0 (fun _ => true) true Tryz.f3.params.toList args.toList ds p := hA0
  rw [Tryz.params3] at hA hval
  obtain ⟨v0, vs0, d0, ds0, p0, q0, hargs, rfl, rfl, h0, r0⟩ := trodAll_cons hA
  obtain ⟨rfl, rfl, rfl⟩ := trodAll_nil r0
  obtain rfl : args = #[v0] := by cases args; simp_all
  obtain ⟨rfl, rfl⟩ := trodVars_none hV
  obtain ⟨A0, len0, cap0, rfl⟩ := okWide_slice Tryz.underlying22 (hval 0 22 v0 rfl rfl)
  obtain ⟨fu0, hf0⟩ := h0
  obtain ⟨A, l, cap, hv0, hok, hs, hlen⟩ := open_raws (v := .slice A0 len0 cap0) (x := (d0, p0)) hf0 (light_of hsz (j := 0) rfl rfl)
  injection hv0 with ea0 eb0 ec0
  subst ea0
  subst eb0
  subst ec0
  refine (lays_walk A0 l cap0 W hok hs hlen).mono fun e W' ⟨he, bel⟩ => ?_
  exact ⟨_, he, law_post laidOut (by kernel_rfl) rfl (by kernel_rfl) Tryz.underlying4 hW' rfl bel⟩

theorem attrLays_holds : Rows.AttrLaysSaid :=
  OpenClaim.holds_of_wide 3 Tryz.f3 rfl rfl rfl rfl rfl rfl rfl ⟨rfl, rfl, rfl, rfl, rfl⟩ rfl rfl rfl rfl rfl (by kernel_rfl) Tryz.func3 (by kernel_rfl)
    (of_decide_eq_true (by kernel_rfl)) (by unfold Func.isWrapper; first | (rw [if_pos (by decide +kernel)]; kernel_rfl) | (rw [if_neg (by decide +kernel)]; exact ⟨rfl, rfl⟩))
    (fun os started H enc _ => attrLays_lifted os started H enc)
end Go.Proofs.YtkcojblflebomaaGreat
