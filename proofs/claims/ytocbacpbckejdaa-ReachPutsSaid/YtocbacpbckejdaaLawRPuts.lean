/-
  ReachPuts: for every family, next hop and list of told prefixes the law answers true. Conditions: none of its own.
-/
import Derived.Test.YtocbacpbckejdaaNmD
set_option linter.unusedVariables false
set_option linter.unusedSimpArgs false
namespace Go.Proofs.Ytocbacpbckejdaa
open Go.RowKit
open Go.ChangeShapes Go.WideShapes Go.ChangeAt
open Go.ChangeMaps (open_string shut_string)

def n77 : Nl := ⟨0, 0, ⟨#[]⟩, 0, 77, 0⟩
theorem n77_ok : n77.Ok := ⟨by show (-9223372036854775808 : Int) ≤ 0 ∧ (0 : Int) ≤ _; omega, by show (0 : Int) ≤ 0 ∧ (0 : Int) < _; omega, by show 0 ≤ _; omega, by show (-9223372036854775808 : Int) ≤ 0 ∧ (0 : Int) ≤ _; omega, by show (0 : Int) ≤ 77 ∧ (77 : Int) < _; omega, by show (0 : Int) ≤ 0 ∧ (0 : Int) < _; omega⟩
theorem NlRow.src {w : World} {A : Option Addr} {len cap : Nat} {L : List Nl} (h : NlRow w A len cap L) : Src Try.prog w 29 6 (.slice A len cap) len (nlV L) := by
  have hone : ∀ u ∈ nlV L, u.oneCell' = true := fun u hu => by
    obtain ⟨n, hn, h2⟩ := List.mem_flatMap.1 hu
    exact n.ones u h2
  rcases Nat.eq_zero_or_pos len with h0 | h0
  · subst h0
    obtain rfl : L = [] := List.eq_nil_of_length_eq_zero h.hlen
    cases A with
    | none => exact Src.nil Try.underlying29
    | some a => exact Src.slice Try.underlying29 rfl (fun j u hu => by cases hu) hone
  · obtain ⟨b, off, rfl, hb, hc⟩ := h.at_ h0
    refine Src.slice Try.underlying29 (by rw [nlV_length, h.hlen]) (fun j u hu => ?_) hone
    have hj := (List.getElem?_eq_some_iff.1 hu).1
    rw [nlV_length] at hj
    obtain ⟨n, hn⟩ : ∃ n, L[j / 6]? = some n := ⟨L[j / 6], List.getElem?_eq_getElem (by omega)⟩
    have hlt : j % 6 < n.cs.length := by rw [Nl.cs_length]; omega
    have h2 := nlV_at L (j / 6) n hn (j % 6) n.cs[j % 6] (List.getElem?_eq_getElem hlt)
    rw [show j / 6 * 6 + j % 6 = j by omega, hu] at h2
    obtain rfl := Option.some.inj h2
    obtain ⟨x0, x1, x2, x3, x4, x5⟩ := hc _ n hn
    rw [add_off, show off + j = off + j / 6 * 6 + j % 6 by omega]
    have h6 : j % 6 = 0 ∨ j % 6 = 1 ∨ j % 6 = 2 ∨ j % 6 = 3 ∨ j % 6 = 4 ∨ j % 6 = 5 := by omega
    generalize hq : j % 6 = q at *
    rcases h6 with rfl | rfl | rfl | rfl | rfl | rfl
    · exact x0
    · exact x1
    · exact x2
    · exact x3
    · exact x4
    · exact x5
section
variable {ops : Array Oper} {rest : List Oper} {op : Oper} {a : Act} {Q : Exit → Act → World → Prop}
/-- a row is appended to nothing -/
theorem wpList_append_row {W : World} (hgd : op.guard = none) (s p : Operand)
    (ho : op.op = .call { callee := .builtin .append, args := #[s, p], argTypes := #[29, 29] }) (hs : a.eval s = .slice none 0 0)
    (A : Option Addr) (len cap : Nat) (L : List Nl) (hp : a.eval p = .slice A len cap) (hr : Hid (NlRow W A len cap L)) (hl : len ≤ 10000)
    (h : ∀ A' c' w', Hid (NlOwn w' W.heap.size (.slice A' L.length c') L) → Hid (Below W.heap.size W w') → wpList Try.prog ops Q rest (a.put op.dst (.slice A' L.length c')) w') : wpList Try.prog ops Q (op :: rest) a W := by
  obtain ⟨i0, z0, hi, hz0, hz1, hz2, hz3⟩ := infoNl2
  have hll := hr.out.hlen
  refine wpList_append_m hgd s p 29 29 ho W.heap.size 47 i0 z0 6 i0.bytes Try.underlying29 hi hz0 hz1 rfl hz2 (by decide) _ 0 [] hs (OwnM.nil _ _ _ _) _ len (nlV L) hp hr.out.src ?_ ?_ (Nat.le_refl _) ?_
  · unfold maxLen
    omega
  · have h5 : (0 + len) * i0.bytes ≤ 10000 * 1000 := Nat.mul_le_mul (by omega) hz3
    omega
  · intro v' w' hv hg hat
    obtain ⟨A', c', rfl⟩ := hv.form
    rw [Nat.zero_add, ← hll, List.nil_append] at hv
    rw [Nat.zero_add, ← hll]
    exact h A' c' w' hv ⟨hg.os, hg.tape, hg.output, hg.size, fun i hi => hg.block i hi (by simp [Value.ownBlock])⟩
end
set_option maxRecDepth 100000 in
set_option maxHeartbeats 4000000 in
theorem own_any (A : Option Addr) (len cap : Nat) (L : List Nl) (w : World) (hr : NlRow w A len cap L) (hlen : len ≤ 10000) :
    Calls Try.prog 14 #[.slice A len cap] w fun e w' => (∃ A' c, e = .returned (.slice A' len c) ∧ NlOwn w' w.heap.size (.slice A' (L ++ [n77]).length c) (L ++ [n77])) ∧ Below w.heap.size w w' := by
  have HR := Lib.hid hr
  have hll := hr.hlen
  subst hll
  clear hr
  go_enter Try.func14, Try.ntmps14
  go_wp2_with (with_reducible show wpList _ _ _ (_ :: _) _ _; refine wpList_append_row rfl (.tmp 4) (.tmp 5) rfl rfl A L.length cap L rfl HR hlen ?_)
  intro A1 c1 w1 HO1 HB1
  have HO2 : Hid (NlOwn (w1.alloc (.cells #[.int .i64 0, .int .u64 0, .string ⟨#[]⟩, .int .i64 0, .int .u32 77, .int .u32 0] 47)) w.heap.size (.slice A1 L.length c1) L) := OwnM.alloc HO1.out _
  have HC2 : Hid (CellsAt (w1.alloc (.cells #[.int .i64 0, .int .u64 0, .string ⟨#[]⟩, .int .i64 0, .int .u32 77, .int .u32 0] 47)) w1.heap.size n77.cs.toArray 47) := CellsAt.new _ _ _
  have HB2 : Hid (Below w.heap.size w (w1.alloc (.cells #[.int .i64 0, .int .u64 0, .string ⟨#[]⟩, .int .i64 0, .int .u32 77, .int .u32 0] 47))) := HB1.out.alloc HB1.out.size _
  have HL2 : Hid (L.length ≤ 2000000) := by
    show _ ≤ _
    omega
  have HS2 : Hid (w.heap.size ≤ (w1.alloc (.cells #[.int .i64 0, .int .u64 0, .string ⟨#[]⟩, .int .i64 0, .int .u32 77, .int .u32 0] 47)).heap.size) := HB2.out.size
  go_wp2_with (with_reducible show wpList _ _ _ (_ :: _) _ _; refine wpList_append_nl rfl (.tmp 7) (.tmp 9) rfl w.heap.size (.slice A1 L.length c1) L rfl HO2 n77 w1.heap.size rfl HC2 HL2 HS2 ?_)
  intro A3 c3 w3 HO3 HG3
  have HB3 : Hid (Below w.heap.size w w3) := OwnM.below_grown HO2.out HG3.out HB2.out HS2.out (Nat.le_refl _)
  have hc3 : L.length ≤ c3 ∧ c3 ≤ 9223372036854775807 ∧ (A3 = none → c3 = 0) := by
    obtain ⟨A4, c4, hv, hrow⟩ := NlOwn.row (L := L ++ [n77]) (v := .slice A3 (L ++ [n77]).length c3) (by rw [List.length_append]; exact HO3.out) (fun n hn => by
      rcases List.mem_append.1 hn with h | h
      · exact HR.out.ok n h
      · rw [List.mem_singleton.1 h]; exact n77_ok)
    injection hv with e1 e2 e3
    have h1 := hrow.hle
    have h2 := hrow.hcap
    have h3 := hrow.hnil
    rw [List.length_append] at h1
    rw [← e3] at h1 h2 h3
    rw [← e1] at h3
    unfold maxLen at h2
    exact ⟨by omega, by omega, h3⟩
  have hnn : A3 = none → False := fun h => by
    have h1 := hc3.2.2 h
    have h2 := HO3.out.2
    rcases h2 with ⟨hv, h0⟩ | ⟨g, cap', cur, fr, hv, _, _, _, hn, _⟩
    · rw [List.length_append] at h0
      simp at h0
    · rw [h] at hv
      injection hv with e1
      cases e1
  obtain ⟨a3, rfl⟩ : ∃ a, A3 = some a := by
    cases A3 with
    | none => exact absurd rfl (fun h => hnn h)
    | some a => exact ⟨a, rfl⟩
  obtain ⟨hc3, hc4, _⟩ := hc3
  clear hnn HO1 HB1 HO2 HC2 HB2 HL2 HS2 HG3
  have HO4 : Hid (NlOwn w3 w.heap.size (.slice (some a3) (L ++ [n77]).length c3) (L ++ [n77])) := by
    show NlOwn _ _ _ _
    rw [List.length_append]
    exact HO3.out
  clear HO3
  go_wp2_with fail
  go_ret
  exact ⟨⟨_, c3, rfl, HO4.out⟩, HB3.out⟩
set_option maxRecDepth 100000 in
set_option maxHeartbeats 4000000 in
theorem kept_any (B A : Option Addr) (cb cap : Nat) (L : List Nl) (w : World) (hb : NlRow w B (L ++ [n77]).length cb (L ++ [n77])) (ha : NlRow w A L.length cap L) :
    Calls Try.prog 19 #[.slice B L.length cb, .slice A L.length cap] w fun e w' => e = .returned (.bool true) ∧ ∃ q, w' = w.drewN q := by
  have hbr : NlRow w B L.length cb L := by
    have h := hb.take (k := L.length) (by rw [List.length_append]; omega)
    rwa [List.take_append_of_le_length (Nat.le_refl _), List.take_length] at h
  have HS := Lib.hid (fun w hb ha => rsame8_any B A L.length cb cap L w hb ha)
  obtain ⟨b, off, rfl, hlt, hc⟩ := hb.at_ (by rw [List.length_append]; simp)
  have hn := hc L.length n77 (by rw [List.getElem?_append_right (Nat.le_refl _), Nat.sub_self]; rfl)
  have hle := hb.hle
  have hcm : cb ≤ 9223372036854775807 := hb.hcap
  rw [List.length_append] at hle
  have hle2 : L.length + 1 ≤ cb := hle
  have HN := Lib.hid hn
  have HBR := Lib.hid hbr
  have HAR := Lib.hid ha
  clear hb ha hbr hc hn hle
  go_enter Try.func19, Try.ntmps19
  go_wp2_with fail
  refine (HS.out _ HBR.out HAR.out).mono ?_
  rintro e w1 ⟨rfl, q, hw⟩
  have hx := HN.out.below (below_drewN (Below.refl w.heap.size w) q) hlt
  rw [← hw] at hx
  obtain ⟨x0, x1, x2, x3, x4, x5⟩ := hx
  change w1.cell? ⟨b, off + L.length * 6 + 4, none⟩ = some (.int .u32 77) at x4
  have HW := Lib.hid hw
  clear x0 x1 x2 x3 x5 hw
  go_wp2_with fail
  go_ret
  exact ⟨rfl, q, HW.out⟩

set_option maxRecDepth 100000 in
set_option maxHeartbeats 16000000 in
theorem puts_walk (fam : Int) (next : ByteArray) (A : Option Addr) (len cap : Nat) (add : Bool) (w : World) (f1 : -9223372036854775808 ≤ fam) (f2 : fam ≤ 9223372036854775807) (hnx : (next.size : Int) ≤ 9223372036854775807)
    (hE : ElemsIn w A len cap 6 NlCs) :
    Calls Try.prog 5 #[.agg #[.int .i64 fam, .string next, .slice A len cap], .bool add] w fun e w' => e = .returned (.bool true) ∧ Below w.heap.size w w' := by
  have hle := hE.1
  have hcm : cap ≤ 9223372036854775807 := hE.2.1
  have hnil := hE.2.2.1
  obtain ⟨k, hk⟩ : ∃ k, k = min len 2000 := ⟨_, rfl⟩
  have hkl : k ≤ len := by omega
  have hk2 : k ≤ 2000 := by omega
  obtain ⟨L, hL⟩ := NlRow.of_elems hE hkl
  have HL := Lib.hid hL
  obtain rfl : L.length = k := hL.hlen
  have HNIL := Lib.hid hnil
  have HKM : Hid (min (len : Int) 2000 = (L.length : Int)) := by
    show _ = _
    omega
  have HPA := Lib.hid (fun V B cb (h : NlRow V B L.length cb L) => put_any fam next B L.length cb L add V h (by omega) hnx)
  have HPB := Lib.hid (fun V B cb (h : NlRow V B L.length cb L) => rput8_any fam next B L.length cb L add V h (by omega) hnx)
  have HGA := Lib.hid (fun V B cb (h : NlRow V B L.length cb L) => putgone_any fam B L.length cb L add V h (by omega))
  have HGB := Lib.hid (fun V B cb (h : NlRow V B L.length cb L) => rputgone8_any fam B L.length cb L add V h (by omega))
  have HOW := Lib.hid (fun V (h : NlRow V A L.length cap L) => own_any A L.length cap L V h (by omega))
  have fp : ∃ (s : ByteArray) (z : Int), putR fam next L add = .tuple #[.string s, .int .i64 z] := by
    unfold putR
    split
    · exact layR_form _ _ _ _
    · exact ⟨_, _, rfl⟩
  have fg : ∃ (s : ByteArray) (z : Int), goneR fam L add = .tuple #[.string s, .int .i64 z] := by
    unfold goneR
    split
    · exact layR_form _ _ _ _
    · exact ⟨_, _, rfl⟩
  obtain ⟨s, z, hs⟩ := fp
  obtain ⟨t, y, ht⟩ := fg
  rw [hs] at HPA HPB
  rw [ht] at HGA HGB
  clear hE hL hnil hk hs ht
  have HX0 : Hid (CellsAt (w.alloc (.cells #[.int .i64 fam, .string next, .slice A len cap] 31)) w.heap.size #[.int .i64 fam, .string next, .slice A len cap] 31) := CellsAt.new _ _ _
  have HB0 : Hid (Below w.heap.size w (w.alloc (.cells #[.int .i64 fam, .string next, .slice A len cap] 31))) := (Below.refl _ _).alloc (Nat.le_refl _) _
  go_enter Try.func5, Try.ntmps5
  go_wp2_with fail
  rw [HKM.out, Int.toNat_natCast]
  generalize w.alloc (.cells #[.int .i64 fam, .string next, .slice A len cap] 31) = W0 at HX0 HB0 ⊢
  refine (HOW.out _ (HL.out.below HB0.out (Nat.le_refl _))).mono ?_
  rintro e w1 ⟨⟨B, cb, rfl, ho⟩, hb⟩
  obtain ⟨B2, c2, hv, hrow⟩ := NlOwn.row ho (fun n hn => by
    rcases List.mem_append.1 hn with h | h
    · exact HL.out.ok n h
    · rw [List.mem_singleton.1 h]; exact n77_ok)
  injection hv with e1 e2 e3
  subst e1
  subst e3
  have HO1 := Lib.hid hrow
  clear hrow ho e2
  have HX1 := Lib.hid (HX0.out.below hb HX0.out.lt)
  have HB1 := Lib.hid (HB0.out.trans (hb.mono HB0.out.size))
  clear hb HX0 HB0
  have h0 := HX1.out
  have x0 : w1.cell? ⟨w.heap.size, 0, none⟩ = some (.int .i64 fam) := (h0.c 0).trans rfl
  have x1 : w1.cell? ⟨w.heap.size, 1, none⟩ = some (.string next) := (h0.c 1).trans rfl
  clear h0
  go_wp2_with fail
  refine (HPA.out _ _ _ (by have h := HO1.out.take (k := L.length) (by rw [List.length_append]; omega); rwa [List.take_append_of_le_length (Nat.le_refl _), List.take_length] at h)).mono ?_
  rintro e w2 ⟨rfl, hb⟩
  have HX2 := Lib.hid (HX1.out.below hb HX1.out.lt)
  have HO2 := Lib.hid (HO1.out.below hb (Nat.le_refl _))
  have HB2 := Lib.hid (HB1.out.trans (hb.mono HB1.out.size))
  clear hb x0 x1 HX1 HO1 HB1
  have h0 := HX2.out
  have x0 : w2.cell? ⟨w.heap.size, 0, none⟩ = some (.int .i64 fam) := (h0.c 0).trans rfl
  have x1 : w2.cell? ⟨w.heap.size, 1, none⟩ = some (.string next) := (h0.c 1).trans rfl
  clear h0
  go_wp2_with fail
  refine (HPB.out _ _ _ (HL.out.below HB2.out (Nat.le_refl _))).mono ?_
  rintro e w3 ⟨rfl, hb⟩
  have HX3 := Lib.hid (HX2.out.below hb HX2.out.lt)
  have HO3 := Lib.hid (HO2.out.below hb (Nat.le_refl _))
  have HB3 := Lib.hid (HB2.out.trans (hb.mono HB2.out.size))
  clear hb x0 x1 HX2 HO2 HB2
  have h0 := HX3.out
  have x0 : w3.cell? ⟨w.heap.size, 0, none⟩ = some (.int .i64 fam) := (h0.c 0).trans rfl
  have x1 : w3.cell? ⟨w.heap.size, 1, none⟩ = some (.string next) := (h0.c 1).trans rfl
  clear h0
  go_wp2_with fail
  refine (HGA.out _ _ _ (by have h := HO3.out.take (k := L.length) (by rw [List.length_append]; omega); rwa [List.take_append_of_le_length (Nat.le_refl _), List.take_length] at h)).mono ?_
  rintro e w4 ⟨rfl, hb⟩
  have HX4 := Lib.hid (HX3.out.below hb HX3.out.lt)
  have HO4 := Lib.hid (HO3.out.below hb (Nat.le_refl _))
  have HB4 := Lib.hid (HB3.out.trans (hb.mono HB3.out.size))
  clear hb x0 x1 HX3 HO3 HB3
  have h0 := HX4.out
  have x0 : w4.cell? ⟨w.heap.size, 0, none⟩ = some (.int .i64 fam) := (h0.c 0).trans rfl
  have x1 : w4.cell? ⟨w.heap.size, 1, none⟩ = some (.string next) := (h0.c 1).trans rfl
  clear h0
  go_wp2_with fail
  refine (HGB.out _ _ _ (HL.out.below HB4.out (Nat.le_refl _))).mono ?_
  rintro e w5 ⟨rfl, hb⟩
  have HX5 := Lib.hid (HX4.out.below hb HX4.out.lt)
  have HO5 := Lib.hid (HO4.out.below hb (Nat.le_refl _))
  have HB5 := Lib.hid (HB4.out.trans (hb.mono HB4.out.size))
  clear hb x0 x1 HX4 HO4 HB4
  go_wp2_with fail
  refine (kept_any _ _ _ _ L _ HO5.out (HL.out.below HB5.out (Nat.le_refl _))).mono ?_
  rintro e w8 ⟨rfl, q8, hw⟩
  have HB8 := Lib.hid (below_drewN HB5.out q8)
  rw [← hw] at HB8
  clear hw
  go_wp2_with fail
  refine (works_any _).mono ?_
  rintro e w9 ⟨rfl, hb⟩
  have HB9 := Lib.hid (HB8.out.trans (hb.mono HB8.out.size))
  clear hb
  go_wp2_with fail
  go_ret
  exact ⟨rfl, HB9.out⟩

set_option maxRecDepth 100000 in
theorem reachPuts_lifted (os : Os) (started : os.Started) (H : Type) (enc : TypeId × Value → H) :
    ReturnsInHanded {} Try.checked os 5 .any (Rows.reachPutsSpec.pre6 enc Try.prog Try.f5 Rows.reachPutsRow.domain false) (Rows.reachPutsSpec.post enc Try.prog Try.f5 false true false false) := by
  refine returnsInHanded_of_change (C := Try.checked) own started (by kernel_rfl) Try.func5
    (ChangeSpec.witness6 (enc := enc) (C := Try.checked) false ⟨#[], #[.agg #[.int .i64 0, .string ⟨#[]⟩, .slice none 0 0], .bool false], []⟩ 8 (by kernel_rfl) (by kernel_rfl) (by kernel_rfl) (by kernel_rfl)) ?_
  intro W base args ds gs before hval0 hW hcnd _
  have hval : ∀ (j : Nat) t v, Try.f5.params[j]? = some t → args[j]? = some v → Value.okWide Try.prog W .any base t v := hval0
  have hW' := hW
  obtain ⟨p, q, hA0, hV, rfl, hfz, hnd⟩ := hW
  have hA : DataW.TrodAll enc Try.prog W 0 (fun _ => true) true Try.f5.params.toList args.toList ds p := hA0
  rw [Try.params5] at hA hval
  obtain ⟨v0, vs0, d0, ds0, p0, q0, hargs, rfl, rfl, h0, r0⟩ := trodAll_cons hA
  obtain ⟨v1, vs1, d1, ds1, p1, q1, rfl, rfl, rfl, h1, r1⟩ := trodAll_cons r0
  obtain ⟨rfl, rfl, rfl⟩ := trodAll_nil r1
  obtain rfl : args = #[v0, v1] := by cases args; simp_all
  obtain ⟨rfl, rfl⟩ := trodVars_none hV
  obtain ⟨fam, next, A, len, cap, rfl, f1, f2, hnx, hE⟩ := open_told (hval 0 31 v0 rfl rfl) h0
  obtain ⟨add, rfl, rfl, rfl⟩ := open_bool Try.underlying4 (hval 1 4 v1 rfl rfl) h1
  refine (puts_walk fam next A len cap add W f1 f2 hnx hE).mono fun e W' ⟨he, bel⟩ => ?_
  exact ⟨_, he, law_post laidOut (by kernel_rfl) rfl (by kernel_rfl) Try.underlying4 hW' rfl bel⟩

theorem reachPuts_holds : Rows.ReachPutsSaid :=
  OpenClaim.holds_of_wide 5 Try.f5 rfl rfl rfl rfl rfl rfl rfl ⟨rfl, rfl, rfl, rfl, rfl⟩ rfl rfl rfl rfl rfl (by kernel_rfl) Try.func5 (by kernel_rfl)
    (of_decide_eq_true (by kernel_rfl)) (by unfold Func.isWrapper; first | (rw [if_pos (by decide +kernel)]; kernel_rfl) | (rw [if_neg (by decide +kernel)]; exact ⟨rfl, rfl⟩))
    (fun os started H enc _ => reachPuts_lifted os started H enc)
end Go.Proofs.Ytocbacpbckejdaa
