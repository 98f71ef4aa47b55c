/-
  ReachTakes, second form: for every bytes and families with ids whose size is at most 1048576 the law answers true. Conditions: that size.
-/
import Derived.Test.YtocbacpbckejdaaNmO
set_option linter.unusedVariables false
set_option linter.unusedSimpArgs false
namespace Go.Proofs.Ytocbacpbckejdaa
open Go.RowKit
open Go.ChangeShapes Go.WideShapes Go.ChangeAt
open Go.ChangeMaps (open_string shut_string)

theorem bulk_string {H : Type} {s : ByteArray} {l : List (DataW H)} (hk : Rows.uptoSmall H (.lit (.string s.data.toList) :: l) = true) : s.size ≤ 1048576 := by
  have h : Rows.uptoBulkAll (DataW.lit (H := H) (.string s.data.toList) :: l) ≤ 1048576 := of_decide_eq_true hk
  have e : s.data.toList.length = s.size := by rw [Array.length_toList]; rfl
  have h2 : Rows.uptoBulk (DataW.lit (H := H) (.string s.data.toList)) ≤ 1048576 := by
    have h3 : Rows.uptoBulkAll (DataW.lit (H := H) (.string s.data.toList) :: l) = Rows.uptoBulk (DataW.lit (H := H) (.string s.data.toList)) + Rows.uptoBulkAll l := rfl
    omega
  have h4 : Rows.uptoBulk (DataW.lit (H := H) (.string s.data.toList)) = s.data.toList.length + 1 := rfl
  omega
theorem rdIf_val {on : Bool} {t : ByteArray} {k : Nat} {bad : Bool} : (rdIf on t k bad).1 < 256 ^ k := by
  unfold rdIf
  cases on
  · exact Nat.pow_pos (by decide)
  · exact tN_lt t k
theorem addrB_size {sz : Nat} {bits : Int} {told : ByteArray} (h : told.size ≤ sz) : (addrB sz bits told).size = sz := by
  have hl := addrL_length h
  have e : (ByteArray.mk (addrL sz told).toArray).size = sz := by
    show (addrL sz told).toArray.size = sz
    rw [List.size_toArray, hl]
  unfold addrB maskB
  show (maskK (addrL sz told) bits _).toArray.size = _
  rw [List.size_toArray, maskK_length, hl]
theorem labOf_le (on : Bool) (v : Nat) : labOf on v ≤ v := by
  unfold labOf
  split <;> omega
theorem tail_okk {f : Int} {id label rd : Nat} {bits : Int} {t4 t5 : ByteArray} {bad : Bool} {x : Nl} (f1 : 1 ≤ f) (f2 : f ≤ 5) (hid : id < 4294967296) (hlb : label < 4294967296) (hrd : rd < 18446744073709551616) (h : decTail f id label rd bits t4 bad = some (x, t5)) : x.Ok := by
  unfold decTail at h
  by_cases h1 : bad = true ∨ bits < 0 ∨ 8 * famSize f < bits
  · rw [if_pos h1] at h; cases h
  rw [if_neg h1] at h
  by_cases h2 : t4.size < (bits.toNat + 7) / 8
  · rw [if_pos h2] at h; cases h
  rw [if_neg h2] at h
  simp only [Option.some.injEq, Prod.mk.injEq] at h
  rw [← h.1]
  have hin := famSize_in f
  have hb0 : 0 ≤ bits := by
    by_cases q : bits < 0
    · exact absurd (Or.inr (Or.inl q)) h1
    · omega
  have hb1 : bits ≤ 8 * famSize f := by
    by_cases q : 8 * famSize f < bits
    · exact absurd (Or.inr (Or.inr q)) h1
    · omega
  have hsz : (addrB (famSize f).toNat bits (t4.extract 0 ((bits.toNat + 7) / 8))).size = (famSize f).toNat := addrB_size (by rw [ByteArray.size_extract]; omega)
  exact ⟨⟨by show _ ≤ f; omega, by show f ≤ _; omega⟩, ⟨by show (0 : Int) ≤ (rd : Nat); omega, by show ((rd : Nat) : Int) < _; omega⟩, by show (addrB _ _ _).size ≤ _; rw [hsz]; omega, ⟨by show _ ≤ bits; omega, by show bits ≤ _; omega⟩, ⟨by show (0 : Int) ≤ (id : Nat); omega, by show ((id : Nat) : Int) < _; omega⟩, ⟨by show (0 : Int) ≤ (label : Nat); omega, by show ((label : Nat) : Int) < _; omega⟩⟩
theorem step_okk {f : Int} {add : Bool} {t t5 : ByteArray} {x : Nl} (f1 : 1 ≤ f) (f2 : f ≤ 5) (h : decStep f add t = some (x, t5)) : x.Ok := by
  unfold decStep at h
  have h1 : (rdIf add t 4 false).1 < 256 ^ 4 := rdIf_val
  refine tail_okk f1 f2 h1 ?_ ?_ h
  · refine Nat.lt_of_le_of_lt (labOf_le _ _) ?_
    have h2 : (rdIf (labB f) (rdIf true (rdIf add t 4 false).2.1 1 (rdIf add t 4 false).2.2).2.1 3 (rdIf true (rdIf add t 4 false).2.1 1 (rdIf add t 4 false).2.2).2.2).1 < 256 ^ 3 := rdIf_val
    omega
  · exact rdIf_val (k := 8)
theorem run_okk {f : Int} {add : Bool} (f1 : 1 ≤ f) (f2 : f ≤ 5) : ∀ (n : Nat) (t : ByteArray) (acc L : List Nl), (∀ m ∈ acc, m.Ok) → decRun f add n t acc = some L → ∀ m ∈ L, m.Ok
  | 0, _, _, _, _, h => by cases h
  | n + 1, t, acc, L, ha, h => by
    unfold decRun at h
    by_cases ht : t.size = 0
    · rw [if_pos ht] at h
      obtain rfl := Option.some.inj h
      exact ha
    · rw [if_neg ht] at h
      cases hd : decStep f add t with
      | none => rw [hd] at h; cases h
      | some p =>
        obtain ⟨x, t5⟩ := p
        rw [hd] at h
        refine run_okk f1 f2 n t5 (acc ++ [x]) L (fun m hm => ?_) h
        rcases List.mem_append.1 hm with hm | hm
        · exact ha m hm
        · rw [List.mem_singleton.1 hm]; exact step_okk f1 f2 hd
theorem goneF_okk {s : ByteArray} {adds : List Int} {f : Int} {L : List Nl} (h : goneF s adds = .ok (f, L)) : ∀ m ∈ L, m.Ok := by
  unfold goneF at h
  split at h
  · cases h
  split at h
  · cases h
  rename_i h3 hf
  have hin := pairF_in s
  split at h
  · cases h
  · rename_i L2 hd
    injection h with h
    injection h with h1 h2
    subst h2
    exact run_okk (by rcases hin with q | q; exact absurd q hf; exact q.1) (by rcases hin with q | q; exact absurd q hf; exact q.2) _ _ _ _ (fun m hm => by cases hm) hd
theorem takeF_okk {s : ByteArray} {adds : List Int} {f : Int} {hp : ByteArray} {L : List Nl} (h : takeF s adds = .ok (f, hp, L)) : ∀ m ∈ L, m.Ok := by
  unfold takeF at h
  split at h
  · cases h
  split at h
  · cases h
  rename_i h3 hf
  have hin := pairF_in s
  split at h
  · cases h
  split at h
  · cases h
  split at h
  · cases h
  split at h
  · cases h
  split at h
  · cases h
  · rename_i L2 hd
    injection h with h
    injection h with h1 h2
    injection h2 with h2 h3
    subst h3
    exact run_okk (by rcases hin with q | q; exact absurd q hf; exact q.1) (by rcases hin with q | q; exact absurd q hf; exact q.2) _ _ _ _ (fun m hm => by cases hm) hd
theorem NlRow.nil (w : World) : NlRow w none 0 0 [] := ⟨rfl, Nat.le_refl _, Nat.zero_le _, fun _ => rfl, (fun n hn => by cases hn), fun h => absurd h (by omega)⟩
def zL (L : List Nl) (k : Nat) : List Nl := List.replicate k nlZero ++ L.drop k
theorem zL_len {L : List Nl} {k : Nat} (h : k ≤ L.length) : (zL L k).length = L.length := by
  unfold zL
  rw [List.length_append, List.length_replicate, List.length_drop]
  omega
theorem zL_set {L : List Nl} {k : Nat} (h : k < L.length) : (zL L k).set k nlZero = zL L (k + 1) := by
  unfold zL
  rw [List.set_append_right _ _ (by rw [List.length_replicate]; omega), List.length_replicate, Nat.sub_self, List.drop_eq_getElem_cons h, List.set_cons_zero, List.replicate_succ', List.append_assoc, List.singleton_append]

set_option maxRecDepth 100000 in
set_option maxHeartbeats 16000000 in
theorem takes_walk (s : ByteArray) (A : Option Addr) (len cap : Nat) (w : World) (hs : s.size ≤ 1048576) (hI : ElemsIn w A len cap 1 (fun cs => ∃ n : Int, cs = [.int .i64 n])) :
    Calls Try.prog 6 #[.string s, .slice A len cap] w fun e w' => e = .returned (.bool true) ∧ Below w.heap.size w w' := by
  have hle := hI.1
  have hcm : cap ≤ 9223372036854775807 := hI.2.1
  have hnil := hI.2.2.1
  obtain ⟨k, hk⟩ : ∃ k, k = min len 50 := ⟨_, rfl⟩
  obtain ⟨xs, hxl, hX⟩ := IntAt.of_elems hI (show k ≤ len by omega)
  have HX := Lib.hid hX
  subst hxl
  have HKM : Hid (min (len : Int) 50 = (xs.length : Int)) := by
    show _ = _
    omega
  have HNIL := Lib.hid hnil
  have hkl : xs.length ≤ len := by omega
  have HTA := Lib.hid (fun V (h : IntAt V A cap xs) => take_any s A cap xs V h (by omega))
  have HTB := Lib.hid (fun V (h : IntAt V A cap xs) => rtake8_any s A cap xs V h (by omega))
  have HGA := Lib.hid (fun V (h : IntAt V A cap xs) => takegone_any s A cap xs V h (by omega))
  have HGB := Lib.hid (fun V (h : IntAt V A cap xs) => rtakegone8_any s A cap xs V h (by omega))
  have HOK1 := Lib.hid (fun f hp L h => takeF_okk (s := s) (adds := xs) (f := f) (hp := hp) (L := L) h)
  have HOK2 := Lib.hid (fun f L h => goneF_okk (s := s) (adds := xs) (f := f) (L := L) h)
  clear hI hX hnil hk
  obtain ⟨R1, hR1⟩ : ∃ R, R = takeF s xs := ⟨_, rfl⟩
  obtain ⟨R2, hR2⟩ : ∃ R, R = goneF s xs := ⟨_, rfl⟩
  rw [← hR1] at HTA HTB HOK1
  rw [← hR2] at HGA HGB HOK2
  clear hR1 hR2
  go_enter Try.func6, Try.ntmps6
  go_wp2_with fail
  rw [HKM.out, Int.toNat_natCast]
  refine (HTA.out _ HX.out).mono ?_
  rintro e w1 ⟨hb, hm1⟩
  have HB1 := Lib.hid hb
  clear hb
  cases R1 with
  | error z =>
    obtain rfl : e = _ := hm1
    go_wp2_with fail
    refine (HTB.out _ (HX.out.below HB1.out (Nat.le_refl _))).mono ?_
    rintro e w2 ⟨hb, hm2⟩
    have HB2 := Lib.hid (HB1.out.trans (hb.mono HB1.out.size))
    clear hb
    obtain rfl : e = _ := hm2
    have ez : (z == z) = true := by simp
    have ez' : (z != z) = false := by simp
    go_wp2_with fail
    refine (rsame8_any none none 0 0 0 [] _ (NlRow.nil _) (NlRow.nil _)).mono ?_
    rintro e w3 ⟨rfl, q3, hw⟩
    have HB3 := Lib.hid (below_drewN HB2.out q3)
    rw [← hw] at HB3
    clear hw
    go_wp2_with fail
    refine wp_loop_rounds 1 ?_
    rw [rounds_succ]
    go_wp2_with fail
    refine (HGA.out _ (HX.out.below HB3.out (Nat.le_refl _))).mono ?_
    rintro e w5 ⟨hb, hm5⟩
    have HB5 := Lib.hid (HB3.out.trans (hb.mono HB3.out.size))
    clear hb
    cases R2 with
    | error z2 =>
      obtain rfl : e = _ := hm5
      go_wp2_with fail
      refine (HGB.out _ (HX.out.below HB5.out (Nat.le_refl _))).mono ?_
      rintro e w6 ⟨hb, hm6⟩
      have HB6 := Lib.hid (HB5.out.trans (hb.mono HB5.out.size))
      clear hb
      obtain rfl : e = _ := hm6
      have ez2 : (z2 == z2) = true := by simp
      have ez2' : (z2 != z2) = false := by simp
      go_wp2_with fail
      refine (rsame8_any none none 0 0 0 [] _ (NlRow.nil _) (NlRow.nil _)).mono ?_
      rintro e w7 ⟨rfl, q7, hw⟩
      have HB7 := Lib.hid (below_drewN HB6.out q7)
      rw [← hw] at HB7
      clear hw
      go_wp2_with fail
      refine (HTA.out _ (HX.out.below HB7.out (Nat.le_refl _))).mono ?_
      rintro e w8 ⟨hb, hm8⟩
      have HB8 := Lib.hid (HB7.out.trans (hb.mono HB7.out.size))
      clear hb
      obtain rfl : e = _ := hm8
      go_wp2_with fail
      refine (rsame8_any none none 0 0 0 [] _ (NlRow.nil _) (NlRow.nil _)).mono ?_
      rintro e w9 ⟨rfl, q9, hw⟩
      have HB9 := Lib.hid (below_drewN HB8.out q9)
      rw [← hw] at HB9
      clear hw
      go_wp2_with fail
      refine (works_any _).mono ?_
      rintro e w10 ⟨rfl, hb⟩
      have HB10 := Lib.hid (HB9.out.trans (hb.mono HB9.out.size))
      clear hb
      go_wp2_with fail
      go_ret
      exact ⟨rfl, HB10.out⟩
    | ok p2 =>
      obtain ⟨f2, L2⟩ := p2
      obtain ⟨v5, rfl, ho5⟩ := hm5
      have HOKL2 := Lib.hid (HOK2.out f2 L2 rfl)
      obtain ⟨A5, c5, rfl, hr5⟩ := NlOwn.row ho5 HOKL2.out
      have HR5 := Lib.hid hr5
      clear ho5 hr5
      go_wp2_with fail
      refine (HGB.out _ (HX.out.below HB5.out (Nat.le_refl _))).mono ?_
      rintro e w6 ⟨hb, hm6⟩
      have HB6 := Lib.hid (HB5.out.trans (hb.mono HB5.out.size))
      have HR6 := Lib.hid (HR5.out.below hb (Nat.le_refl _))
      clear hb
      obtain ⟨v6, rfl, ho6⟩ := hm6
      obtain ⟨A6, c6, rfl, hr6⟩ := NlOwn.row ho6 HOKL2.out
      have HR6b := Lib.hid hr6
      clear ho6 hr6
      have ef2 : (f2 == f2) = true := by simp
      have ef2' : (f2 != f2) = false := by simp
      go_wp2_with fail
      refine (rsame8_any A5 A6 L2.length c5 c6 L2 _ HR6.out HR6b.out).mono ?_
      rintro e w7 ⟨rfl, q7, hw⟩
      have HB7 := Lib.hid (below_drewN HB6.out q7)
      rw [← hw] at HB7
      clear hw
      go_wp2_with fail
      refine (HTA.out _ (HX.out.below HB7.out (Nat.le_refl _))).mono ?_
      rintro e w8 ⟨hb, hm8⟩
      have HB8 := Lib.hid (HB7.out.trans (hb.mono HB7.out.size))
      clear hb
      obtain rfl : e = _ := hm8
      go_wp2_with fail
      refine (rsame8_any none none 0 0 0 [] _ (NlRow.nil _) (NlRow.nil _)).mono ?_
      rintro e w9 ⟨rfl, q9, hw⟩
      have HB9 := Lib.hid (below_drewN HB8.out q9)
      rw [← hw] at HB9
      clear hw
      go_wp2_with fail
      refine (works_any _).mono ?_
      rintro e w10 ⟨rfl, hb⟩
      have HB10 := Lib.hid (HB9.out.trans (hb.mono HB9.out.size))
      clear hb
      go_wp2_with fail
      go_ret
      exact ⟨rfl, HB10.out⟩
  | ok p =>
    obtain ⟨f, hp, L⟩ := p
    obtain ⟨v1, rfl, ho1⟩ := hm1
    have HOKL := Lib.hid (HOK1.out f hp L rfl)
    have hlt1 := OwnM.lt ho1
    obtain ⟨A1, c1, rfl, hr1⟩ := NlOwn.row ho1 HOKL.out
    have hc1 : L.length ≤ c1 := hr1.hle
    have hc1m : c1 ≤ 9223372036854775807 := hr1.hcap
    have HO1 := Lib.hid ho1
    have HR1 := Lib.hid hr1
    have HLT : Hid (∀ g, (Value.slice A1 L.length c1).ownBlock = some g → g < w1.heap.size) := fun g hg => (hlt1 g hg).2
    clear ho1 hr1 hlt1
    go_wp2_with fail
    refine (HTB.out _ (HX.out.below HB1.out (Nat.le_refl _))).mono ?_
    rintro e w2 ⟨hb, hm2⟩
    have HB2 := Lib.hid (HB1.out.trans (hb.mono HB1.out.size))
    have HO2 : Hid (NlOwn w2 w.heap.size (.slice A1 L.length c1) L) := OwnM.below HO1.out hb (Nat.le_refl _)
    have HR2 := Lib.hid (HR1.out.below hb (Nat.le_refl _))
    clear hb HO1 HR1
    obtain ⟨v2, rfl, ho2⟩ := hm2
    have hov := ho2
    obtain ⟨A2, c2, rfl, hr2⟩ := NlOwn.row ho2 HOKL.out
    have HV2 := Lib.hid hr2
    have HW2 := Lib.hid hov
    clear ho2 hr2 hov
    have ef : (f == f) = true := by simp
    have ef' : (f != f) = false := by simp
    go_wp2_with fail
    refine (rsame8_any A1 A2 L.length c1 c2 L _ HR2.out HV2.out).mono ?_
    rintro e w3 ⟨rfl, q3, hw⟩
    have HB3 := Lib.hid (below_drewN HB2.out q3)
    have HO3 : Hid (NlOwn (w2.drewN q3) w.heap.size (.slice A1 L.length c1) L) := HO2.out
    have HW3 : Hid (NlOwn (w2.drewN q3) w1.heap.size (.slice A2 L.length c2) L) := HW2.out
    rw [← hw] at HB3 HO3 HW3
    clear hw HO2 HW2 HR2 HV2
    go_wp2_with fail
    go_loopw [13] (fun i wr => ∃ k : Nat, k ≤ L.length ∧ i = .int .i64 k ∧ Hid (Below w.heap.size w wr) ∧ Hid (NlOwn wr w.heap.size (.slice A1 (zL L k).length c1) (zL L k)) ∧ Hid (NlOwn wr w1.heap.size (.slice A2 L.length c2) L)) (fun i _ => L.length + 1 - (intOf i).toNat)
    case atStart => exact ⟨0, Nat.zero_le _, rfl, HB3, by rw [zL_len (Nat.zero_le _)]; exact HO3, HW3⟩
    case round =>
      obtain ⟨k, hk, rfl, HB, HO, HW⟩ := hrel
      clear HB3 HO3 HW3
      by_cases hlt : k < L.length
      · have HZ : Hid ((zL L k).length = L.length) := zL_len (by omega)
        obtain ⟨g, cp, hv, hg, hgs, _⟩ := OwnM.cells HO.out (by rw [zL_len (by omega)]; omega)
        injection hv with e1 e2 e3
        subst e1
        have hgl := HLT.out g rfl
        have HWS := Lib.hid HB.out.size
        clear e2 e3
        go_wp2_with (with_reducible show wpList _ _ _ (_ :: _) _ _; refine wpList_nl_store rfl (.tmp 69) (.tmp 68) rfl w.heap.size g c1 k (zL L k) nlZero rfl rfl HO (by rw [zL_len (by omega)]; exact hlt) ?_)
        intro u2 HO2 HG2
        have HB2 : Hid (Below w.heap.size w u2) := below_grownB HB.out HG2.out hg HWS.out
        have HW2 : Hid (NlOwn u2 w1.heap.size (.slice A2 L.length c2) L) := OwnM.grown HW.out HG2.out (fun j hj e => by
          have h1 := (OwnM.lt HW.out j hj).1
          have h2 := Option.some.inj e
          omega)
        have HO3 : Hid (NlOwn u2 w.heap.size (.slice (some ⟨g, 0, none⟩) (zL L (k + 1)).length c1) (zL L (k + 1))) := by
          have h := HO2.out
          rw [zL_set hlt, zL_len (show k ≤ L.length by omega)] at h
          rw [zL_len (show k + 1 ≤ L.length by omega)]
          exact h
        clear HO HW HB HO2 HG2
        go_wp2_with fail
        exact ⟨⟨k + 1, by omega, by go_num, HB2, HO3, HW2⟩, by simp [intOf]; omega⟩
      · have HV4 : Hid (NlRow wr A2 L.length c2 L) := by
          obtain ⟨A9, c9, hv, hr⟩ := NlOwn.row HW.out HOKL.out
          injection hv with e1 e2 e3
          rw [← e1, ← e3] at hr
          exact hr
        clear HO HW
        go_wp2_with fail
        refine (HGA.out _ (HX.out.below HB.out (Nat.le_refl _))).mono ?_
        rintro e w5 ⟨hb, hm5⟩
        have HB5 := Lib.hid (HB.out.trans (hb.mono HB.out.size))
        have HV5 := Lib.hid (HV4.out.below hb (Nat.le_refl _))
        clear hb
        cases R2 with
        | error z2 =>
          obtain rfl : e = _ := hm5
          go_wp2_with fail
          refine (HGB.out _ (HX.out.below HB5.out (Nat.le_refl _))).mono ?_
          rintro e w6 ⟨hb, hm6⟩
          have HB6 := Lib.hid (HB5.out.trans (hb.mono HB5.out.size))
          have HV6 := Lib.hid (HV5.out.below hb (Nat.le_refl _))
          clear hb
          obtain rfl : e = _ := hm6
          have ez2 : (z2 == z2) = true := by simp
          have ez2' : (z2 != z2) = false := by simp
          go_wp2_with fail
          refine (rsame8_any none none 0 0 0 [] _ (NlRow.nil _) (NlRow.nil _)).mono ?_
          rintro e w7 ⟨rfl, q7, hw⟩
          have HB7 := Lib.hid (below_drewN HB6.out q7)
          rw [← hw] at HB7
          have HV7 := Lib.hid (HV6.out.below (below_drewN (Below.refl _ _) q7) (Nat.le_refl _))
          rw [← hw] at HV7
          clear hw
          go_wp2_with fail
          refine (HTA.out _ (HX.out.below HB7.out (Nat.le_refl _))).mono ?_
          rintro e w8 ⟨hb, hm8⟩
          have HB8 := Lib.hid (HB7.out.trans (hb.mono HB7.out.size))
          have HV8 := Lib.hid (HV7.out.below hb (Nat.le_refl _))
          clear hb
          obtain ⟨v8, rfl, ho8⟩ := hm8
          obtain ⟨A8, c8, rfl, hr8⟩ := NlOwn.row ho8 HOKL.out
          have HR8 := Lib.hid hr8
          clear ho8 hr8
          go_wp2_with fail
          refine (rsame8_any A8 A2 L.length c8 c2 L _ HR8.out HV8.out).mono ?_
          rintro e w9 ⟨rfl, q9, hw⟩
          have HB9 := Lib.hid (below_drewN HB8.out q9)
          rw [← hw] at HB9
          clear hw
          go_wp2_with fail
          refine (works_any _).mono ?_
          rintro e w10 ⟨rfl, hb⟩
          have HB10 := Lib.hid (HB9.out.trans (hb.mono HB9.out.size))
          clear hb
          go_wp2_with fail
          go_ret
          exact ⟨rfl, HB10.out⟩
        | ok p2 =>
          obtain ⟨f2, L2⟩ := p2
          obtain ⟨v5, rfl, ho5⟩ := hm5
          have HOKL2 := Lib.hid (HOK2.out f2 L2 rfl)
          obtain ⟨A5, c5, rfl, hr5⟩ := NlOwn.row ho5 HOKL2.out
          have HR5 := Lib.hid hr5
          clear ho5 hr5
          go_wp2_with fail
          refine (HGB.out _ (HX.out.below HB5.out (Nat.le_refl _))).mono ?_
          rintro e w6 ⟨hb, hm6⟩
          have HB6 := Lib.hid (HB5.out.trans (hb.mono HB5.out.size))
          have HV6 := Lib.hid (HV5.out.below hb (Nat.le_refl _))
          have HR6 := Lib.hid (HR5.out.below hb (Nat.le_refl _))
          clear hb
          obtain ⟨v6, rfl, ho6⟩ := hm6
          obtain ⟨A6, c6, rfl, hr6⟩ := NlOwn.row ho6 HOKL2.out
          have HR6b := Lib.hid hr6
          clear ho6 hr6
          have ef2 : (f2 == f2) = true := by simp
          have ef2' : (f2 != f2) = false := by simp
          go_wp2_with fail
          refine (rsame8_any A5 A6 L2.length c5 c6 L2 _ HR6.out HR6b.out).mono ?_
          rintro e w7 ⟨rfl, q7, hw⟩
          have HB7 := Lib.hid (below_drewN HB6.out q7)
          rw [← hw] at HB7
          have HV7 := Lib.hid (HV6.out.below (below_drewN (Below.refl _ _) q7) (Nat.le_refl _))
          rw [← hw] at HV7
          clear hw
          go_wp2_with fail
          refine (HTA.out _ (HX.out.below HB7.out (Nat.le_refl _))).mono ?_
          rintro e w8 ⟨hb, hm8⟩
          have HB8 := Lib.hid (HB7.out.trans (hb.mono HB7.out.size))
          have HV8 := Lib.hid (HV7.out.below hb (Nat.le_refl _))
          clear hb
          obtain ⟨v8, rfl, ho8⟩ := hm8
          obtain ⟨A8, c8, rfl, hr8⟩ := NlOwn.row ho8 HOKL.out
          have HR8 := Lib.hid hr8
          clear ho8 hr8
          go_wp2_with fail
          refine (rsame8_any A8 A2 L.length c8 c2 L _ HR8.out HV8.out).mono ?_
          rintro e w9 ⟨rfl, q9, hw⟩
          have HB9 := Lib.hid (below_drewN HB8.out q9)
          rw [← hw] at HB9
          clear hw
          go_wp2_with fail
          refine (works_any _).mono ?_
          rintro e w10 ⟨rfl, hb⟩
          have HB10 := Lib.hid (HB9.out.trans (hb.mono HB9.out.size))
          clear hb
          go_wp2_with fail
          go_ret
          exact ⟨rfl, HB10.out⟩

set_option maxRecDepth 100000 in
theorem reachTakes_liftedU (os : Os) (started : os.Started) (H : Type) (enc : TypeId × Value → H) (F : Stop.Interp) :
    ReturnsInHanded {} Try.checked os 6 .any ((Rows.OpenSpec.upto Rows.reachTakesSpec).pre6 enc Try.prog Try.f6 Rows.reachTakesUptoRow.domain false) (((Rows.OpenSpec.upto Rows.reachTakesSpec).at F).post enc Try.prog Try.f6 false true false false) := by
  refine returnsInHanded_of_cond (C := Try.checked) (s := Rows.OpenSpec.upto Rows.reachTakesSpec) (k := Rows.uptoSmall) rfl own started (by kernel_rfl) Try.func6
    (OpenSpec.witness (enc := enc) (C := Try.checked) (s := Rows.OpenSpec.upto Rows.reachTakesSpec) (k := Rows.uptoSmall) rfl false ⟨#[], #[.string ⟨#[]⟩, .slice none 0 0], []⟩ 8 (by kernel_rfl) (by kernel_rfl) (by kernel_rfl)
      (x := ([.lit (.string []), .nil], [], [])) (by kernel_rfl) rfl (by kernel_rfl)) ?_
  intro W base args ds gs before hval0 hW hcnd hk _
  have hval : ∀ (j : Nat) t v, Try.f6.params[j]? = some t → args[j]? = some v → Value.okWide Try.prog W .any base t v := hval0
  have hW' := hW
  obtain ⟨p, q, hA0, hV, rfl, hfz, hnd⟩ := hW
  have hA : DataW.TrodAll enc Try.prog W 0 (fun _ => true) true Try.f6.params.toList args.toList ds p := hA0
  rw [Try.params6] at hA hval
  obtain ⟨v0, vs0, d0, ds0, p0, q0, hargs, rfl, rfl, h0, r0⟩ := trodAll_cons hA
  obtain ⟨v1, vs1, d1, ds1, p1, q1, rfl, rfl, rfl, h1, r1⟩ := trodAll_cons r0
  obtain ⟨rfl, rfl, rfl⟩ := trodAll_nil r1
  obtain rfl : args = #[v0, v1] := by cases args; simp_all
  obtain ⟨rfl, rfl⟩ := trodVars_none hV
  obtain ⟨s, rfl, rfl, rfl, hs_s⟩ := open_string Try.underlying9 (hval 0 9 v0 rfl rfl) h0
  obtain ⟨A, len, cap, rfl, hI⟩ := open_ints8 (hval 1 39 v1 rfl rfl) h1
  simp only [List.append_nil] at hk
  refine (takes_walk s A len cap W (bulk_string hk) hI).mono fun e W' ⟨he, bel⟩ => ?_
  exact ⟨_, he, law_post laidOut (by kernel_rfl) rfl (by kernel_rfl) Try.underlying4 hW' rfl bel⟩

theorem reachTakes_holdsU : Rows.ReachTakesUptoSaid :=
  OpenClaim.holds_of_cond 6 Try.f6 rfl rfl rfl rfl rfl rfl rfl ⟨rfl, rfl, rfl, rfl, rfl⟩ rfl rfl rfl rfl rfl (by kernel_rfl) Try.func6 (by kernel_rfl)
    (of_decide_eq_true (by kernel_rfl)) (by unfold Func.isWrapper; first | (rw [if_pos (by decide +kernel)]; kernel_rfl) | (rw [if_neg (by decide +kernel)]; exact ⟨rfl, rfl⟩))
    (fun os started H enc _ F => reachTakes_liftedU os started H enc F)
end Go.Proofs.Ytocbacpbckejdaa
