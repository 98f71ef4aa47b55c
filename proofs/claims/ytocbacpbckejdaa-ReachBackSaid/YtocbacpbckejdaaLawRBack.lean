/-
  ReachBack: for every family, list of told prefixes, ids and other families the law answers true. Conditions: none of its own.
-/
import Derived.Test.YtocbacpbckejdaaNlV
import Derived.Test.YtocbacpbckejdaaNlW
import Derived.Test.YtocbacpbckejdaaNlX
set_option linter.unusedVariables false
set_option linter.unusedSimpArgs false
namespace Go.Proofs.Ytocbacpbckejdaa
open Go.RowKit
open Go.ChangeShapes Go.WideShapes Go.ChangeAt
open Go.ChangeMaps (open_string shut_string)

def intsV (xs : List Int) : List Value := xs.map (Value.int .i64 ·)
def IntOwn (w : World) (base : Nat) (v : Value) (xs : List Int) : Prop := OwnM w base 3 1 v xs.length (intsV xs)
theorem infoI : (Try.prog.info? 3).map (fun i => (i.zero, i.size, i.bytes)) = some (some (.int .i64 0), 1, 8) := by kernel_rfl
theorem IntOwn.form {w : World} {base : Nat} {v : Value} {xs : List Int} (h : IntOwn w base v xs) : ∃ A c, v = .slice A xs.length c ∧ IntAt w A c xs := by
  rcases Nat.eq_zero_or_pos xs.length with h0 | h0
  · rcases h.2 with ⟨h2, _⟩ | ⟨g, cap, cur, fr, h2, _, _, _, h4, h5, _⟩
    · exact ⟨none, 0, by rw [h0]; exact h2, fun hl => absurd hl (by omega), by omega, by unfold maxLen; omega⟩
    · exact ⟨_, cap, h2, fun hl => absurd hl (by omega), h4, h5⟩
  · obtain ⟨g, cap, hv, hb, hg, hn, hc, hcell, _⟩ := OwnM.cells h h0
    refine ⟨_, cap, hv, fun _ => ⟨g, 0, rfl, hg, fun i x hi => ?_⟩, hn, hc⟩
    rw [Nat.zero_add]
    exact hcell i _ (by unfold intsV; rw [List.getElem?_map, hi]; rfl)
/-- what ReachBack stands on -/
structure BkAt (w V : World) (fam : Int) (next : ByteArray) (A : Option Addr) (len cap : Nat) (v : Value) (xs : List Int) : Prop where
  bl : Below w.heap.size w V
  box : CellsAt V w.heap.size #[.int .i64 fam, .string next, .slice A len cap] 31
  own : IntOwn V (w.heap.size + 1) v xs
section
variable {w V V' : World} {fam : Int} {next : ByteArray} {A : Option Addr} {len cap : Nat} {v v' : Value} {xs xs' : List Int}
theorem BkAt.below (h : BkAt w V fam next A len cap v xs) (hb : Below V.heap.size V V') : BkAt w V' fam next A len cap v xs := ⟨h.bl.trans (hb.mono h.bl.size), h.box.below hb h.box.lt, OwnM.below h.own hb (Nat.le_refl _)⟩
theorem BkAt.alloc (h : BkAt w V fam next A len cap v xs) (o : Obj) : BkAt w (V.alloc o) fam next A len cap v xs := h.below ((Below.refl _ _).alloc (Nat.le_refl _) o)
theorem BkAt.drew (h : BkAt w V fam next A len cap v xs) : BkAt w V.drew fam next A len cap v xs := h.below (below_drewN (Below.refl _ _) 1)
theorem BkAt.drewN (h : BkAt w V fam next A len cap v xs) (q : Nat) : BkAt w (V.drewN q) fam next A len cap v xs := h.below (below_drewN (Below.refl _ _) q)
theorem BkAt.ints {A1 : Option Addr} {n c1 : Nat} (h : BkAt w V fam next A len cap (.slice A1 n c1) xs) : IntAt V A1 c1 xs := by
  obtain ⟨A3, c3, hv, hi⟩ := IntOwn.form h.own
  injection hv with e1 e2 e3
  rw [e1, e3]
  exact hi
theorem BkAt.app (h : BkAt w V fam next A len cap v xs) (ho : IntOwn V' (w.heap.size + 1) v' xs') (hg : V.grownBy V' v.ownBlock) : BkAt w V' fam next A len cap v' xs' := by
  have hlt := OwnM.lt h.own
  have hs := h.box.lt
  refine ⟨OwnM.below_grown h.own hg h.bl (by have := h.bl.size; omega) (by omega), ?_, ho⟩
  exact (hg.block _ hs (fun e => by have := (hlt _ e.symm).1; omega)).trans h.box
theorem BkAt.c (h : BkAt w V fam next A len cap v xs) : V.cell? ⟨w.heap.size, 0, none⟩ = some (.int .i64 fam) ∧ V.cell? ⟨w.heap.size, 1, none⟩ = some (.string next) ∧ V.cell? ⟨w.heap.size, 2, none⟩ = some (.slice A len cap) :=
  ⟨(h.box.c 0).trans rfl, (h.box.c 1).trans rfl, (h.box.c 2).trans rfl⟩
end
section
variable {ops : Array Oper} {rest : List Oper} {op : Oper} {a : Act} {Q : Exit → Act → World → Prop} {w W : World} {fam : Int} {next : ByteArray} {A : Option Addr} {len cap : Nat} {v : Value} {xs : List Int}
/-- a family is appended -/
theorem wpList_append_fam (hgd : op.guard = none) (s p : Operand)
    (ho : op.op = .call { callee := .builtin .append, args := #[s, p], argTypes := #[39, 39] }) (hs : a.eval s = v) (hown : Hid (BkAt w W fam next A len cap v xs))
    (x : Int) (b : Nat) (hp : a.eval p = .slice (some ⟨b, 0, none⟩) 1 1) (hc : Hid (CellsAt W b #[.int .i64 x] 3)) (hl : xs.length ≤ 1000)
    (h : ∀ A' c' w', Hid (BkAt w w' fam next A len cap (.slice A' (xs.length + 1) c') (xs ++ [x])) → wpList Try.prog ops Q rest (a.put op.dst (.slice A' (xs.length + 1) c')) w') : wpList Try.prog ops Q (op :: rest) a W := by
  obtain ⟨i0, hi, hz0, hz1, hz2⟩ := info_parts infoI
  refine wpList_append_m hgd s p 39 39 ho (w.heap.size + 1) 3 i0 _ 1 8 Try.underlying39 hi hz0 hz1 hz2 rfl (by decide) v xs.length (intsV xs) hs hown.out.own _ 1 [.int .i64 x] hp ?_ ?_ ?_ (by have := hown.out.bl.size; have := hown.out.box.lt; omega) ?_
  · refine Src.slice Try.underlying39 rfl (fun j u hu => ?_) (fun u hu => by rw [List.mem_singleton.1 hu]; rfl)
    rw [add_flat, hc.out.c j]
    simpa using hu
  · unfold maxLen
    omega
  · omega
  · intro v' w' hv hg hat
    obtain ⟨A', c', rfl⟩ := hv.form
    refine h A' c' w' (hown.out.app ?_ hg)
    show OwnM _ _ _ _ _ _ _
    have e : intsV (xs ++ [x]) = intsV xs ++ [.int .i64 x] := by unfold intsV; rw [List.map_append]; rfl
    rw [e, List.length_append]
    exact hv
end

theorem hasI_app (xs : List Int) (x f : Int) : hasI (xs ++ [x]) f = (hasI xs f || x == f) := by
  unfold hasI
  rw [List.any_append, List.any_cons, List.any_nil, Bool.or_false]
def encB (L : List Nl) (add : Bool) : ByteArray := bts (encAll L add)
theorem encB_size (L : List Nl) (add : Bool) : (encB L add).size = (encAll L add).length := bts_size _
theorem back_cases (f : Int) (next : ByteArray) (L : List Nl) (add : Bool) :
    (∃ s t : ByteArray, putR f next L add = .tuple #[.string s, .int .i64 0] ∧ goneR f L add = .tuple #[.string t, .int .i64 0] ∧ 1 ≤ f ∧ f ≤ 5 ∧ (next.size : Int) = sizeV f ∧ (∀ n ∈ L, nlGood f add n) ∧ s = aheadS f next ++ encB L add ∧ t = headS f ++ encB L add ∧ (encAll L add).length ≤ 4077) ∨
    (∃ (z : Int) (t : ByteArray), z ≠ 0 ∧ putR f next L add = .tuple #[.string ⟨#[]⟩, .int .i64 z] ∧ goneR f L add = .tuple #[.string t, .int .i64 0] ∧ 1 ≤ f ∧ f ≤ 5 ∧ (∀ n ∈ L, nlGood f add n) ∧ t = headS f ++ encB L add ∧ (encAll L add).length ≤ 4077) ∨
    (∃ z y : Int, z ≠ 0 ∧ y ≠ 0 ∧ putR f next L add = .tuple #[.string ⟨#[]⟩, .int .i64 z] ∧ goneR f L add = .tuple #[.string ⟨#[]⟩, .int .i64 y]) := by
  by_cases h : 1 ≤ f ∧ f ≤ 5
  · by_cases hg : famSize f = 0 ∨ ¬ ∀ n ∈ L, nlGood f add n
    · right; right
      have e : ∀ a, layR a L f add = .tuple #[.string ⟨#[]⟩, .int .i64 2] := fun a => if_pos hg
      refine ⟨2, 2, by omega, by omega, ?_, ?_⟩
      · unfold putR
        split
        · exact e _
        · rfl
      · unfold goneR
        rw [if_pos h]
        exact e _
    · have hg2 : ∀ n ∈ L, nlGood f add n := fun n hn => by
        by_cases h2 : nlGood f add n
        · exact h2
        · exact absurd (Or.inr (fun k => h2 (k n hn))) hg
      have e1 : ∀ a : ByteArray, 4077 < a.size + (encAll L add).length → layR a L f add = .tuple #[.string ⟨#[]⟩, .int .i64 3] := fun a ha => by unfold layR; rw [if_neg hg, if_pos ha]
      have e2 : ∀ a : ByteArray, ¬ 4077 < a.size + (encAll L add).length → layR a L f add = .tuple #[.string (a ++ encB L add), .int .i64 0] := fun a ha => by
        unfold layR
        rw [if_neg hg, if_neg ha]
        rfl
      have hgone : goneR f L add = layR (headS f) L f add := if_pos h
      have h3 := headS_size f
      by_cases hbg : 4077 < (headS f).size + (encAll L add).length
      · right; right
        by_cases hn : (next.size : Int) = sizeV f
        · refine ⟨3, 3, by omega, by omega, ?_, hgone.trans (e1 _ hbg)⟩
          rw [show putR f next L add = layR (aheadS f next) L f add from if_pos ⟨h.1, h.2, hn⟩]
          refine e1 _ ?_
          have : 3 ≤ (aheadS f next).size := by
            unfold aheadS
            simp only [ByteArray.size_append, headS_size]
            omega
          omega
        · exact ⟨2, 3, by omega, by omega, if_neg (fun k => hn k.2.2), hgone.trans (e1 _ hbg)⟩
      · by_cases hn : (next.size : Int) = sizeV f
        · have hp : putR f next L add = layR (aheadS f next) L f add := if_pos ⟨h.1, h.2, hn⟩
          by_cases hba : 4077 < (aheadS f next).size + (encAll L add).length
          · right; left
            exact ⟨3, _, by omega, hp.trans (e1 _ hba), hgone.trans (e2 _ hbg), h.1, h.2, hg2, rfl, by omega⟩
          · left
            exact ⟨_, _, hp.trans (e2 _ hba), hgone.trans (e2 _ hbg), h.1, h.2, hn, hg2, rfl, rfl, by omega⟩
        · right; left
          exact ⟨2, _, by omega, if_neg (fun k => hn k.2.2), hgone.trans (e2 _ hbg), h.1, h.2, hg2, rfl, by omega⟩
  · right; right
    exact ⟨2, 2, by omega, by omega, if_neg (fun k => h ⟨k.1, k.2.1⟩), if_neg h⟩

set_option maxRecDepth 100000 in
set_option maxHeartbeats 16000000 in
theorem back_walk (fam : Int) (next : ByteArray) (A : Option Addr) (len cap : Nat) (add : Bool) (A2 : Option Addr) (len2 cap2 : Nat) (w : World) (f1 : -9223372036854775808 ≤ fam) (f2 : fam ≤ 9223372036854775807) (hnx : (next.size : Int) ≤ 9223372036854775807)
    (hE : ElemsIn w A len cap 6 NlCs) (hI : ElemsIn w A2 len2 cap2 1 (fun cs => ∃ n : Int, cs = [.int .i64 n])) :
    Calls Try.prog 7 #[.agg #[.int .i64 fam, .string next, .slice A len cap], .bool add, .slice A2 len2 cap2] w fun e w' => e = .returned (.bool true) ∧ Below w.heap.size w w' := by
  have hle := hE.1
  have hcm : cap ≤ 9223372036854775807 := hE.2.1
  have hle2 := hI.1
  have hcm2 : cap2 ≤ 9223372036854775807 := hI.2.1
  have hnil := hE.2.2.1
  obtain ⟨k, hk⟩ : ∃ k, k = min len 2000 := ⟨_, rfl⟩
  have hkl : k ≤ len := by omega
  have hk2 : k ≤ 2000 := by omega
  obtain ⟨L, hL⟩ := NlRow.of_elems hE hkl
  obtain ⟨ys, hyl, hY⟩ := IntAt.of_elems hI (Nat.le_refl _)
  have HL := Lib.hid hL
  have HY := Lib.hid hY
  obtain rfl : L.length = k := hL.hlen
  subst hyl
  have HNIL := Lib.hid hnil
  clear hE hI hL hY hnil
  have HX0 : Hid (BkAt w (w.alloc (.cells #[.int .i64 fam, .string next, .slice A len cap] 31)) fam next A len cap (.slice none 0 0) []) :=
    ⟨(Below.refl _ _).alloc (Nat.le_refl _) _, CellsAt.new _ _ _, OwnM.nil _ _ _ _⟩
  go_enter Try.func7, Try.ntmps7
  go_wp2_with fail
  generalize w.alloc (.cells #[.int .i64 fam, .string next, .slice A len cap] 31) = W0 at HX0 ⊢
  refine (works_any _).mono ?_
  rintro e w1 ⟨rfl, hb⟩
  have HX1 := Lib.hid (HX0.out.below hb)
  clear hb HX0
  obtain ⟨x0, x1, x2⟩ := HX1.out.c
  have HKM : Hid (min (len : Int) 2000 = (L.length : Int)) := by
    show _ = _
    omega
  clear hk
  cases add with
  | false =>
    go_wp2_with fail
    rw [HKM.out, Int.toNat_natCast]
    go_loopw [8, 9] (fun o i wr => ∃ (k : Nat) (xs : List Int) (A1 : Option Addr) (c1 : Nat), o = .slice A1 xs.length c1 ∧ k ≤ ys.length ∧ k ≤ 50 ∧ i = .int .i64 k ∧ xs.length ≤ k + 1 ∧ Hid (hasI xs fam = false) ∧ Hid (BkAt w wr fam next A len cap o xs)) (fun _ i _ => 51 - (intOf i).toNat)
    case atStart => exact ⟨0, [], none, 0, rfl, Nat.zero_le _, Nat.zero_le _, rfl, Nat.zero_le _, rfl, HX1⟩
    case round =>
      obtain ⟨k, xs, A1, c1, rfl, hk1, hk50, rfl, hxl, HH, HX⟩ := hrel
      clear HX1 x0 x1 x2
      by_cases hlt : k < ys.length
      · by_cases h50 : k < 50
        · obtain ⟨u, hu⟩ : ∃ u, ys[k]? = some u := ⟨ys[k], List.getElem?_eq_getElem hlt⟩
          obtain ⟨b2, o2, rfl, hb2, hcall⟩ := (HY.out.below HX.out.bl (Nat.le_refl _)).rd (by omega)
          have hcell := hcall k u hu
          have h0 := HX.out
          obtain ⟨x0, x1, x2⟩ := h0.c
          clear h0 hcall hu
          by_cases he : u = fam
          · have e1 : (u == fam) = true := by rw [beq_iff_eq]; exact he
            have e2 : (u != fam) = false := by rw [bne, e1]; rfl
            clear he
            go_wp2_with fail
            go_quiet (fail)
            go_wp2_with fail
            exact ⟨⟨k + 1, xs, A1, c1, rfl, by omega, by omega, by go_num, by omega, HH, Lib.hid (HX.out.drewN nq)⟩, by simp [intOf]; omega⟩
          · have e1 : (u == fam) = false := beq_eq_false_iff_ne.2 he
            have e2 : (u != fam) = true := by rw [bne, e1]; rfl
            have HH2 : Hid (hasI (xs ++ [u]) fam = false) := by
              show _ = _
              rw [hasI_app, HH.out, e1]
              rfl
            clear he
            go_wp2_with fail
            go_quiet (fail)
            have hcell2 : (wr.drewN nq).cell? ⟨b2, o2 + k, none⟩ = some (.int .i64 u) := hcell
            have HXa := Lib.hid ((HX.out.drewN nq).alloc (.cells #[.int .i64 u] 3))
            have HCa : Hid (CellsAt ((wr.drewN nq).alloc (.cells #[.int .i64 u] 3)) (wr.drewN nq).heap.size #[.int .i64 u] 3) := CellsAt.new _ _ _
            go_wp2_with (with_reducible show wpList _ _ _ (_ :: _) _ _; refine wpList_append_fam rfl (.tmp 53) (.tmp 58) rfl rfl HXa u (wr.drewN nq).heap.size rfl HCa (by omega) ?_)
            intro A3 c3 V3 HX3
            clear HXa HCa
            have hl3 : (xs ++ [u]).length = xs.length + 1 := by rw [List.length_append]; rfl
            go_wp2_with fail
            exact ⟨⟨k + 1, xs ++ [u], A3, c3, by rw [hl3], by omega, by omega, by go_num, by rw [hl3]; omega, HH2, HX3⟩, by simp [intOf]; omega⟩
        · have h0 := HX.out
          obtain ⟨x0, x1, x2⟩ := h0.c
          clear h0
          have HOKS : Hid (∀ n ∈ L, n.Ok) := HL.out.ok
          rcases back_cases fam next L false with ⟨s, t, hp, hg, b1, b2, hn, hgd, hs, ht, he⟩ | ⟨z, t, hz, hp, hg, b1, b2, hgd, ht, he⟩ | ⟨z, y, hz, hy, hp, hg⟩
          · have HP : Hid (∀ V, NlRow V A L.length cap L → Calls Try.prog 15 #[.int .i64 fam, .string next, .slice A L.length cap, .bool false] V fun e w' => e = .returned (.tuple #[.string s, .int .i64 0]) ∧ Below V.heap.size V w') := fun V h => by
              rw [← hp]
              exact put_any fam next A L.length cap L false V h (by omega) hnx
            have HG : Hid (∀ V, NlRow V A L.length cap L → Calls Try.prog 17 #[.int .i64 fam, .slice A L.length cap, .bool false] V fun e w' => e = .returned (.tuple #[.string t, .int .i64 0]) ∧ Below V.heap.size V w') := fun V h => by
              rw [← hg]
              exact putgone_any fam A L.length cap L false V h (by omega)
            have HTK : Hid (takeF s xs = .ok (fam, next, L)) := by
              show _ = _
              rw [hs]
              exact take_back b1 b2 hn HH.out (fun n hn => ⟨hgd n hn, HOKS.out n hn⟩)
            have HTG : Hid (goneF t xs = .ok (fam, L)) := by
              show _ = _
              rw [ht]
              exact gone_back b1 b2 HH.out (fun n hn => ⟨hgd n hn, HOKS.out n hn⟩)
            have hsz : s.size ≤ 1100000 := by
              have h1 := aheadS_size b1 b2 hn
              rw [hs, ByteArray.size_append, encB_size]
              omega
            have htz : t.size ≤ 1100000 := by
              rw [ht, ByteArray.size_append, encB_size, headS_size]
              omega
            clear hp hg b1 b2 hn hgd hs ht he
            go_wp2_with fail
            refine (HP.out _ (HL.out.below HX.out.bl (Nat.le_refl _))).mono ?_
            rintro e w2 ⟨rfl, hb⟩
            have HX2 := Lib.hid (HX.out.below hb)
            clear hb x0 x1 x2 HX HP
            have h0 := HX2.out
            obtain ⟨x0, x1, x2⟩ := h0.c
            clear h0
            go_wp2_with fail
            refine (HG.out _ (HL.out.below HX2.out.bl (Nat.le_refl _))).mono ?_
            rintro e w3 ⟨rfl, hb⟩
            have HX3 := Lib.hid (HX2.out.below hb)
            clear hb x0 x1 x2 HX2 HG
            have h0 := HX3.out
            obtain ⟨x0, x1, x2⟩ := h0.c
            clear h0
            go_wp2_with fail
            refine (take_any s A1 c1 xs _ HX3.out.ints hsz).mono ?_
            rintro e w4 ⟨hb, hm⟩
            have HX4 := Lib.hid (HX3.out.below hb)
            rw [HTK.out] at hm
            obtain ⟨v, rfl, ho⟩ := hm
            obtain ⟨A5, c5, rfl, hrow⟩ := NlOwn.row ho HOKS.out
            have HM5 := Lib.hid hrow
            clear hb ho hrow x0 x1 x2 HX3
            have h0 := HX4.out
            obtain ⟨x0, x1, x2⟩ := h0.c
            clear h0
            go_wp2_with fail
            refine (same8_any A5 A L.length c5 cap L _ HM5.out (HL.out.below HX4.out.bl (Nat.le_refl _))).mono ?_
            rintro e w5 ⟨rfl, q5, hw⟩
            have HX5 := Lib.hid (HX4.out.drewN q5)
            rw [← hw] at HX5
            clear hw x0 x1 x2 HX4
            have h0 := HX5.out
            obtain ⟨x0, x1, x2⟩ := h0.c
            clear h0
            go_wp2_with fail
            refine (takegone_any t A1 c1 xs _ HX5.out.ints htz).mono ?_
            rintro e w7 ⟨hb, hm⟩
            have HX7 := Lib.hid (HX5.out.below hb)
            rw [HTG.out] at hm
            obtain ⟨v, rfl, ho⟩ := hm
            obtain ⟨A7, c7, rfl, hrow⟩ := NlOwn.row ho HOKS.out
            have HM7 := Lib.hid hrow
            clear hb ho hrow x0 x1 x2 HX5
            have h0 := HX7.out
            obtain ⟨x0, x1, x2⟩ := h0.c
            clear h0
            go_wp2_with fail
            refine (same8_any A7 A L.length c7 cap L _ HM7.out (HL.out.below HX7.out.bl (Nat.le_refl _))).mono ?_
            rintro e w8 ⟨rfl, q8, hw⟩
            rw [hw]
            clear hw
            go_wp2_with fail
            go_ret
            exact ⟨rfl, below_drewN HX7.out.bl q8⟩
          · have hz0 : (z == 0) = false := beq_eq_false_iff_ne.2 hz
            have HP : Hid (∀ V, NlRow V A L.length cap L → Calls Try.prog 15 #[.int .i64 fam, .string next, .slice A L.length cap, .bool false] V fun e w' => e = .returned (.tuple #[.string ⟨#[]⟩, .int .i64 z]) ∧ Below V.heap.size V w') := fun V h => by
              rw [← hp]
              exact put_any fam next A L.length cap L false V h (by omega) hnx
            have HG : Hid (∀ V, NlRow V A L.length cap L → Calls Try.prog 17 #[.int .i64 fam, .slice A L.length cap, .bool false] V fun e w' => e = .returned (.tuple #[.string t, .int .i64 0]) ∧ Below V.heap.size V w') := fun V h => by
              rw [← hg]
              exact putgone_any fam A L.length cap L false V h (by omega)
            have HTG : Hid (goneF t xs = .ok (fam, L)) := by
              show _ = _
              rw [ht]
              exact gone_back b1 b2 HH.out (fun n hn => ⟨hgd n hn, HOKS.out n hn⟩)
            have htz : t.size ≤ 1100000 := by
              rw [ht, ByteArray.size_append, encB_size, headS_size]
              omega
            clear hp hg b1 b2 hgd ht he hz
            go_wp2_with fail
            refine (HP.out _ (HL.out.below HX.out.bl (Nat.le_refl _))).mono ?_
            rintro e w2 ⟨rfl, hb⟩
            have HX2 := Lib.hid (HX.out.below hb)
            clear hb x0 x1 x2 HX HP
            have h0 := HX2.out
            obtain ⟨x0, x1, x2⟩ := h0.c
            clear h0
            go_wp2_with fail
            refine (HG.out _ (HL.out.below HX2.out.bl (Nat.le_refl _))).mono ?_
            rintro e w3 ⟨rfl, hb⟩
            have HX3 := Lib.hid (HX2.out.below hb)
            clear hb x0 x1 x2 HX2 HG
            have h0 := HX3.out
            obtain ⟨x0, x1, x2⟩ := h0.c
            clear h0
            go_wp2_with fail
            refine (takegone_any t A1 c1 xs _ HX3.out.ints htz).mono ?_
            rintro e w7 ⟨hb, hm⟩
            have HX7 := Lib.hid (HX3.out.below hb)
            rw [HTG.out] at hm
            obtain ⟨v, rfl, ho⟩ := hm
            obtain ⟨A7, c7, rfl, hrow⟩ := NlOwn.row ho HOKS.out
            have HM7 := Lib.hid hrow
            clear hb ho hrow x0 x1 x2 HX3
            have h0 := HX7.out
            obtain ⟨x0, x1, x2⟩ := h0.c
            clear h0
            go_wp2_with fail
            refine (same8_any A7 A L.length c7 cap L _ HM7.out (HL.out.below HX7.out.bl (Nat.le_refl _))).mono ?_
            rintro e w8 ⟨rfl, q8, hw⟩
            rw [hw]
            clear hw
            go_wp2_with fail
            go_ret
            exact ⟨rfl, below_drewN HX7.out.bl q8⟩
          · have hz0 : (z == 0) = false := beq_eq_false_iff_ne.2 hz
            have hz1 : (z != 0) = true := by rw [bne, hz0]; rfl
            have hy0 : (y == 0) = false := beq_eq_false_iff_ne.2 hy
            have HP : Hid (∀ V, NlRow V A L.length cap L → Calls Try.prog 15 #[.int .i64 fam, .string next, .slice A L.length cap, .bool false] V fun e w' => e = .returned (.tuple #[.string ⟨#[]⟩, .int .i64 z]) ∧ Below V.heap.size V w') := fun V h => by
              rw [← hp]
              exact put_any fam next A L.length cap L false V h (by omega) hnx
            have HG : Hid (∀ V, NlRow V A L.length cap L → Calls Try.prog 17 #[.int .i64 fam, .slice A L.length cap, .bool false] V fun e w' => e = .returned (.tuple #[.string ⟨#[]⟩, .int .i64 y]) ∧ Below V.heap.size V w') := fun V h => by
              rw [← hg]
              exact putgone_any fam A L.length cap L false V h (by omega)
            clear hp hg hz hy
            go_wp2_with fail
            refine (HP.out _ (HL.out.below HX.out.bl (Nat.le_refl _))).mono ?_
            rintro e w2 ⟨rfl, hb⟩
            have HX2 := Lib.hid (HX.out.below hb)
            clear hb x0 x1 x2 HX HP
            have h0 := HX2.out
            obtain ⟨x0, x1, x2⟩ := h0.c
            clear h0
            go_wp2_with fail
            refine (HG.out _ (HL.out.below HX2.out.bl (Nat.le_refl _))).mono ?_
            rintro e w3 ⟨rfl, hb⟩
            have HX3 := Lib.hid (HX2.out.below hb)
            clear hb x0 x1 x2 HX2 HG
            have h0 := HX3.out
            obtain ⟨x0, x1, x2⟩ := h0.c
            clear h0
            go_wp2_with fail
            go_ret
            exact ⟨rfl, HX3.out.bl⟩
      · have h0 := HX.out
        obtain ⟨x0, x1, x2⟩ := h0.c
        clear h0
        have HOKS : Hid (∀ n ∈ L, n.Ok) := HL.out.ok
        rcases back_cases fam next L false with ⟨s, t, hp, hg, b1, b2, hn, hgd, hs, ht, he⟩ | ⟨z, t, hz, hp, hg, b1, b2, hgd, ht, he⟩ | ⟨z, y, hz, hy, hp, hg⟩
        · have HP : Hid (∀ V, NlRow V A L.length cap L → Calls Try.prog 15 #[.int .i64 fam, .string next, .slice A L.length cap, .bool false] V fun e w' => e = .returned (.tuple #[.string s, .int .i64 0]) ∧ Below V.heap.size V w') := fun V h => by
            rw [← hp]
            exact put_any fam next A L.length cap L false V h (by omega) hnx
          have HG : Hid (∀ V, NlRow V A L.length cap L → Calls Try.prog 17 #[.int .i64 fam, .slice A L.length cap, .bool false] V fun e w' => e = .returned (.tuple #[.string t, .int .i64 0]) ∧ Below V.heap.size V w') := fun V h => by
            rw [← hg]
            exact putgone_any fam A L.length cap L false V h (by omega)
          have HTK : Hid (takeF s xs = .ok (fam, next, L)) := by
            show _ = _
            rw [hs]
            exact take_back b1 b2 hn HH.out (fun n hn => ⟨hgd n hn, HOKS.out n hn⟩)
          have HTG : Hid (goneF t xs = .ok (fam, L)) := by
            show _ = _
            rw [ht]
            exact gone_back b1 b2 HH.out (fun n hn => ⟨hgd n hn, HOKS.out n hn⟩)
          have hsz : s.size ≤ 1100000 := by
            have h1 := aheadS_size b1 b2 hn
            rw [hs, ByteArray.size_append, encB_size]
            omega
          have htz : t.size ≤ 1100000 := by
            rw [ht, ByteArray.size_append, encB_size, headS_size]
            omega
          clear hp hg b1 b2 hn hgd hs ht he
          go_wp2_with fail
          refine (HP.out _ (HL.out.below HX.out.bl (Nat.le_refl _))).mono ?_
          rintro e w2 ⟨rfl, hb⟩
          have HX2 := Lib.hid (HX.out.below hb)
          clear hb x0 x1 x2 HX HP
          have h0 := HX2.out
          obtain ⟨x0, x1, x2⟩ := h0.c
          clear h0
          go_wp2_with fail
          refine (HG.out _ (HL.out.below HX2.out.bl (Nat.le_refl _))).mono ?_
          rintro e w3 ⟨rfl, hb⟩
          have HX3 := Lib.hid (HX2.out.below hb)
          clear hb x0 x1 x2 HX2 HG
          have h0 := HX3.out
          obtain ⟨x0, x1, x2⟩ := h0.c
          clear h0
          go_wp2_with fail
          refine (take_any s A1 c1 xs _ HX3.out.ints hsz).mono ?_
          rintro e w4 ⟨hb, hm⟩
          have HX4 := Lib.hid (HX3.out.below hb)
          rw [HTK.out] at hm
          obtain ⟨v, rfl, ho⟩ := hm
          obtain ⟨A5, c5, rfl, hrow⟩ := NlOwn.row ho HOKS.out
          have HM5 := Lib.hid hrow
          clear hb ho hrow x0 x1 x2 HX3
          have h0 := HX4.out
          obtain ⟨x0, x1, x2⟩ := h0.c
          clear h0
          go_wp2_with fail
          refine (same8_any A5 A L.length c5 cap L _ HM5.out (HL.out.below HX4.out.bl (Nat.le_refl _))).mono ?_
          rintro e w5 ⟨rfl, q5, hw⟩
          have HX5 := Lib.hid (HX4.out.drewN q5)
          rw [← hw] at HX5
          clear hw x0 x1 x2 HX4
          have h0 := HX5.out
          obtain ⟨x0, x1, x2⟩ := h0.c
          clear h0
          go_wp2_with fail
          refine (takegone_any t A1 c1 xs _ HX5.out.ints htz).mono ?_
          rintro e w7 ⟨hb, hm⟩
          have HX7 := Lib.hid (HX5.out.below hb)
          rw [HTG.out] at hm
          obtain ⟨v, rfl, ho⟩ := hm
          obtain ⟨A7, c7, rfl, hrow⟩ := NlOwn.row ho HOKS.out
          have HM7 := Lib.hid hrow
          clear hb ho hrow x0 x1 x2 HX5
          have h0 := HX7.out
          obtain ⟨x0, x1, x2⟩ := h0.c
          clear h0
          go_wp2_with fail
          refine (same8_any A7 A L.length c7 cap L _ HM7.out (HL.out.below HX7.out.bl (Nat.le_refl _))).mono ?_
          rintro e w8 ⟨rfl, q8, hw⟩
          rw [hw]
          clear hw
          go_wp2_with fail
          go_ret
          exact ⟨rfl, below_drewN HX7.out.bl q8⟩
        · have hz0 : (z == 0) = false := beq_eq_false_iff_ne.2 hz
          have HP : Hid (∀ V, NlRow V A L.length cap L → Calls Try.prog 15 #[.int .i64 fam, .string next, .slice A L.length cap, .bool false] V fun e w' => e = .returned (.tuple #[.string ⟨#[]⟩, .int .i64 z]) ∧ Below V.heap.size V w') := fun V h => by
            rw [← hp]
            exact put_any fam next A L.length cap L false V h (by omega) hnx
          have HG : Hid (∀ V, NlRow V A L.length cap L → Calls Try.prog 17 #[.int .i64 fam, .slice A L.length cap, .bool false] V fun e w' => e = .returned (.tuple #[.string t, .int .i64 0]) ∧ Below V.heap.size V w') := fun V h => by
            rw [← hg]
            exact putgone_any fam A L.length cap L false V h (by omega)
          have HTG : Hid (goneF t xs = .ok (fam, L)) := by
            show _ = _
            rw [ht]
            exact gone_back b1 b2 HH.out (fun n hn => ⟨hgd n hn, HOKS.out n hn⟩)
          have htz : t.size ≤ 1100000 := by
            rw [ht, ByteArray.size_append, encB_size, headS_size]
            omega
          clear hp hg b1 b2 hgd ht he hz
          go_wp2_with fail
          refine (HP.out _ (HL.out.below HX.out.bl (Nat.le_refl _))).mono ?_
          rintro e w2 ⟨rfl, hb⟩
          have HX2 := Lib.hid (HX.out.below hb)
          clear hb x0 x1 x2 HX HP
          have h0 := HX2.out
          obtain ⟨x0, x1, x2⟩ := h0.c
          clear h0
          go_wp2_with fail
          refine (HG.out _ (HL.out.below HX2.out.bl (Nat.le_refl _))).mono ?_
          rintro e w3 ⟨rfl, hb⟩
          have HX3 := Lib.hid (HX2.out.below hb)
          clear hb x0 x1 x2 HX2 HG
          have h0 := HX3.out
          obtain ⟨x0, x1, x2⟩ := h0.c
          clear h0
          go_wp2_with fail
          refine (takegone_any t A1 c1 xs _ HX3.out.ints htz).mono ?_
          rintro e w7 ⟨hb, hm⟩
          have HX7 := Lib.hid (HX3.out.below hb)
          rw [HTG.out] at hm
          obtain ⟨v, rfl, ho⟩ := hm
          obtain ⟨A7, c7, rfl, hrow⟩ := NlOwn.row ho HOKS.out
          have HM7 := Lib.hid hrow
          clear hb ho hrow x0 x1 x2 HX3
          have h0 := HX7.out
          obtain ⟨x0, x1, x2⟩ := h0.c
          clear h0
          go_wp2_with fail
          refine (same8_any A7 A L.length c7 cap L _ HM7.out (HL.out.below HX7.out.bl (Nat.le_refl _))).mono ?_
          rintro e w8 ⟨rfl, q8, hw⟩
          rw [hw]
          clear hw
          go_wp2_with fail
          go_ret
          exact ⟨rfl, below_drewN HX7.out.bl q8⟩
        · have hz0 : (z == 0) = false := beq_eq_false_iff_ne.2 hz
          have hz1 : (z != 0) = true := by rw [bne, hz0]; rfl
          have hy0 : (y == 0) = false := beq_eq_false_iff_ne.2 hy
          have HP : Hid (∀ V, NlRow V A L.length cap L → Calls Try.prog 15 #[.int .i64 fam, .string next, .slice A L.length cap, .bool false] V fun e w' => e = .returned (.tuple #[.string ⟨#[]⟩, .int .i64 z]) ∧ Below V.heap.size V w') := fun V h => by
            rw [← hp]
            exact put_any fam next A L.length cap L false V h (by omega) hnx
          have HG : Hid (∀ V, NlRow V A L.length cap L → Calls Try.prog 17 #[.int .i64 fam, .slice A L.length cap, .bool false] V fun e w' => e = .returned (.tuple #[.string ⟨#[]⟩, .int .i64 y]) ∧ Below V.heap.size V w') := fun V h => by
            rw [← hg]
            exact putgone_any fam A L.length cap L false V h (by omega)
          clear hp hg hz hy
          go_wp2_with fail
          refine (HP.out _ (HL.out.below HX.out.bl (Nat.le_refl _))).mono ?_
          rintro e w2 ⟨rfl, hb⟩
          have HX2 := Lib.hid (HX.out.below hb)
          clear hb x0 x1 x2 HX HP
          have h0 := HX2.out
          obtain ⟨x0, x1, x2⟩ := h0.c
          clear h0
          go_wp2_with fail
          refine (HG.out _ (HL.out.below HX2.out.bl (Nat.le_refl _))).mono ?_
          rintro e w3 ⟨rfl, hb⟩
          have HX3 := Lib.hid (HX2.out.below hb)
          clear hb x0 x1 x2 HX2 HG
          have h0 := HX3.out
          obtain ⟨x0, x1, x2⟩ := h0.c
          clear h0
          go_wp2_with fail
          go_ret
          exact ⟨rfl, HX3.out.bl⟩
  | true =>
    have HXa := Lib.hid (HX1.out.alloc (.cells #[.int .i64 fam] 3))
    have HCa : Hid (CellsAt (w1.alloc (.cells #[.int .i64 fam] 3)) w1.heap.size #[.int .i64 fam] 3) := CellsAt.new _ _ _
    go_wp2_with (with_reducible show wpList _ _ _ (_ :: _) _ _; refine wpList_append_fam rfl (.tmp 31) (.tmp 34) rfl rfl HXa fam w1.heap.size rfl HCa (by decide) ?_)
    intro A3 c3 V3 HX3
    clear HXa HCa
    go_wp2_with fail
    rw [HKM.out, Int.toNat_natCast]
    go_loopw [8, 9] (fun o i wr => ∃ (k : Nat) (xs : List Int) (A1 : Option Addr) (c1 : Nat), o = .slice A1 xs.length c1 ∧ k ≤ ys.length ∧ k ≤ 50 ∧ i = .int .i64 k ∧ xs.length ≤ k + 1 ∧ Hid (hasI xs fam = true) ∧ Hid (BkAt w wr fam next A len cap o xs)) (fun _ i _ => 51 - (intOf i).toNat)
    case atStart => exact ⟨0, [fam], A3, c3, rfl, Nat.zero_le _, Nat.zero_le _, rfl, Nat.le_refl _, by show hasI [fam] fam = true; simp [hasI], HX3⟩
    case round =>
      obtain ⟨k, xs, A1, c1, rfl, hk1, hk50, rfl, hxl, HH, HX⟩ := hrel
      clear HX1 HX3 x0 x1 x2
      by_cases hlt : k < ys.length
      · by_cases h50 : k < 50
        · obtain ⟨u, hu⟩ : ∃ u, ys[k]? = some u := ⟨ys[k], List.getElem?_eq_getElem hlt⟩
          obtain ⟨b2, o2, rfl, hb2, hcall⟩ := (HY.out.below HX.out.bl (Nat.le_refl _)).rd (by omega)
          have hcell := hcall k u hu
          have h0 := HX.out
          obtain ⟨x0, x1, x2⟩ := h0.c
          clear h0 hcall hu
          by_cases he : u = fam
          · have e1 : (u == fam) = true := by rw [beq_iff_eq]; exact he
            have e2 : (u != fam) = false := by rw [bne, e1]; rfl
            clear he
            go_wp2_with fail
            go_quiet (fail)
            go_wp2_with fail
            exact ⟨⟨k + 1, xs, A1, c1, rfl, by omega, by omega, by go_num, by omega, HH, Lib.hid (HX.out.drewN nq)⟩, by simp [intOf]; omega⟩
          · have e1 : (u == fam) = false := beq_eq_false_iff_ne.2 he
            have e2 : (u != fam) = true := by rw [bne, e1]; rfl
            have HH2 : Hid (hasI (xs ++ [u]) fam = true) := by
              show _ = _
              rw [hasI_app, HH.out, e1]
              rfl
            clear he
            go_wp2_with fail
            go_quiet (fail)
            have hcell2 : (wr.drewN nq).cell? ⟨b2, o2 + k, none⟩ = some (.int .i64 u) := hcell
            have HXa := Lib.hid ((HX.out.drewN nq).alloc (.cells #[.int .i64 u] 3))
            have HCa : Hid (CellsAt ((wr.drewN nq).alloc (.cells #[.int .i64 u] 3)) (wr.drewN nq).heap.size #[.int .i64 u] 3) := CellsAt.new _ _ _
            go_wp2_with (with_reducible show wpList _ _ _ (_ :: _) _ _; refine wpList_append_fam rfl (.tmp 53) (.tmp 58) rfl rfl HXa u (wr.drewN nq).heap.size rfl HCa (by omega) ?_)
            intro A3 c3 V3 HX3
            clear HXa HCa
            have hl3 : (xs ++ [u]).length = xs.length + 1 := by rw [List.length_append]; rfl
            go_wp2_with fail
            exact ⟨⟨k + 1, xs ++ [u], A3, c3, by rw [hl3], by omega, by omega, by go_num, by rw [hl3]; omega, HH2, HX3⟩, by simp [intOf]; omega⟩
        · have h0 := HX.out
          obtain ⟨x0, x1, x2⟩ := h0.c
          clear h0
          have HOKS : Hid (∀ n ∈ L, n.Ok) := HL.out.ok
          rcases back_cases fam next L true with ⟨s, t, hp, hg, b1, b2, hn, hgd, hs, ht, he⟩ | ⟨z, t, hz, hp, hg, b1, b2, hgd, ht, he⟩ | ⟨z, y, hz, hy, hp, hg⟩
          · have HP : Hid (∀ V, NlRow V A L.length cap L → Calls Try.prog 15 #[.int .i64 fam, .string next, .slice A L.length cap, .bool true] V fun e w' => e = .returned (.tuple #[.string s, .int .i64 0]) ∧ Below V.heap.size V w') := fun V h => by
              rw [← hp]
              exact put_any fam next A L.length cap L true V h (by omega) hnx
            have HG : Hid (∀ V, NlRow V A L.length cap L → Calls Try.prog 17 #[.int .i64 fam, .slice A L.length cap, .bool true] V fun e w' => e = .returned (.tuple #[.string t, .int .i64 0]) ∧ Below V.heap.size V w') := fun V h => by
              rw [← hg]
              exact putgone_any fam A L.length cap L true V h (by omega)
            have HTK : Hid (takeF s xs = .ok (fam, next, L)) := by
              show _ = _
              rw [hs]
              exact take_back b1 b2 hn HH.out (fun n hn => ⟨hgd n hn, HOKS.out n hn⟩)
            have HTG : Hid (goneF t xs = .ok (fam, L)) := by
              show _ = _
              rw [ht]
              exact gone_back b1 b2 HH.out (fun n hn => ⟨hgd n hn, HOKS.out n hn⟩)
            have hsz : s.size ≤ 1100000 := by
              have h1 := aheadS_size b1 b2 hn
              rw [hs, ByteArray.size_append, encB_size]
              omega
            have htz : t.size ≤ 1100000 := by
              rw [ht, ByteArray.size_append, encB_size, headS_size]
              omega
            clear hp hg b1 b2 hn hgd hs ht he
            go_wp2_with fail
            refine (HP.out _ (HL.out.below HX.out.bl (Nat.le_refl _))).mono ?_
            rintro e w2 ⟨rfl, hb⟩
            have HX2 := Lib.hid (HX.out.below hb)
            clear hb x0 x1 x2 HX HP
            have h0 := HX2.out
            obtain ⟨x0, x1, x2⟩ := h0.c
            clear h0
            go_wp2_with fail
            refine (HG.out _ (HL.out.below HX2.out.bl (Nat.le_refl _))).mono ?_
            rintro e w3 ⟨rfl, hb⟩
            have HX3 := Lib.hid (HX2.out.below hb)
            clear hb x0 x1 x2 HX2 HG
            have h0 := HX3.out
            obtain ⟨x0, x1, x2⟩ := h0.c
            clear h0
            go_wp2_with fail
            refine (take_any s A1 c1 xs _ HX3.out.ints hsz).mono ?_
            rintro e w4 ⟨hb, hm⟩
            have HX4 := Lib.hid (HX3.out.below hb)
            rw [HTK.out] at hm
            obtain ⟨v, rfl, ho⟩ := hm
            obtain ⟨A5, c5, rfl, hrow⟩ := NlOwn.row ho HOKS.out
            have HM5 := Lib.hid hrow
            clear hb ho hrow x0 x1 x2 HX3
            have h0 := HX4.out
            obtain ⟨x0, x1, x2⟩ := h0.c
            clear h0
            go_wp2_with fail
            refine (same8_any A5 A L.length c5 cap L _ HM5.out (HL.out.below HX4.out.bl (Nat.le_refl _))).mono ?_
            rintro e w5 ⟨rfl, q5, hw⟩
            have HX5 := Lib.hid (HX4.out.drewN q5)
            rw [← hw] at HX5
            clear hw x0 x1 x2 HX4
            have h0 := HX5.out
            obtain ⟨x0, x1, x2⟩ := h0.c
            clear h0
            go_wp2_with fail
            refine (takegone_any t A1 c1 xs _ HX5.out.ints htz).mono ?_
            rintro e w7 ⟨hb, hm⟩
            have HX7 := Lib.hid (HX5.out.below hb)
            rw [HTG.out] at hm
            obtain ⟨v, rfl, ho⟩ := hm
            obtain ⟨A7, c7, rfl, hrow⟩ := NlOwn.row ho HOKS.out
            have HM7 := Lib.hid hrow
            clear hb ho hrow x0 x1 x2 HX5
            have h0 := HX7.out
            obtain ⟨x0, x1, x2⟩ := h0.c
            clear h0
            go_wp2_with fail
            refine (same8_any A7 A L.length c7 cap L _ HM7.out (HL.out.below HX7.out.bl (Nat.le_refl _))).mono ?_
            rintro e w8 ⟨rfl, q8, hw⟩
            rw [hw]
            clear hw
            go_wp2_with fail
            go_ret
            exact ⟨rfl, below_drewN HX7.out.bl q8⟩
          · have hz0 : (z == 0) = false := beq_eq_false_iff_ne.2 hz
            have HP : Hid (∀ V, NlRow V A L.length cap L → Calls Try.prog 15 #[.int .i64 fam, .string next, .slice A L.length cap, .bool true] V fun e w' => e = .returned (.tuple #[.string ⟨#[]⟩, .int .i64 z]) ∧ Below V.heap.size V w') := fun V h => by
              rw [← hp]
              exact put_any fam next A L.length cap L true V h (by omega) hnx
            have HG : Hid (∀ V, NlRow V A L.length cap L → Calls Try.prog 17 #[.int .i64 fam, .slice A L.length cap, .bool true] V fun e w' => e = .returned (.tuple #[.string t, .int .i64 0]) ∧ Below V.heap.size V w') := fun V h => by
              rw [← hg]
              exact putgone_any fam A L.length cap L true V h (by omega)
            have HTG : Hid (goneF t xs = .ok (fam, L)) := by
              show _ = _
              rw [ht]
              exact gone_back b1 b2 HH.out (fun n hn => ⟨hgd n hn, HOKS.out n hn⟩)
            have htz : t.size ≤ 1100000 := by
              rw [ht, ByteArray.size_append, encB_size, headS_size]
              omega
            clear hp hg b1 b2 hgd ht he hz
            go_wp2_with fail
            refine (HP.out _ (HL.out.below HX.out.bl (Nat.le_refl _))).mono ?_
            rintro e w2 ⟨rfl, hb⟩
            have HX2 := Lib.hid (HX.out.below hb)
            clear hb x0 x1 x2 HX HP
            have h0 := HX2.out
            obtain ⟨x0, x1, x2⟩ := h0.c
            clear h0
            go_wp2_with fail
            refine (HG.out _ (HL.out.below HX2.out.bl (Nat.le_refl _))).mono ?_
            rintro e w3 ⟨rfl, hb⟩
            have HX3 := Lib.hid (HX2.out.below hb)
            clear hb x0 x1 x2 HX2 HG
            have h0 := HX3.out
            obtain ⟨x0, x1, x2⟩ := h0.c
            clear h0
            go_wp2_with fail
            refine (takegone_any t A1 c1 xs _ HX3.out.ints htz).mono ?_
            rintro e w7 ⟨hb, hm⟩
            have HX7 := Lib.hid (HX3.out.below hb)
            rw [HTG.out] at hm
            obtain ⟨v, rfl, ho⟩ := hm
            obtain ⟨A7, c7, rfl, hrow⟩ := NlOwn.row ho HOKS.out
            have HM7 := Lib.hid hrow
            clear hb ho hrow x0 x1 x2 HX3
            have h0 := HX7.out
            obtain ⟨x0, x1, x2⟩ := h0.c
            clear h0
            go_wp2_with fail
            refine (same8_any A7 A L.length c7 cap L _ HM7.out (HL.out.below HX7.out.bl (Nat.le_refl _))).mono ?_
            rintro e w8 ⟨rfl, q8, hw⟩
            rw [hw]
            clear hw
            go_wp2_with fail
            go_ret
            exact ⟨rfl, below_drewN HX7.out.bl q8⟩
          · have hz0 : (z == 0) = false := beq_eq_false_iff_ne.2 hz
            have hz1 : (z != 0) = true := by rw [bne, hz0]; rfl
            have hy0 : (y == 0) = false := beq_eq_false_iff_ne.2 hy
            have HP : Hid (∀ V, NlRow V A L.length cap L → Calls Try.prog 15 #[.int .i64 fam, .string next, .slice A L.length cap, .bool true] V fun e w' => e = .returned (.tuple #[.string ⟨#[]⟩, .int .i64 z]) ∧ Below V.heap.size V w') := fun V h => by
              rw [← hp]
              exact put_any fam next A L.length cap L true V h (by omega) hnx
            have HG : Hid (∀ V, NlRow V A L.length cap L → Calls Try.prog 17 #[.int .i64 fam, .slice A L.length cap, .bool true] V fun e w' => e = .returned (.tuple #[.string ⟨#[]⟩, .int .i64 y]) ∧ Below V.heap.size V w') := fun V h => by
              rw [← hg]
              exact putgone_any fam A L.length cap L true V h (by omega)
            clear hp hg hz hy
            go_wp2_with fail
            refine (HP.out _ (HL.out.below HX.out.bl (Nat.le_refl _))).mono ?_
            rintro e w2 ⟨rfl, hb⟩
            have HX2 := Lib.hid (HX.out.below hb)
            clear hb x0 x1 x2 HX HP
            have h0 := HX2.out
            obtain ⟨x0, x1, x2⟩ := h0.c
            clear h0
            go_wp2_with fail
            refine (HG.out _ (HL.out.below HX2.out.bl (Nat.le_refl _))).mono ?_
            rintro e w3 ⟨rfl, hb⟩
            have HX3 := Lib.hid (HX2.out.below hb)
            clear hb x0 x1 x2 HX2 HG
            have h0 := HX3.out
            obtain ⟨x0, x1, x2⟩ := h0.c
            clear h0
            go_wp2_with fail
            go_ret
            exact ⟨rfl, HX3.out.bl⟩
      · have h0 := HX.out
        obtain ⟨x0, x1, x2⟩ := h0.c
        clear h0
        have HOKS : Hid (∀ n ∈ L, n.Ok) := HL.out.ok
        rcases back_cases fam next L true with ⟨s, t, hp, hg, b1, b2, hn, hgd, hs, ht, he⟩ | ⟨z, t, hz, hp, hg, b1, b2, hgd, ht, he⟩ | ⟨z, y, hz, hy, hp, hg⟩
        · have HP : Hid (∀ V, NlRow V A L.length cap L → Calls Try.prog 15 #[.int .i64 fam, .string next, .slice A L.length cap, .bool true] V fun e w' => e = .returned (.tuple #[.string s, .int .i64 0]) ∧ Below V.heap.size V w') := fun V h => by
            rw [← hp]
            exact put_any fam next A L.length cap L true V h (by omega) hnx
          have HG : Hid (∀ V, NlRow V A L.length cap L → Calls Try.prog 17 #[.int .i64 fam, .slice A L.length cap, .bool true] V fun e w' => e = .returned (.tuple #[.string t, .int .i64 0]) ∧ Below V.heap.size V w') := fun V h => by
            rw [← hg]
            exact putgone_any fam A L.length cap L true V h (by omega)
          have HTK : Hid (takeF s xs = .ok (fam, next, L)) := by
            show _ = _
            rw [hs]
            exact take_back b1 b2 hn HH.out (fun n hn => ⟨hgd n hn, HOKS.out n hn⟩)
          have HTG : Hid (goneF t xs = .ok (fam, L)) := by
            show _ = _
            rw [ht]
            exact gone_back b1 b2 HH.out (fun n hn => ⟨hgd n hn, HOKS.out n hn⟩)
          have hsz : s.size ≤ 1100000 := by
            have h1 := aheadS_size b1 b2 hn
            rw [hs, ByteArray.size_append, encB_size]
            omega
          have htz : t.size ≤ 1100000 := by
            rw [ht, ByteArray.size_append, encB_size, headS_size]
            omega
          clear hp hg b1 b2 hn hgd hs ht he
          go_wp2_with fail
          refine (HP.out _ (HL.out.below HX.out.bl (Nat.le_refl _))).mono ?_
          rintro e w2 ⟨rfl, hb⟩
          have HX2 := Lib.hid (HX.out.below hb)
          clear hb x0 x1 x2 HX HP
          have h0 := HX2.out
          obtain ⟨x0, x1, x2⟩ := h0.c
          clear h0
          go_wp2_with fail
          refine (HG.out _ (HL.out.below HX2.out.bl (Nat.le_refl _))).mono ?_
          rintro e w3 ⟨rfl, hb⟩
          have HX3 := Lib.hid (HX2.out.below hb)
          clear hb x0 x1 x2 HX2 HG
          have h0 := HX3.out
          obtain ⟨x0, x1, x2⟩ := h0.c
          clear h0
          go_wp2_with fail
          refine (take_any s A1 c1 xs _ HX3.out.ints hsz).mono ?_
          rintro e w4 ⟨hb, hm⟩
          have HX4 := Lib.hid (HX3.out.below hb)
          rw [HTK.out] at hm
          obtain ⟨v, rfl, ho⟩ := hm
          obtain ⟨A5, c5, rfl, hrow⟩ := NlOwn.row ho HOKS.out
          have HM5 := Lib.hid hrow
          clear hb ho hrow x0 x1 x2 HX3
          have h0 := HX4.out
          obtain ⟨x0, x1, x2⟩ := h0.c
          clear h0
          go_wp2_with fail
          refine (same8_any A5 A L.length c5 cap L _ HM5.out (HL.out.below HX4.out.bl (Nat.le_refl _))).mono ?_
          rintro e w5 ⟨rfl, q5, hw⟩
          have HX5 := Lib.hid (HX4.out.drewN q5)
          rw [← hw] at HX5
          clear hw x0 x1 x2 HX4
          have h0 := HX5.out
          obtain ⟨x0, x1, x2⟩ := h0.c
          clear h0
          go_wp2_with fail
          refine (takegone_any t A1 c1 xs _ HX5.out.ints htz).mono ?_
          rintro e w7 ⟨hb, hm⟩
          have HX7 := Lib.hid (HX5.out.below hb)
          rw [HTG.out] at hm
          obtain ⟨v, rfl, ho⟩ := hm
          obtain ⟨A7, c7, rfl, hrow⟩ := NlOwn.row ho HOKS.out
          have HM7 := Lib.hid hrow
          clear hb ho hrow x0 x1 x2 HX5
          have h0 := HX7.out
          obtain ⟨x0, x1, x2⟩ := h0.c
          clear h0
          go_wp2_with fail
          refine (same8_any A7 A L.length c7 cap L _ HM7.out (HL.out.below HX7.out.bl (Nat.le_refl _))).mono ?_
          rintro e w8 ⟨rfl, q8, hw⟩
          rw [hw]
          clear hw
          go_wp2_with fail
          go_ret
          exact ⟨rfl, below_drewN HX7.out.bl q8⟩
        · have hz0 : (z == 0) = false := beq_eq_false_iff_ne.2 hz
          have HP : Hid (∀ V, NlRow V A L.length cap L → Calls Try.prog 15 #[.int .i64 fam, .string next, .slice A L.length cap, .bool true] V fun e w' => e = .returned (.tuple #[.string ⟨#[]⟩, .int .i64 z]) ∧ Below V.heap.size V w') := fun V h => by
            rw [← hp]
            exact put_any fam next A L.length cap L true V h (by omega) hnx
          have HG : Hid (∀ V, NlRow V A L.length cap L → Calls Try.prog 17 #[.int .i64 fam, .slice A L.length cap, .bool true] V fun e w' => e = .returned (.tuple #[.string t, .int .i64 0]) ∧ Below V.heap.size V w') := fun V h => by
            rw [← hg]
            exact putgone_any fam A L.length cap L true V h (by omega)
          have HTG : Hid (goneF t xs = .ok (fam, L)) := by
            show _ = _
            rw [ht]
            exact gone_back b1 b2 HH.out (fun n hn => ⟨hgd n hn, HOKS.out n hn⟩)
          have htz : t.size ≤ 1100000 := by
            rw [ht, ByteArray.size_append, encB_size, headS_size]
            omega
          clear hp hg b1 b2 hgd ht he hz
          go_wp2_with fail
          refine (HP.out _ (HL.out.below HX.out.bl (Nat.le_refl _))).mono ?_
          rintro e w2 ⟨rfl, hb⟩
          have HX2 := Lib.hid (HX.out.below hb)
          clear hb x0 x1 x2 HX HP
          have h0 := HX2.out
          obtain ⟨x0, x1, x2⟩ := h0.c
          clear h0
          go_wp2_with fail
          refine (HG.out _ (HL.out.below HX2.out.bl (Nat.le_refl _))).mono ?_
          rintro e w3 ⟨rfl, hb⟩
          have HX3 := Lib.hid (HX2.out.below hb)
          clear hb x0 x1 x2 HX2 HG
          have h0 := HX3.out
          obtain ⟨x0, x1, x2⟩ := h0.c
          clear h0
          go_wp2_with fail
          refine (takegone_any t A1 c1 xs _ HX3.out.ints htz).mono ?_
          rintro e w7 ⟨hb, hm⟩
          have HX7 := Lib.hid (HX3.out.below hb)
          rw [HTG.out] at hm
          obtain ⟨v, rfl, ho⟩ := hm
          obtain ⟨A7, c7, rfl, hrow⟩ := NlOwn.row ho HOKS.out
          have HM7 := Lib.hid hrow
          clear hb ho hrow x0 x1 x2 HX3
          have h0 := HX7.out
          obtain ⟨x0, x1, x2⟩ := h0.c
          clear h0
          go_wp2_with fail
          refine (same8_any A7 A L.length c7 cap L _ HM7.out (HL.out.below HX7.out.bl (Nat.le_refl _))).mono ?_
          rintro e w8 ⟨rfl, q8, hw⟩
          rw [hw]
          clear hw
          go_wp2_with fail
          go_ret
          exact ⟨rfl, below_drewN HX7.out.bl q8⟩
        · have hz0 : (z == 0) = false := beq_eq_false_iff_ne.2 hz
          have hz1 : (z != 0) = true := by rw [bne, hz0]; rfl
          have hy0 : (y == 0) = false := beq_eq_false_iff_ne.2 hy
          have HP : Hid (∀ V, NlRow V A L.length cap L → Calls Try.prog 15 #[.int .i64 fam, .string next, .slice A L.length cap, .bool true] V fun e w' => e = .returned (.tuple #[.string ⟨#[]⟩, .int .i64 z]) ∧ Below V.heap.size V w') := fun V h => by
            rw [← hp]
            exact put_any fam next A L.length cap L true V h (by omega) hnx
          have HG : Hid (∀ V, NlRow V A L.length cap L → Calls Try.prog 17 #[.int .i64 fam, .slice A L.length cap, .bool true] V fun e w' => e = .returned (.tuple #[.string ⟨#[]⟩, .int .i64 y]) ∧ Below V.heap.size V w') := fun V h => by
            rw [← hg]
            exact putgone_any fam A L.length cap L true V h (by omega)
          clear hp hg hz hy
          go_wp2_with fail
          refine (HP.out _ (HL.out.below HX.out.bl (Nat.le_refl _))).mono ?_
          rintro e w2 ⟨rfl, hb⟩
          have HX2 := Lib.hid (HX.out.below hb)
          clear hb x0 x1 x2 HX HP
          have h0 := HX2.out
          obtain ⟨x0, x1, x2⟩ := h0.c
          clear h0
          go_wp2_with fail
          refine (HG.out _ (HL.out.below HX2.out.bl (Nat.le_refl _))).mono ?_
          rintro e w3 ⟨rfl, hb⟩
          have HX3 := Lib.hid (HX2.out.below hb)
          clear hb x0 x1 x2 HX2 HG
          have h0 := HX3.out
          obtain ⟨x0, x1, x2⟩ := h0.c
          clear h0
          go_wp2_with fail
          go_ret
          exact ⟨rfl, HX3.out.bl⟩

set_option maxRecDepth 100000 in
theorem reachBack_lifted (os : Os) (started : os.Started) (H : Type) (enc : TypeId × Value → H) :
    ReturnsInHanded {} Try.checked os 7 .any (Rows.reachBackSpec.pre6 enc Try.prog Try.f7 Rows.reachBackRow.domain false) (Rows.reachBackSpec.post enc Try.prog Try.f7 false true false false) := by
  refine returnsInHanded_of_change (C := Try.checked) own started (by kernel_rfl) Try.func7
    (ChangeSpec.witness6 (enc := enc) (C := Try.checked) false ⟨#[], #[.agg #[.int .i64 0, .string ⟨#[]⟩, .slice none 0 0], .bool false, .slice none 0 0], []⟩ 8 (by kernel_rfl) (by kernel_rfl) (by kernel_rfl) (by kernel_rfl)) ?_
  intro W base args ds gs before hval0 hW hcnd _
  have hval : ∀ (j : Nat) t v, Try.f7.params[j]? = some t → args[j]? = some v → Value.okWide Try.prog W .any base t v := hval0
  have hW' := hW
  obtain ⟨p, q, hA0, hV, rfl, hfz, hnd⟩ := hW
  have hA : DataW.TrodAll enc Try.prog W 0 (fun _ => true) true Try.f7.params.toList args.toList ds p := hA0
  rw [Try.params7] at hA hval
  obtain ⟨v0, vs0, d0, ds0, p0, q0, hargs, rfl, rfl, h0, r0⟩ := trodAll_cons hA
  obtain ⟨v1, vs1, d1, ds1, p1, q1, rfl, rfl, rfl, h1, r1⟩ := trodAll_cons r0
  obtain ⟨v2, vs2, d2, ds2, p2, q2, rfl, rfl, rfl, h2, r2⟩ := trodAll_cons r1
  obtain ⟨rfl, rfl, rfl⟩ := trodAll_nil r2
  obtain rfl : args = #[v0, v1, v2] := by cases args; simp_all
  obtain ⟨rfl, rfl⟩ := trodVars_none hV
  obtain ⟨fam, next, A, len, cap, rfl, f1, f2, hnx, hE⟩ := open_told (hval 0 31 v0 rfl rfl) h0
  obtain ⟨add, rfl, rfl, rfl⟩ := open_bool Try.underlying4 (hval 1 4 v1 rfl rfl) h1
  obtain ⟨A2, len2, cap2, rfl, hI⟩ := open_ints8 (hval 2 39 v2 rfl rfl) h2
  refine (back_walk fam next A len cap add A2 len2 cap2 W f1 f2 hnx hE hI).mono fun e W' ⟨he, bel⟩ => ?_
  exact ⟨_, he, law_post laidOut (by kernel_rfl) rfl (by kernel_rfl) Try.underlying4 hW' rfl bel⟩

theorem reachBack_holds : Rows.ReachBackSaid :=
  OpenClaim.holds_of_wide 7 Try.f7 rfl rfl rfl rfl rfl rfl rfl ⟨rfl, rfl, rfl, rfl, rfl⟩ rfl rfl rfl rfl rfl (by kernel_rfl) Try.func7 (by kernel_rfl)
    (of_decide_eq_true (by kernel_rfl)) (by unfold Func.isWrapper; first | (rw [if_pos (by decide +kernel)]; kernel_rfl) | (rw [if_neg (by decide +kernel)]; exact ⟨rfl, rfl⟩))
    (fun os started H enc _ => reachBack_lifted os started H enc)
end Go.Proofs.Ytocbacpbckejdaa
