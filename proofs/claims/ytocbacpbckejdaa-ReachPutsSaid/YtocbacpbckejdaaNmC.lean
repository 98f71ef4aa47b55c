/-
  Contracts of heraldref07.one joined, heraldref07.Encode. Conditions: sizes.
-/
import Derived.Test.YtocbacpbckejdaaNmB
set_option linter.unusedVariables false
set_option linter.unusedSimpArgs false
namespace Go.Proofs.Ytocbacpbckejdaa
open Go.RowKit

theorem u8_eq {a b : Nat} (h : a % 256 = b % 256) : UInt8.ofNat a = UInt8.ofNat b := by
  apply UInt8.toNat_inj.1
  simp [h]
theorem beB8 (v : Nat) : beB v 8 8 = beB (v / 4294967296) 4 4 ++ beB (v % 4294967296) 4 4 := by
  have e : beB v 8 8 = [UInt8.ofNat (v / 2 ^ 56), UInt8.ofNat (v / 2 ^ 48), UInt8.ofNat (v / 2 ^ 40), UInt8.ofNat (v / 2 ^ 32), UInt8.ofNat (v / 2 ^ 24), UInt8.ofNat (v / 2 ^ 16), UInt8.ofNat (v / 2 ^ 8), UInt8.ofNat (v / 2 ^ 0)] := rfl
  have e2 : ∀ n, beB n 4 4 = [UInt8.ofNat (n / 2 ^ 24), UInt8.ofNat (n / 2 ^ 16), UInt8.ofNat (n / 2 ^ 8), UInt8.ofNat (n / 2 ^ 0)] := fun n => rfl
  rw [e, e2, e2]
  simp only [List.cons_append, List.nil_append]
  rw [u8_eq (a := v / 2 ^ 56) (b := v / 4294967296 / 2 ^ 24) (by omega), u8_eq (a := v / 2 ^ 48) (b := v / 4294967296 / 2 ^ 16) (by omega), u8_eq (a := v / 2 ^ 40) (b := v / 4294967296 / 2 ^ 8) (by omega), u8_eq (a := v / 2 ^ 32) (b := v / 4294967296 / 2 ^ 0) (by omega),
    u8_eq (a := v / 2 ^ 24) (b := v % 4294967296 / 2 ^ 24) (by omega), u8_eq (a := v / 2 ^ 16) (b := v % 4294967296 / 2 ^ 16) (by omega), u8_eq (a := v / 2 ^ 8) (b := v % 4294967296 / 2 ^ 8) (by omega), u8_eq (a := v / 2 ^ 0) (b := v % 4294967296 / 2 ^ 0) (by omega)]
theorem beB1 (v : Nat) : beB v 1 1 = [UInt8.ofNat v] := by
  have e : beB v 1 1 = [UInt8.ofNat (v / 2 ^ 0)] := rfl
  rw [e, Nat.pow_zero, Nat.div_one]
theorem ext_bts (b : ByteArray) (k : Nat) : b.extract 0 k = bts (b.data.toList.take k) := by
  have h := bts_extract b.data.toList 0 k
  rwa [bts_self, List.drop_zero, Nat.sub_zero] at h
theorem bts_one (x : UInt8) : (⟨#[x]⟩ : ByteArray) = bts [x] := rfl

set_option maxRecDepth 100000 in
theorem rone_any (n : Nl) (hm : nlMay n) (hok : n.Ok) (add : Bool) (w : World) : Calls Try.prog 49 #[n.v, .bool add] w fun e w' => e = .returned (.string (bts (encOne n add))) ∧ Below w.heap.size w w' := by
  obtain ⟨f1, f2, l0, l1, has, hlb⟩ := nlMay_bd hm
  have hah := aheadV_in n.fam
  obtain ⟨r0, r1⟩ := hok.rd
  obtain ⟨i0, i1⟩ := hok.id
  obtain ⟨b0, _⟩ := hok.label
  have l16 : (n.label * 16 + 1).toNat < 16777216 := by omega
  have hor : bits .or .u32 (n.label * 16) 1 = n.label * 16 + 1 := by
    rw [u32_or _ _ (by omega) (by omega) (by omega) (by omega), nat_join 4 _ _ (by omega) (by omega)]
    omega
  have hxx : ∀ a : Int, 0 ≤ a → a ≤ 88 → n.len + a = ((UInt8.ofNat (n.len + a).toNat).toNat : Nat) := fun a h1 h2 => by
    have : (UInt8.ofNat (n.len + a).toNat).toNat = (n.len + a).toNat % 256 := by simp
    omega
  have hq0 : 0 ≤ (n.len + 7) / 8 := by omega
  have hq1 : (n.len + 7) / 8 ≤ (n.addr.size : Int) := by omega
  have ht : ((n.len + 7) / 8).toNat = (n.len.toNat + 7) / 8 := by omega
  have hrd1 : (n.rd / 4294967296).toNat = n.rd.toNat / 4294967296 := by omega
  have hrd2 : (n.rd % 4294967296).toNat = n.rd.toNat % 4294967296 := by omega
  have sz : ∀ (v k : Nat), (bts (beB v k k)).size ≤ k := fun v k => by rw [bts_size, beB_length]; exact Nat.le_refl _
  have hf3 : ∀ u : World, (convert 52 9 (.slice (some ⟨u.heap.size, 0, none⟩) 3 3)).run Try.prog (u.alloc (.cells #[.int .u8 ((n.label * 16 + 1) / 65536), .int .u8 ((n.label * 16 + 1) / 256 % 256), .int .u8 ((n.label * 16 + 1) % 256)] 5)) = .ok (.string (bts (beB (n.label * 16 + 1).toNat 3 3))) (u.alloc (.cells #[.int .u8 ((n.label * 16 + 1) / 65536), .int .u8 ((n.label * 16 + 1) / 256 % 256), .int .u8 ((n.label * 16 + 1) % 256)] 5)) :=
    fun u => conv_bytes u (beB (n.label * 16 + 1).toNat 3 3) _ (beB3 (n.label * 16 + 1) (by omega) (by omega)) 3 (beB_length _ _ _).symm
  have hS : ∀ (lab ap : Bool), labB n.fam = lab → apB n.fam = ap → bts (encOne n add) = bts ((if add then beB n.id.toNat 4 4 else []) ++ [UInt8.ofNat (n.len + aheadV n.fam).toNat] ++ (if lab then beB (n.label * 16 + 1).toNat 3 3 else []) ++ (if ap then beB (n.rd / 4294967296).toNat 4 4 ++ beB (n.rd % 4294967296).toNat 4 4 else []) ++ n.addr.data.toList.take ((n.len + 7) / 8).toNat) := fun lab ap h1 h2 => by
    unfold encOne
    rw [h1, h2, beB1, ht, hrd1, hrd2, ← beB8]
  have fi : ∀ w, Calls Try.prog 67 #[.int .u32 n.id] w fun e w' => e = .returned (.string (bts (beB n.id.toNat 4 4))) ∧ Below w.heap.size w w' := fun w => rfour_any n.id w i0 i1
  have fa : ∀ w, Calls Try.prog 67 #[.int .u32 (n.rd / 4294967296)] w fun e w' => e = .returned (.string (bts (beB (n.rd / 4294967296).toNat 4 4))) ∧ Below w.heap.size w w' := fun w => rfour_any _ w (by omega) (by omega)
  have fb : ∀ w, Calls Try.prog 67 #[.int .u32 (n.rd % 4294967296)] w fun e w' => e = .returned (.string (bts (beB (n.rd % 4294967296).toNat 4 4))) ∧ Below w.heap.size w w' := fun w => rfour_any _ w (by omega) (by omega)
  have hl128 : n.len ≤ 128 := by omega
  show Calls Try.prog 49 #[.agg #[.int .i64 n.fam, .int .u64 n.rd, .string n.addr, .int .i64 n.len, .int .u32 n.id, .int .u32 n.label], .bool add] w _
  have hcl : (n.fam = 1 ∨ n.fam = 2) ∨ n.fam = 3 ∨ (n.fam = 4 ∨ n.fam = 5) := by omega
  rcases hcl with hc | hc | hc
  · have c1 : labB n.fam = false := by unfold labB; exact decide_eq_false (by omega)
    have c2 : apB n.fam = false := by unfold apB; exact decide_eq_false (by omega)
    have c3 : aheadV n.fam = 0 := by rcases hc with h | h <;> rw [h] <;> rfl
    have hS := hS _ _ c1 c2
    rw [c3] at hS
    cases add
    · exact rone_lai n.fam n.rd n.addr n.len n.id n.label w _ _ _ _ _ _ f1 f2 r0 r1 l0 hl128 i0 i1 b0 hlb c1 c2 c3 (hxx 0 (by omega) (by omega)) hq0 hq1 has (sz _ _) (sz _ _) (sz _ _) (sz _ _) fi fa fb hor hf3 (by rw [hS, bts_one, ext_bts, bts_app]; simp)
    · exact rone_laI n.fam n.rd n.addr n.len n.id n.label w _ _ _ _ _ _ f1 f2 r0 r1 l0 hl128 i0 i1 b0 hlb c1 c2 c3 (hxx 0 (by omega) (by omega)) hq0 hq1 has (sz _ _) (sz _ _) (sz _ _) (sz _ _) fi fa fb hor hf3 (by rw [hS, bts_one, ext_bts, bts_app, bts_app]; simp)
  · have c1 : labB n.fam = true := by unfold labB; exact decide_eq_true (by omega)
    have c2 : apB n.fam = false := by unfold apB; exact decide_eq_false (by omega)
    have c3 : aheadV n.fam = 24 := by rw [hc]; rfl
    have hS := hS _ _ c1 c2
    rw [c3] at hS
    cases add
    · exact rone_Lai n.fam n.rd n.addr n.len n.id n.label w _ _ _ _ _ _ f1 f2 r0 r1 l0 hl128 i0 i1 b0 hlb c1 c2 c3 (hxx 24 (by omega) (by omega)) hq0 hq1 has (sz _ _) (sz _ _) (sz _ _) (sz _ _) fi fa fb hor hf3 (by rw [hS, bts_one, ext_bts, bts_app, bts_app]; simp)
    · exact rone_LaI n.fam n.rd n.addr n.len n.id n.label w _ _ _ _ _ _ f1 f2 r0 r1 l0 hl128 i0 i1 b0 hlb c1 c2 c3 (hxx 24 (by omega) (by omega)) hq0 hq1 has (sz _ _) (sz _ _) (sz _ _) (sz _ _) fi fa fb hor hf3 (by rw [hS, bts_one, ext_bts, bts_app, bts_app, bts_app]; simp)
  · have c1 : labB n.fam = true := by unfold labB; exact decide_eq_true (by omega)
    have c2 : apB n.fam = true := by unfold apB; exact decide_eq_true (by omega)
    have c3 : aheadV n.fam = 88 := by rcases hc with h | h <;> rw [h] <;> rfl
    have hS := hS _ _ c1 c2
    rw [c3] at hS
    cases add
    · exact rone_LAi n.fam n.rd n.addr n.len n.id n.label w _ _ _ _ _ _ f1 f2 r0 r1 l0 hl128 i0 i1 b0 hlb c1 c2 c3 (hxx 88 (by omega) (by omega)) hq0 hq1 has (sz _ _) (sz _ _) (sz _ _) (sz _ _) fi fa fb hor hf3 (by rw [hS, bts_one, ext_bts, bts_app, bts_app, bts_app, bts_app]; simp)
    · exact rone_LAI n.fam n.rd n.addr n.len n.id n.label w _ _ _ _ _ _ f1 f2 r0 r1 l0 hl128 i0 i1 b0 hlb c1 c2 c3 (hxx 88 (by omega) (by omega)) hq0 hq1 has (sz _ _) (sz _ _) (sz _ _) (sz _ _) fi fa fb hor hf3 (by rw [hS, bts_one, ext_bts, bts_app, bts_app, bts_app, bts_app, bts_app]; simp)

theorem allGood_take {L : List Nl} {fam : Int} {add : Bool} {k : Nat} {n : Nl} (h : L[k]? = some n) (hp : ∀ m ∈ L.take k, nlGood fam add m) (hn : nlGood fam add n) : ∀ m ∈ L.take (k + 1), nlGood fam add m := fun m hm => by
  obtain ⟨hk, rfl⟩ := List.getElem?_eq_some_iff.1 h
  rw [List.take_succ_eq_append_getElem hk] at hm
  rcases List.mem_append.1 hm with hm | hm
  · exact hp m hm
  · rw [List.mem_singleton.1 hm]; exact hn
set_option maxRecDepth 100000 in
set_option maxHeartbeats 8000000 in
theorem rencode_any (A : Option Addr) (len cap : Nat) (L : List Nl) (fam : Int) (add : Bool) (w : World) (hr : NlRow w A len cap L) (hlen : len ≤ 10000) :
    Calls Try.prog 34 #[.slice A len cap, .int .i64 fam, .bool add] w fun e w' => e = .returned (encR L fam add) ∧ Below w.heap.size w w' := by
  obtain ⟨i0', hi, hz0, hz1, hz2⟩ := info_parts infoU8
  have HR := Lib.hid hr
  have hle := hr.hle
  have hcm : cap ≤ 9223372036854775807 := hr.hcap
  have hll := hr.hlen
  have HSZ := Lib.hid (fun w => rsize_any fam w)
  clear hr
  by_cases hf : famSize fam = 0
  · have hres : Hid (encR L fam add = .tuple #[.string ⟨#[]⟩, .int .i64 2]) := encR_bad (Or.inl hf)
    rw [hf] at HSZ
    clear hf
    go_enter Try.func34, Try.ntmps34
    go_wp2_with fail
    refine (HSZ.out _).mono ?_
    rintro e w1 ⟨rfl, hw⟩
    rw [hw]
    clear hw
    go_wp2_with fail
    go_ret2
    exact ⟨ret_val hres.out.symm, Below.refl _ _⟩
  have hfb : (famSize fam == 0) = false := beq_eq_false_iff_ne.2 hf
  have HBAD : Hid (∀ n ∈ L, ¬ nlGood fam add n → encR L fam add = .tuple #[.string ⟨#[]⟩, .int .i64 2]) := fun n hn hb => encR_bad (Or.inr (fun k => hb (k n hn)))
  have HOKR : Hid ((∀ n ∈ L, nlGood fam add n) → encR L fam add = .tuple #[.string ⟨(encAll L add).toArray⟩, .int .i64 0]) := fun h => encR_ok hf h
  have HOKS : Hid (∀ n ∈ L, n.Ok) := HR.out.ok
  clear hf
  generalize famSize fam = fs at HSZ hfb
  go_enter Try.func34, Try.ntmps34
  go_wp2_with fail
  refine (HSZ.out _).mono ?_
  rintro e w1 ⟨rfl, hw⟩
  rw [hw]
  clear hw
  go_wp2_with fail
  go_loopw [8, 9] (fun o i wr => ∃ k : Nat, k ≤ len ∧ i = .int .i64 k ∧ Hid (OwnM wr w.heap.size 5 1 o (encAll (L.take k) add).length (byteVals (encAll (L.take k) add))) ∧ Hid (Below w.heap.size w wr) ∧ Hid (∀ m ∈ L.take k, nlGood fam add m)) (fun _ i _ => len + 1 - (intOf i).toNat)
  case atStart => exact ⟨0, Nat.zero_le _, rfl, OwnM.nil _ _ _ _, Below.refl _ _, fun m hm => by cases hm⟩
  case round =>
    obtain ⟨k, hk, rfl, HO, HB, HG⟩ := hrel
    by_cases hlt : k < len
    · obtain ⟨n, hn⟩ : ∃ n, L[k]? = some n := ⟨L[k], List.getElem?_eq_getElem (by omega)⟩
      have hmem := List.mem_of_getElem? hn
      have HOK := Lib.hid (HOKS.out n hmem)
      have HBD := Lib.hid (HBAD.out n hmem)
      have HGN := Lib.hid (fun h => allGood_take hn HG.out h)
      have HEN := Lib.hid (encAll_succ hn add)
      obtain ⟨b, off, rfl, hb1, hc1⟩ := (HR.out.below HB.out (Nat.le_refl _)).at_ (by omega)
      have HC1 := Lib.hid (hc1 k n hn)
      have hi0 := HOK.out.id
      have HM := Lib.hid (fun w => r7may_any n HOK.out w)
      have HL8 : Hid ((encAll (L.take k) add).length ≤ 320000) := by
        show _ ≤ _
        have h := encAll_le (L := L.take k) (add := add) (fun n hn => (HG.out n hn).1)
        rw [List.length_take] at h
        omega
      clear hc1 hn hmem HG
      have hc1 := HC1.out
      obtain ⟨x0, x1, x2, x3, x4, x5⟩ := hc1
      by_cases hm : nlMay n
      · rw [decide_eq_true hm] at HM
        by_cases hff : n.fam = fam
        · have e1 : (n.fam == fam) = true := by rw [beq_iff_eq]; exact hff
          have e2 : (n.fam != fam) = false := by rw [bne, e1]; rfl
          by_cases hid : n.id = 0
          · have hg : nlGood fam add n := ⟨hm, hff, Or.inl hid⟩
            have hid2 : ¬ (0 : Int) < n.id := by omega
            clear hid
            have HGN2 := Lib.hid (HGN.out hg)
            have HON := Lib.hid (fun w => rone_any n hm HOK.out add w)
            have HPL : Hid ((encOne n add).length ≤ 32) := encOne_le hm add
            obtain ⟨P, HP⟩ : ∃ P, Hid (P = bts (encOne n add)) := ⟨_, rfl⟩
            rw [← HP.out] at HON
            have HPB : Hid (P.data.toList = encOne n add) := by
              show _ = _
              rw [HP.out, bts_list]
            have HPS : Hid (P.size = (encOne n add).length) := by
              show _ = _
              rw [HP.out, bts_size]
            clear hm hff hg HGN HBD HP
            go_wp2_with fail
            refine (HM.out _).mono ?_
            rintro e w2 ⟨rfl, hb⟩
            have HC2 := Lib.hid (HC1.out.below hb hb1)
            have HO2 : Hid (OwnM w2 w.heap.size 5 1 u8 (encAll (L.take k) add).length (byteVals (encAll (L.take k) add))) := OwnM.below HO.out hb (Nat.le_refl _)
            have HB2 := Lib.hid (HB.out.trans (hb.mono HB.out.size))
            have hb2 : Hid (b < w2.heap.size) := Nat.lt_of_lt_of_le hb1 hb.size
            clear hb HC1 HO HB x0 x1 x2 x3 x4 x5
            have hc1 := HC2.out
            obtain ⟨x0, x1, x2, x3, x4, x5⟩ := hc1
            go_wp2_with fail
            refine (HON.out _).mono ?_
            rintro e w3 ⟨rfl, hb⟩
            have HO3 : Hid (OwnM w3 w.heap.size 5 1 u8 (encAll (L.take k) add).length (byteVals (encAll (L.take k) add))) := OwnM.below HO2.out hb (Nat.le_refl _)
            have HB3 := Lib.hid (HB2.out.trans (hb.mono HB2.out.size))
            clear hb HC2 HO2 HB2 x0 x1 x2 x3 x4 x5
            have hp32 := HPL.out
            have hp33 := HPS.out
            have hl8 := HL8.out
            go_wp2_with (at_builtin; refine wpList_append_m rfl (.tmp 47) (.tmp 53) 52 9 rfl w.heap.size 5 i0' _ 1 1 Try.underlying52 hi hz0 hz1 hz2 rfl (by omega) u8 (encAll (L.take k) add).length _ rfl HO3.out _ P.size (byteVals P.data.toList) rfl (Src.string Try.underlying9) (by unfold maxLen; omega) (by omega) HB3.out.size ?_; intro o' w4 hown hgr hat)
            obtain ⟨A4, c4, rfl⟩ := hown.form
            have HO4 : Hid (OwnM w4 w.heap.size 5 1 (.slice A4 ((encAll (L.take k) add).length + P.size) c4) (encAll (L.take (k + 1)) add).length (byteVals (encAll (L.take (k + 1)) add))) := by
              show OwnM _ _ _ _ _ _ _
              rw [HEN.out, byteVals_append, ← HPB.out, List.length_append, HPB.out, ← HPS.out, ← HPB.out]
              exact hown
            have HB4 : Hid (Below w.heap.size w w4) := OwnM.below_grown HO3.out hgr HB3.out HB3.out.size (Nat.le_refl _)
            clear hown hgr hat HO3 HB3
            go_wp2_with fail
            exact ⟨⟨k + 1, by omega, by go_num, HO4, HB4, HGN2⟩, by simp [intOf]; omega⟩
          · have hid2 : (0 : Int) < n.id := by omega
            cases add with
            | true =>
              have hg : nlGood fam true n := ⟨hm, hff, Or.inr rfl⟩
              clear hid
              have HGN2 := Lib.hid (HGN.out hg)
              have HON := Lib.hid (fun w => rone_any n hm HOK.out true w)
              have HPL : Hid ((encOne n true).length ≤ 32) := encOne_le hm true
              obtain ⟨P, HP⟩ : ∃ P, Hid (P = bts (encOne n true)) := ⟨_, rfl⟩
              rw [← HP.out] at HON
              have HPB : Hid (P.data.toList = encOne n true) := by
                show _ = _
                rw [HP.out, bts_list]
              have HPS : Hid (P.size = (encOne n true).length) := by
                show _ = _
                rw [HP.out, bts_size]
              clear hm hff hg HGN HBD HP
              go_wp2_with fail
              refine (HM.out _).mono ?_
              rintro e w2 ⟨rfl, hb⟩
              have HC2 := Lib.hid (HC1.out.below hb hb1)
              have HO2 : Hid (OwnM w2 w.heap.size 5 1 u8 (encAll (L.take k) true).length (byteVals (encAll (L.take k) true))) := OwnM.below HO.out hb (Nat.le_refl _)
              have HB2 := Lib.hid (HB.out.trans (hb.mono HB.out.size))
              have hb2 : Hid (b < w2.heap.size) := Nat.lt_of_lt_of_le hb1 hb.size
              clear hb HC1 HO HB x0 x1 x2 x3 x4 x5
              have hc1 := HC2.out
              obtain ⟨x0, x1, x2, x3, x4, x5⟩ := hc1
              go_wp2_with fail
              refine (HON.out _).mono ?_
              rintro e w3 ⟨rfl, hb⟩
              have HO3 : Hid (OwnM w3 w.heap.size 5 1 u8 (encAll (L.take k) true).length (byteVals (encAll (L.take k) true))) := OwnM.below HO2.out hb (Nat.le_refl _)
              have HB3 := Lib.hid (HB2.out.trans (hb.mono HB2.out.size))
              clear hb HC2 HO2 HB2 x0 x1 x2 x3 x4 x5
              have hp32 := HPL.out
              have hp33 := HPS.out
              have hl8 := HL8.out
              go_wp2_with (at_builtin; refine wpList_append_m rfl (.tmp 47) (.tmp 53) 52 9 rfl w.heap.size 5 i0' _ 1 1 Try.underlying52 hi hz0 hz1 hz2 rfl (by omega) u8 (encAll (L.take k) true).length _ rfl HO3.out _ P.size (byteVals P.data.toList) rfl (Src.string Try.underlying9) (by unfold maxLen; omega) (by omega) HB3.out.size ?_; intro o' w4 hown hgr hat)
              obtain ⟨A4, c4, rfl⟩ := hown.form
              have HO4 : Hid (OwnM w4 w.heap.size 5 1 (.slice A4 ((encAll (L.take k) true).length + P.size) c4) (encAll (L.take (k + 1)) true).length (byteVals (encAll (L.take (k + 1)) true))) := by
                show OwnM _ _ _ _ _ _ _
                rw [HEN.out, byteVals_append, ← HPB.out, List.length_append, HPB.out, ← HPS.out, ← HPB.out]
                exact hown
              have HB4 : Hid (Below w.heap.size w w4) := OwnM.below_grown HO3.out hgr HB3.out HB3.out.size (Nat.le_refl _)
              clear hown hgr hat HO3 HB3
              go_wp2_with fail
              exact ⟨⟨k + 1, by omega, by go_num, HO4, HB4, HGN2⟩, by simp [intOf]; omega⟩
            | false =>
              have HE := Lib.hid (HBD.out (fun h => h.2.2.elim hid (by decide)))
              clear hm hff hid HGN HBD
              go_wp2_with fail
              refine (HM.out _).mono ?_
              rintro e w2 ⟨rfl, hb⟩
              have HC2 := Lib.hid (HC1.out.below hb hb1)
              have HO2 : Hid (OwnM w2 w.heap.size 5 1 u8 (encAll (L.take k) false).length (byteVals (encAll (L.take k) false))) := OwnM.below HO.out hb (Nat.le_refl _)
              have HB2 := Lib.hid (HB.out.trans (hb.mono HB.out.size))
              have hb2 : Hid (b < w2.heap.size) := Nat.lt_of_lt_of_le hb1 hb.size
              clear hb HC1 HO HB x0 x1 x2 x3 x4 x5
              have hc1 := HC2.out
              obtain ⟨x0, x1, x2, x3, x4, x5⟩ := hc1
              go_wp2_with fail
              go_ret2
              exact ⟨ret_val HE.out.symm, HB2.out⟩
        · have e1 : (n.fam == fam) = false := beq_eq_false_iff_ne.2 hff
          have e2 : (n.fam != fam) = true := by rw [bne, e1]; rfl
          have HE := Lib.hid (HBD.out (fun h => hff h.2.1))
          clear hm hff HGN HBD
          go_wp2_with fail
          refine (HM.out _).mono ?_
          rintro e w2 ⟨rfl, hb⟩
          have HC2 := Lib.hid (HC1.out.below hb hb1)
          have HO2 : Hid (OwnM w2 w.heap.size 5 1 u8 (encAll (L.take k) add).length (byteVals (encAll (L.take k) add))) := OwnM.below HO.out hb (Nat.le_refl _)
          have HB2 := Lib.hid (HB.out.trans (hb.mono HB.out.size))
          have hb2 : Hid (b < w2.heap.size) := Nat.lt_of_lt_of_le hb1 hb.size
          clear hb HC1 HO HB x0 x1 x2 x3 x4 x5
          have hc1 := HC2.out
          obtain ⟨x0, x1, x2, x3, x4, x5⟩ := hc1
          go_wp2_with fail
          go_ret2
          exact ⟨ret_val HE.out.symm, HB2.out⟩
      · rw [decide_eq_false hm] at HM
        have HE := Lib.hid (HBD.out (fun h => hm h.1))
        clear hm HGN HBD
        go_wp2_with fail
        refine (HM.out _).mono ?_
        rintro e w2 ⟨rfl, hb⟩
        have HC2 := Lib.hid (HC1.out.below hb hb1)
        have HO2 : Hid (OwnM w2 w.heap.size 5 1 u8 (encAll (L.take k) add).length (byteVals (encAll (L.take k) add))) := OwnM.below HO.out hb (Nat.le_refl _)
        have HB2 := Lib.hid (HB.out.trans (hb.mono HB.out.size))
        have hb2 : Hid (b < w2.heap.size) := Nat.lt_of_lt_of_le hb1 hb.size
        clear hb HC1 HO HB x0 x1 x2 x3 x4 x5
        have hc1 := HC2.out
        obtain ⟨x0, x1, x2, x3, x4, x5⟩ := hc1
        go_wp2_with fail
        go_ret2
        exact ⟨ret_val HE.out.symm, HB2.out⟩
    · obtain rfl : k = len := by omega
      have htk : L.take k = L := by rw [← hll]; exact List.take_length
      rw [htk] at HO HG
      have hstr := run_string_m (P := Try.prog) wr 52 9 5 _ _ _ (encAll L add) Try.underlying52 Try.underlying5 Try.underlying9 HO.out
      have HE := Lib.hid (HOKR.out HG.out)
      generalize (⟨(encAll L add).toArray⟩ : ByteArray) = S at hstr HE
      go_wp2_with fail
      go_ret2
      exact ⟨ret_val HE.out.symm, HB.out⟩
end Go.Proofs.Ytocbacpbckejdaa
