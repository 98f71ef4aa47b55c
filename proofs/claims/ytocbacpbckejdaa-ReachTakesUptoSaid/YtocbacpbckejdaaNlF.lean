/-
  Contract of nlri.Encode. Conditions: sizes.
-/
import Derived.Test.YtocbacpbckejdaaNlE
import Derived.Deep.QuietTactic
import Derived.BigQuiet
import Derived.LoopTactic
import Derived.StillTailTactics
set_option linter.unusedVariables false
set_option linter.unusedSimpArgs false
namespace Go.Proofs.Ytocbacpbckejdaa
open Go.RowKit

/-- told prefixes in a row -/
structure NlRow (w : World) (A : Option Addr) (len cap : Nat) (L : List Nl) : Prop where
  hlen : L.length = len
  hle : len ≤ cap
  hcap : cap ≤ maxLen
  hnil : A = none → cap = 0
  ok : ∀ n ∈ L, n.Ok
  at_ : 0 < len → ∃ b off, A = some ⟨b, off, none⟩ ∧ b < w.heap.size ∧ ∀ i n, L[i]? = some n → NlAt w b (off + i * 6) n
theorem NlRow.below {w w' : World} {A : Option Addr} {len cap B : Nat} {L : List Nl} (h : NlRow w A len cap L) (hb : Below B w w') (hB : w.heap.size ≤ B) : NlRow w' A len cap L :=
  ⟨h.hlen, h.hle, h.hcap, h.hnil, h.ok, fun hl => by
    obtain ⟨b, off, hA, hlt, hc⟩ := h.at_ hl
    exact ⟨b, off, hA, Nat.lt_of_lt_of_le hlt hb.size, fun i n hi => (hc i n hi).below hb (Nat.lt_of_lt_of_le hlt hB)⟩⟩

/-- a told prefix as bytes -/
def encOne (n : Nl) (add : Bool) : List UInt8 :=
  (if add then beB n.id.toNat 4 4 else []) ++ beB (n.len + aheadV n.fam).toNat 1 1 ++ (if labB n.fam then beB (n.label * 16 + 1).toNat 3 3 else []) ++ (if apB n.fam then beB n.rd.toNat 8 8 else []) ++ n.addr.data.toList.take ((n.len.toNat + 7) / 8)
def encAll (L : List Nl) (add : Bool) : List UInt8 := L.flatMap (encOne · add)
theorem encAll_succ {L : List Nl} {k : Nat} {n : Nl} (h : L[k]? = some n) (add : Bool) : encAll (L.take (k + 1)) add = encAll (L.take k) add ++ encOne n add := by
  obtain ⟨hk, rfl⟩ := List.getElem?_eq_some_iff.1 h
  unfold encAll
  rw [List.take_succ_eq_append_getElem hk, List.flatMap_append]
  simp only [List.flatMap_cons, List.flatMap_nil, List.append_nil]
/-- may it be told of this family, so? -/
def nlGood (fam : Int) (add : Bool) (n : Nl) : Prop := nlMay n ∧ n.fam = fam ∧ (n.id = 0 ∨ add = true)
instance (fam : Int) (add : Bool) (n : Nl) : Decidable (nlGood fam add n) := by unfold nlGood; infer_instance
theorem nlMay_bd {n : Nl} (h : nlMay n) : 1 ≤ n.fam ∧ n.fam ≤ 5 ∧ 0 ≤ n.len ∧ n.len ≤ 8 * n.addr.size ∧ n.addr.size ≤ 16 ∧ n.label ≤ 1048575 := by
  obtain ⟨⟨h1, h2, h3, h4, _, _⟩, h5, _⟩ := h
  have hf := famSize_five h1
  have hin := famSize_in n.fam
  exact ⟨hf.1, hf.2, h3, by omega, by omega, h5⟩
theorem aheadV_in (f : Int) : 0 ≤ aheadV f ∧ aheadV f ≤ 88 := by
  unfold aheadV
  repeat' split
  all_goals omega
theorem encOne_le {n : Nl} (h : nlMay n) (add : Bool) : (encOne n add).length ≤ 32 := by
  have := (nlMay_bd h).2.2.2.2.1
  have e : n.addr.data.toList.length = n.addr.size := by rw [Array.length_toList]; rfl
  unfold encOne
  simp only [List.length_append, List.length_take, e]
  split <;> split <;> split <;> simp [beB_length] <;> omega
theorem encAll_le {L : List Nl} {add : Bool} (h : ∀ n ∈ L, nlMay n) : (encAll L add).length ≤ 32 * L.length := by
  induction L with
  | nil => simp [encAll]
  | cons n r ih =>
    have h1 := encOne_le (h n (by simp)) add
    have h2 := ih (fun m hm => h m (by simp [hm]))
    simp only [encAll, List.flatMap_cons, List.length_append, List.length_cons] at *
    omega
/-- the answer of Encode -/
def encR (L : List Nl) (fam : Int) (add : Bool) : Value :=
  if famSize fam = 0 ∨ ¬ ∀ n ∈ L, nlGood fam add n then .tuple #[.string ⟨#[]⟩, .int .i64 2] else .tuple #[.string ⟨(encAll L add).toArray⟩, .int .i64 0]
theorem encR_bad {L : List Nl} {fam : Int} {add : Bool} (h : famSize fam = 0 ∨ ¬ ∀ n ∈ L, nlGood fam add n) : encR L fam add = .tuple #[.string ⟨#[]⟩, .int .i64 2] := if_pos h
theorem encR_ok {L : List Nl} {fam : Int} {add : Bool} (h1 : famSize fam ≠ 0) (h2 : ∀ n ∈ L, nlGood fam add n) : encR L fam add = .tuple #[.string ⟨(encAll L add).toArray⟩, .int .i64 0] := if_neg (fun h => h.elim h1 (fun k => k h2))

theorem or_one (v : Int) (h0 : 0 ≤ v) (h1 : v ≤ 1048575) : bits .or .u64 (v * 16) 1 = v * 16 + 1 := by
  rw [u64_or _ _ (by omega) (by omega) (by omega) (by omega), nat_join 4 _ _ (by omega) (by omega)]
  omega
theorem fits (x k : Nat) (hk : k ≤ 64) (h : x < 2 ^ k) : Lib.bitLen x ≤ k := Lib.bitLen_le x k hk h

theorem nput_is {z : Int} (g : Nat) (v : Value) (l : List UInt8) (x : Int) (size : Nat) (w : World) (ho : OutAt w g v l) (x0 : 0 ≤ x) (x1 : x < 18446744073709551616) (s0 : 1 ≤ size) (s1 : size ≤ 8) (hfit : Lib.bitLen x.toNat ≤ 8 * size) (hl : l.length ≤ 1000000) (hz : (size : Int) = z) :
    Calls Try.prog 62 #[.int .u64 x, .int .i64 z, .pointer (some ⟨g, 0, none⟩)] w (NPut w g v (l ++ beB x.toNat size size)) := hz ▸ nput_any g v l x size w ho x0 x1 s0 s1 hfit hl

theorem OutAt.drew' {w : World} {g : Nat} {v : Value} {l : List UInt8} (h : OutAt w g v l) (n : Nat) : OutAt (w.drewN n) g v l := ⟨h.cell.drew n, h.own⟩

set_option maxRecDepth 100000 in
set_option maxHeartbeats 80000000 in
theorem encode_any (A : Option Addr) (len cap : Nat) (L : List Nl) (fam : Int) (add : Bool) (w : World) (hr : NlRow w A len cap L) (hlen : len ≤ 10000) :
    Calls Try.prog 46 #[.slice A len cap, .int .i64 fam, .bool add] w fun e w' => e = .returned (encR L fam add) ∧ Below w.heap.size w w' := by
  have HS := Lib.hid (fun w => psize_any fam w)
  by_cases c1 : famSize fam = 0
  · have hres := Lib.hid (encR_bad (L := L) (add := add) (Or.inl c1))
    rw [c1] at HS
    clear c1 hr
    go_enter Try.func46, Try.ntmps46
    go_wp2_with fail
    refine (HS.out _).mono ?_
    rintro e w1 ⟨rfl, rfl⟩
    go_wp2_with fail
    go_ret2
    exact ⟨ret_val hres.out.symm, by go_grown⟩
  have hf := famSize_five c1
  have hA := aheadV_in fam
  have HA := Lib.hid (fun w => nahead_any fam w hf.1 hf.2)
  have HLB := Lib.hid (fun w => nlab_any fam w hf.1 hf.2)
  have HAB := Lib.hid (fun w => nap_any fam w hf.1 hf.2)
  have e0 : (famSize fam == 0) = false := by rw [beq_eq_false_iff_ne]; exact c1
  have hll := hr.hlen
  have hcap := hr.hle
  have hcap2 := hr.hcap
  unfold maxLen at hcap2
  have HR := Lib.hid hr
  have HC1 := Lib.hid c1
  clear hr c1
  go_enter Try.func46, Try.ntmps46
  go_wp2_with fail
  refine (HS.out _).mono ?_
  rintro e w1 ⟨rfl, rfl⟩
  go_wp2_with fail
  have HO0 : Hid (OutAt (w1.alloc (.cells #[.slice none 0 0] 52)) w1.heap.size (.slice none 0 0) []) := ⟨CellsAt.new _ _ _, OwnM.nil _ _ _ _⟩
  have HB0 : Hid (Below w1.heap.size w1 (w1.alloc (.cells #[.slice none 0 0] 52))) := by show Below _ _ _; go_grown
  generalize w1.alloc (.cells #[.slice none 0 0] 52) = W0 at HO0 HB0 ⊢
  go_loopw [19] (fun i wr => ∃ (k : Nat) (v : Value), k ≤ len ∧ i = .int .i64 k ∧ Hid (OutAt wr w1.heap.size v (encAll (L.take k) add)) ∧ Hid (Below w1.heap.size w1 wr) ∧ Hid (∀ n ∈ L.take k, nlGood fam add n)) (fun i _ => len + 1 - (intOf i).toNat)
  case atStart => exact ⟨0, _, by omega, rfl, HO0.out, HB0.out, fun n hn => by simp at hn⟩
  case round =>
    obtain ⟨k, v, hk, rfl, HO, HB, HG⟩ := hrel
    clear HO0 HB0
    by_cases hlt : k < len
    · obtain ⟨n, hn⟩ : ∃ n, L[k]? = some n := ⟨_, List.getElem?_eq_getElem (by omega)⟩
      obtain ⟨b, off, hA2, hbl, hrow⟩ := HR.out.at_ (by omega)
      subst hA2
      have HNA := Lib.hid (hrow k n hn)
      have hok := HR.out.ok n (List.mem_of_getElem? hn)
      have HCK := Lib.hid (fun w => ncheck_any n hok w)
      obtain ⟨k0, k1, k2, k3, k4, k5⟩ := HNA.out.below HB.out hbl
      have HLT := Lib.hid (encAll_le (L := L.take k) (add := add) (fun m hm => (HG.out m hm).1))
      have HN := Lib.hid hn
      have hL : (encAll (L.take k) add).length ≤ 320000 := by have h := HLT.out; rw [List.length_take] at h; omega
      clear hrow hn
      go_wp2_with fail
      have HO2 := Lib.hid ((HO.out.keep (Below.alloc (Below.refl wr.heap.size wr) (Nat.le_refl _) (.cells #[.int .i64 n.fam, .int .u64 n.rd, .string n.addr, .int .i64 n.len, .int .u32 n.id, .int .u32 n.label] 47)) (Nat.le_refl _)).keep (Below.alloc (Below.refl _ _) (Nat.le_refl _) (.cells #[.int .i64 n.fam, .int .u64 n.rd, .string n.addr, .int .i64 n.len] 44)) (Nat.le_refl _))
      have HB2 := Lib.hid ((HB.out.alloc HB.out.size (.cells #[.int .i64 n.fam, .int .u64 n.rd, .string n.addr, .int .i64 n.len, .int .u32 n.id, .int .u32 n.label] 47)).alloc (by have := HB.out.size; simp; omega) (.cells #[.int .i64 n.fam, .int .u64 n.rd, .string n.addr, .int .i64 n.len] 44))
      have HN2 := Lib.hid ((CellsAt.new wr #[.int .i64 n.fam, .int .u64 n.rd, .string n.addr, .int .i64 n.len, .int .u32 n.id, .int .u32 n.label] 47).alloc (.cells #[.int .i64 n.fam, .int .u64 n.rd, .string n.addr, .int .i64 n.len] 44))
      have HP2 : Hid (CellsAt ((wr.alloc (.cells #[.int .i64 n.fam, .int .u64 n.rd, .string n.addr, .int .i64 n.len, .int .u32 n.id, .int .u32 n.label] 47)).alloc (.cells #[.int .i64 n.fam, .int .u64 n.rd, .string n.addr, .int .i64 n.len] 44)) (wr.heap.size + 1) #[.int .i64 n.fam, .int .u64 n.rd, .string n.addr, .int .i64 n.len] 44) := by
        have := CellsAt.new (wr.alloc (.cells #[.int .i64 n.fam, .int .u64 n.rd, .string n.addr, .int .i64 n.len, .int .u32 n.id, .int .u32 n.label] 47)) #[.int .i64 n.fam, .int .u64 n.rd, .string n.addr, .int .i64 n.len] 44
        simp only [World.size_alloc] at this
        exact this
      have hgw : w1.heap.size < wr.heap.size := HO.out.cell.lt
      clear k0 k1 k2 k3 k4 k5
      generalize (wr.alloc (.cells #[.int .i64 n.fam, .int .u64 n.rd, .string n.addr, .int .i64 n.len, .int .u32 n.id, .int .u32 n.label] 47)).alloc (.cells #[.int .i64 n.fam, .int .u64 n.rd, .string n.addr, .int .i64 n.len] 44) = W2 at HO2 HB2 HN2 HP2 ⊢
      by_cases hg : nlGood fam add n
      · obtain ⟨m1, m2, m3, m4, m5, m6⟩ := nlMay_bd hg.1
        have hf2 : n.fam = fam := hg.2.1
        obtain ⟨hi0, hi1⟩ := hok.id
        obtain ⟨hr0, hr1⟩ := hok.rd
        obtain ⟨hl0, _⟩ := hok.label
        have hl1 := m6
        obtain ⟨m, hm⟩ : ∃ m : Nat, m = (n.len.toNat + 7) / 8 := ⟨_, rfl⟩
        have hmle : m ≤ n.addr.size := by omega
        have HWH : Hid (∀ w, Calls Try.prog 58 #[.int .i64 n.len] w fun e w' => e = .returned (.int .i64 (m : Int)) ∧ w' = w) := fun w => by
          have h := whole_any n.len.toNat w (by omega)
          rw [show ((n.len.toNat : Nat) : Int) = n.len by omega, ← hm] at h
          exact h
        have hxd : (n.addr.extract 0 m).data.toList = n.addr.data.toList.take m := by simp
        have hxs : (n.addr.extract 0 m).size = m := by simp [ByteArray.size_extract]; omega
        have HXB : Hid (byteVals (n.addr.extract 0 m).data.toList = byteVals (n.addr.data.toList.take m)) := by show _ = _; rw [hxd]
        have HXS := Lib.hid hxs
        have HXL : Hid ((n.addr.data.toList.take m).length = (n.addr.extract 0 m).size) := by
          show _ = _
          rw [hxs, List.length_take, Array.length_toList]
          show min m n.addr.size = m
          omega
        have hgs : ∀ z ∈ L.take (k + 1), nlGood fam add z := fun z hz => by
          obtain ⟨hk', e⟩ := List.getElem?_eq_some_iff.1 HN.out
          rw [List.take_succ_eq_append_getElem hk'] at hz
          rcases List.mem_append.1 hz with hz | hz
          · exact HG.out z hz
          · rw [List.mem_singleton.1 hz, e]; exact hg
        have HGS := Lib.hid hgs
        have HEQN0 : Hid (encOne n add = (if add then beB n.id.toNat 4 4 else []) ++ beB (n.len + aheadV fam).toNat 1 1 ++ (if labB fam then beB (n.label * 16 + 1).toNat 3 3 else []) ++ (if apB fam then beB n.rd.toNat 8 8 else []) ++ n.addr.data.toList.take m) := by
          show _ = _
          unfold encOne
          rw [hf2, ← hm]
        have ef : (n.fam == fam) = true := by rw [beq_iff_eq]; exact hf2
        have ef' : (n.fam != fam) = false := by rw [bne, ef]; rfl
        have HX9 : ∀ (W9 w10 : World) (u : Value) {q : Value}, Below w1.heap.size w1 W9 → W9.grownBy w10 q.ownBlock → (∀ k, q.ownBlock = some k → w1.heap.size ≤ k) → Below w1.heap.size w1 (w10.setCell ⟨w1.heap.size, 0, none⟩ u) := fun W9 w10 u q h1 h2 h3 => (h1.grown h2 h1.size h3).setCell (Nat.le_refl _) _
        have hid : Hid (n.id = 0 ∨ add = true) := hg.2.2
        have HCK2 : Hid (∀ w, Calls Try.prog 64 #[n.v] w fun e w' => e = .returned (.int .i64 0) ∧ Below w.heap.size w w') := by
          have : nlC n = 0 := if_pos hg.1
          intro w
          rw [← this]
          exact HCK.out w
        clear hxd hxs hgs hg hf2 hm HCK
        refine (HCK2.out _).mono ?_
        rintro e w3 ⟨rfl, hb⟩
        have HO3 := Lib.hid (HO2.out.keep hb (Nat.le_refl _))
        have HB3 := Lib.hid (HB2.out.trans (hb.mono HB2.out.size))
        have HN3 := Lib.hid (HN2.out.below hb HN2.out.lt)
        have HP3 := Lib.hid (HP2.out.below hb HP2.out.lt)
        clear hb HO2 HB2 HN2 HP2 HO HB HCK2
        obtain ⟨i0, hi, hz0, hz1, hz2⟩ := info_parts infoU8
        obtain ⟨p0, p1, p2, p3⟩ := HP3.out.c4
        obtain ⟨q0, q1, q2, q3, q4, q5⟩ := HN3.out.c6
        by_cases hadd : add = true
        · subst hadd
          clear hid
          by_cases hi9 : 0 < n.id
          · have di : decide (0 < n.id) = true := decide_eq_true hi9
            by_cases hfa : fam ≤ 2
            · as_aux_lemma =>
                rw [show labB fam = false from decide_eq_false (by omega)] at HLB HEQN0
                rw [show apB fam = false from decide_eq_false (by omega)] at HAB HEQN0
                clear hfa
                have HEQN := HEQN0
                clear HEQN0
                simp only [if_true, Bool.false_eq_true, if_false, List.nil_append, List.append_nil] at HEQN
                obtain ⟨p0, p1, p2, p3⟩ := HP3.out.c4
                obtain ⟨q0, q1, q2, q3, q4, q5⟩ := HN3.out.c6
                go_wp2_with fail
                refine (nput_is (z := 4) w1.heap.size v (encAll (L.take k) true) (n.id) 4 _ HO3.out (by omega) (by omega) (by omega) (by omega) (fits _ _ (by omega) (by omega)) (by (try simp only [List.length_append, beB_length]); omega) rfl).mono ?_
                rintro e w4 ⟨rfl, v4, ho, hgr⟩
                clear p0 p1 p2 p3 q0 q1 q2 q3 q4 q5
                have HP4 := Lib.hid (HP3.out.grownX hgr (HO3.out.apart HP3.out (by decide) (by omega)))
                have HN4 := Lib.hid (HN3.out.grownX hgr (HO3.out.apart HN3.out (by decide) (by omega)))
                have HB4 := Lib.hid (hgr.below HB3.out HO3.out.ge HB3.out.size)
                have HO4 := Lib.hid ho
                clear ho hgr HP3 HN3 HB3 HO3
                go_wp2_with fail
                have HC13 := Lib.hid (nput_is (z := 1) w1.heap.size v4 (encAll (L.take k) true ++ beB (n.id).toNat 4 4) (n.len + aheadV fam) 1 w4.drew (HO4.out.drew' 1) (by omega) (by omega) (by omega) (by omega) (fits _ _ (by omega) (by omega)) (by (try simp only [List.length_append, beB_length]); omega) rfl)
                have s1 : IntKind.i64.wrap (n.len + aheadV fam) = n.len + aheadV fam := IntWalk.i64_in _ (by omega)
                have s2 : IntKind.u64.wrap (n.len + aheadV fam) = n.len + aheadV fam := IntWalk.u64_in _ (by omega)
                have N13 : w1.heap.size ≠ wr.heap.size + 1 := by clear s1 s2; omega
                refine wp_region_held_drew (S := fun w' => CellsAt w' (wr.heap.size + 1) #[.int .i64 n.fam, .int .u64 n.rd, .string n.addr, .int .i64 n.len] 44) (by kernel_rfl) (HP4.out.drew 1) (fun hHeld => ?_)
                refine wpAnyH_take (i := 0) (oi := { dst := some 49, op := Op.move (Operand.tmp 9), type := 101, pos := "nlri.go:86", after := #[], guard := none }) (v := ?_) rfl (by kernel_rfl) (by kernel_rfl) (by kernel_rfl) (fun _ _ _ h => h) (Or.inl ⟨by rfl, ?_⟩) hHeld ?_
                rotate_left
                · intro w hSw
                  clear hSw
                  go_simp
                  try with_reducible rfl
                try simp only [Act.put, List.setIfInBounds_toArray, List.set_cons_zero, List.set_cons_succ]
                refine wpAnyH_take (i := 1) (oi := { dst := some 50, op := Op.fieldAddr 44 (Operand.tmp 12) 3, type := 0, pos := "nlri.go:86", after := #[], guard := none }) (v := ?_) rfl (by kernel_rfl) (by kernel_rfl) (by kernel_rfl) (fun _ _ _ h => h) (Or.inl ⟨by rfl, ?_⟩) hHeld ?_
                rotate_left
                · intro w hSw
                  clear hSw
                  go_simp
                  try with_reducible rfl
                try simp only [Act.put, List.setIfInBounds_toArray, List.set_cons_zero, List.set_cons_succ]
                refine wpAnyH_take (i := 2) (oi := { dst := some 51, op := Op.load 3 (Operand.tmp 50), type := 3, pos := "nlri.go:86", after := #[{ on := 1, ground := Ground.data }], guard := none }) (v := ?_) rfl (by kernel_rfl) (by kernel_rfl) (by kernel_rfl) (fun _ _ _ h => h) (Or.inl ⟨by rfl, ?_⟩) hHeld ?_
                rotate_left
                · intro w hSw
                  obtain ⟨p0, p1, p2, p3⟩ := CellsAt.c4 hSw
                  go_simp
                  try with_reducible rfl
                try simp only [Act.put, List.setIfInBounds_toArray, List.set_cons_zero, List.set_cons_succ]
                refine wpAnyH_take (i := 3) (oi := { dst := some 52, op := Op.move (Operand.tmp 1), type := 3, pos := "nlri.go:86", after := #[], guard := none }) (v := ?_) rfl (by kernel_rfl) (by kernel_rfl) (by kernel_rfl) (fun _ _ _ h => h) (Or.inl ⟨by rfl, ?_⟩) hHeld ?_
                rotate_left
                · intro w hSw
                  clear hSw
                  go_simp
                  try with_reducible rfl
                try simp only [Act.put, List.setIfInBounds_toArray, List.set_cons_zero, List.set_cons_succ]
                refine wpAnyH_ready (rs := [4]) (by kernel_rfl) (by simp) ?_
                refine AllReadyH.cons (o := { dst := some 53, op := Op.call { callee := Callee.value (Operand.func 55), args := #[Operand.tmp 52], argTypes := #[3] }, type := 3, pos := "nlri.go:86", after := #[{ on := 3, ground := Ground.data }], guard := none }) rfl (fun K hK => ?_) AllReadyH.nil
                go_simp
                refine (HA.out _).mono ?_
                rintro e wa ⟨rfl, rfl⟩
                go_wp2_with fail
                refine hK.out _ _ (hHeld) (fun hHeld => ?_)
                clear hK K
                try simp only [Act.put, List.setIfInBounds_toArray, List.set_cons_zero, List.set_cons_succ]
                refine wpAnyH_take (i := 5) (oi := { dst := some 54, op := Op.binOp BinOp.add 3 (Operand.tmp 51) (Operand.tmp 53) 3, type := 3, pos := "nlri.go:86", after := #[{ on := 2, ground := Ground.data }, { on := 4, ground := Ground.data }], guard := none }) (v := ?_) rfl (by kernel_rfl) (by kernel_rfl) (by kernel_rfl) (fun _ _ _ h => h) (Or.inl ⟨by rfl, ?_⟩) hHeld ?_
                rotate_left
                · intro w hSw
                  clear hSw
                  go_simp
                  try with_reducible rfl
                try simp only [Act.put, List.setIfInBounds_toArray, List.set_cons_zero, List.set_cons_succ]
                refine wpAnyH_take (i := 6) (oi := { dst := some 55, op := Op.convert 3 42 (Operand.tmp 54), type := 42, pos := "nlri.go:86", after := #[{ on := 5, ground := Ground.data }], guard := none }) (v := ?_) rfl (by kernel_rfl) (by kernel_rfl) (by kernel_rfl) (fun _ _ _ h => h) (Or.inl ⟨by rfl, ?_⟩) hHeld ?_
                rotate_left
                · intro w hSw
                  clear hSw
                  go_simp
                  try with_reducible rfl
                try simp only [Act.put, List.setIfInBounds_toArray, List.set_cons_zero, List.set_cons_succ]
                refine wpAnyH_ready (rs := [7]) (by kernel_rfl) (by simp) ?_
                refine AllReadyH.cons (o := { dst := some 56, op := Op.call { callee := Callee.value (Operand.tmp 49), args := #[Operand.tmp 55, Operand.const (Value.int IntKind.i64 1)], argTypes := #[42, 3] }, type := 0, pos := "nlri.go:86", after := #[{ on := 0, ground := Ground.data }, { on := 6, ground := Ground.data }, { on := 4, ground := Ground.chain }], guard := none }) rfl (fun K hK => ?_) AllReadyH.nil
                go_simp
                refine HC13.out.mono ?_
                rintro e w5 ⟨rfl, v5, ho, hgr⟩
                go_wp2_with fail
                refine hK.out _ _ (CellsAt.grownX hHeld hgr ((HO4.out.drew' 1).apart hHeld (by decide) N13.symm)) (fun hHeld => ?_)
                clear hK K
                try simp only [Act.put, List.setIfInBounds_toArray, List.set_cons_zero, List.set_cons_succ]
                refine wpAnyH_done (by kernel_rfl) ?_ _
                clear s1 s2 HC13 N13
                have hp := hHeld
                clear hHeld
                have HP5 := Lib.hid hp
                have HN5 := Lib.hid ((HN4.out.drew 1).grownX hgr ((HO4.out.drew' 1).apart (HN4.out.drew 1) (by decide) (by omega)))
                have HB5 := Lib.hid (hgr.below (below_drewN HB4.out 1) (HO4.out.drew' 1).ge HB4.out.size)
                have HO5 := Lib.hid ho
                clear ho hgr hp HP4 HN4 HB4 HO4
                go_wp2_with fail
                refine (HLB.out _).mono ?_
                rintro e wa ⟨rfl, hwa⟩
                have hwa := hwa.symm
                subst hwa
                go_wp2_with fail
                refine (HAB.out _).mono ?_
                rintro e wa ⟨rfl, hwa⟩
                have hwa := hwa.symm
                subst hwa
                go_wp2_with fail
                have HO5d := Lib.hid (HO5.out.drew' 1)
                obtain ⟨p0, p1, p2, p3⟩ := HP5.out.c4
                obtain ⟨c0, f0⟩ := HO5.out.cell.one
                go_still_tail 7, (by kernel_rfl)
                still_call (HWH.out _)
                repeat still_step
                refine wpStill_nil ?_
                change wpList _ _ _ _ _ w5.drew
                clear p0 p1 p2 p3 c0 f0
                have HB5d : Hid (Below w1.heap.size w1 w5.drew) := below_drewN HB5.out 1
                have HO5e : Hid (OutAt w5.drew w1.heap.size v5 (encAll (L.take k) true ++ beB (n.id).toNat 4 4 ++ beB (n.len + aheadV fam).toNat 1 1)) := HO5d.out
                clear HO5d HO5 HB5 HP5 HN5
                generalize w5.drew = W9 at HB5d HO5e ⊢
                obtain ⟨l9, hl9⟩ : ∃ l9 : List UInt8, l9 = encAll (L.take k) true ++ beB (n.id).toNat 4 4 ++ beB (n.len + aheadV fam).toNat 1 1 := ⟨_, rfl⟩
                have hl9L : l9.length ≤ 330000 := by rw [hl9]; (try simp only [List.length_append, beB_length]); omega
                have hfin : encAll (L.take (k + 1)) true = l9 ++ n.addr.data.toList.take m := by
                  rw [hl9, encAll_succ HN.out true, HEQN.out]
                  simp [List.append_assoc]
                rw [← hl9] at HO5e
                have HFIN := Lib.hid hfin
                clear hl9 hfin
                generalize n.addr.extract 0 m = X at HXB HXS HXL ⊢
                have hXle : X.size ≤ 16 := by rw [HXS.out]; omega
                have hbz := HB5d.out.size
                have hclt := HO5e.out.cell.lt
                go_wp2_with (at_builtin; refine wpList_append_m rfl (.tmp 72) (.tmp 78) 52 9 rfl (w1.heap.size + 1) 5 i0 _ 1 1 Try.underlying52 hi hz0 hz1 hz2 rfl ?h1xa1 v5 l9.length _ rfl HO5e.out.own _ X.size (byteVals X.data.toList) rfl ?h1xa2 ?h1xa3 ?h1xa4 ?h1xa5 ?h1xa6)
                case h1xa2 => exact Src.string Try.underlying9
                case h1xa1 => omega
                case h1xa3 => (unfold maxLen; omega)
                case h1xa4 => omega
                case h1xa5 => omega
                intro v' w10 hown hgr hat
                obtain ⟨A', c', rfl⟩ := hown.form
                have hng : v5.ownBlock ≠ some w1.heap.size := fun e => by have := (HO5e.out.own.lt _ e).1; omega
                have hc2 : CellsAt w10 w1.heap.size #[v5] 52 := (hgr.block _ HO5e.out.cell.lt (fun e => hng e.symm)).trans HO5e.out.cell
                have HOWN := Lib.hid hown
                have HG2 := Lib.hid hgr
                have HC2 := Lib.hid hc2
                clear hown hgr hc2 hat
                obtain ⟨c0, f0⟩ := HC2.out.one
                go_wp2_with fail
                have hown' := HOWN.out.setCell (p := ⟨w1.heap.size, 0, none⟩) (fun q hq e => by have h1 := (HOWN.out.lt q hq).1; have e2 : q = w1.heap.size := e; omega) (.slice A' (l9.length + X.size) c')
                have hcell' := HC2.out.set (.slice A' (l9.length + X.size) c')
                have hlen' : l9.length + X.size = (encAll (L.take (k + 1)) true).length := by rw [HFIN.out, List.length_append, HXL.out]
                rw [HXB.out, ← byteVals_append, ← HFIN.out] at hown'
                rw [hlen'] at hown' hcell' ⊢
                exact ⟨⟨k + 1, _, by omega, by go_num, ⟨hcell', hown'⟩, HX9 _ _ _ HB5d.out HG2.out (fun q hq => by have := (HO5e.out.own.lt q hq).1; omega), HGS.out⟩, by simp [intOf]; omega⟩
            · by_cases hfb : fam = 3
              · as_aux_lemma =>
                  rw [show labB fam = true from decide_eq_true (by omega)] at HLB HEQN0
                  rw [show apB fam = false from decide_eq_false (by omega)] at HAB HEQN0
                  clear hfa hfb
                  have HEQN := HEQN0
                  clear HEQN0
                  simp only [if_true, Bool.false_eq_true, if_false, List.nil_append, List.append_nil] at HEQN
                  obtain ⟨p0, p1, p2, p3⟩ := HP3.out.c4
                  obtain ⟨q0, q1, q2, q3, q4, q5⟩ := HN3.out.c6
                  go_wp2_with fail
                  refine (nput_is (z := 4) w1.heap.size v (encAll (L.take k) true) (n.id) 4 _ HO3.out (by omega) (by omega) (by omega) (by omega) (fits _ _ (by omega) (by omega)) (by (try simp only [List.length_append, beB_length]); omega) rfl).mono ?_
                  rintro e w4 ⟨rfl, v4, ho, hgr⟩
                  clear p0 p1 p2 p3 q0 q1 q2 q3 q4 q5
                  have HP4 := Lib.hid (HP3.out.grownX hgr (HO3.out.apart HP3.out (by decide) (by omega)))
                  have HN4 := Lib.hid (HN3.out.grownX hgr (HO3.out.apart HN3.out (by decide) (by omega)))
                  have HB4 := Lib.hid (hgr.below HB3.out HO3.out.ge HB3.out.size)
                  have HO4 := Lib.hid ho
                  clear ho hgr HP3 HN3 HB3 HO3
                  go_wp2_with fail
                  have HC13 := Lib.hid (nput_is (z := 1) w1.heap.size v4 (encAll (L.take k) true ++ beB (n.id).toNat 4 4) (n.len + aheadV fam) 1 w4.drew (HO4.out.drew' 1) (by omega) (by omega) (by omega) (by omega) (fits _ _ (by omega) (by omega)) (by (try simp only [List.length_append, beB_length]); omega) rfl)
                  have s1 : IntKind.i64.wrap (n.len + aheadV fam) = n.len + aheadV fam := IntWalk.i64_in _ (by omega)
                  have s2 : IntKind.u64.wrap (n.len + aheadV fam) = n.len + aheadV fam := IntWalk.u64_in _ (by omega)
                  have N13 : w1.heap.size ≠ wr.heap.size + 1 := by clear s1 s2; omega
                  refine wp_region_held_drew (S := fun w' => CellsAt w' (wr.heap.size + 1) #[.int .i64 n.fam, .int .u64 n.rd, .string n.addr, .int .i64 n.len] 44) (by kernel_rfl) (HP4.out.drew 1) (fun hHeld => ?_)
                  refine wpAnyH_take (i := 0) (oi := { dst := some 49, op := Op.move (Operand.tmp 9), type := 101, pos := "nlri.go:86", after := #[], guard := none }) (v := ?_) rfl (by kernel_rfl) (by kernel_rfl) (by kernel_rfl) (fun _ _ _ h => h) (Or.inl ⟨by rfl, ?_⟩) hHeld ?_
                  rotate_left
                  · intro w hSw
                    clear hSw
                    go_simp
                    try with_reducible rfl
                  try simp only [Act.put, List.setIfInBounds_toArray, List.set_cons_zero, List.set_cons_succ]
                  refine wpAnyH_take (i := 1) (oi := { dst := some 50, op := Op.fieldAddr 44 (Operand.tmp 12) 3, type := 0, pos := "nlri.go:86", after := #[], guard := none }) (v := ?_) rfl (by kernel_rfl) (by kernel_rfl) (by kernel_rfl) (fun _ _ _ h => h) (Or.inl ⟨by rfl, ?_⟩) hHeld ?_
                  rotate_left
                  · intro w hSw
                    clear hSw
                    go_simp
                    try with_reducible rfl
                  try simp only [Act.put, List.setIfInBounds_toArray, List.set_cons_zero, List.set_cons_succ]
                  refine wpAnyH_take (i := 2) (oi := { dst := some 51, op := Op.load 3 (Operand.tmp 50), type := 3, pos := "nlri.go:86", after := #[{ on := 1, ground := Ground.data }], guard := none }) (v := ?_) rfl (by kernel_rfl) (by kernel_rfl) (by kernel_rfl) (fun _ _ _ h => h) (Or.inl ⟨by rfl, ?_⟩) hHeld ?_
                  rotate_left
                  · intro w hSw
                    obtain ⟨p0, p1, p2, p3⟩ := CellsAt.c4 hSw
                    go_simp
                    try with_reducible rfl
                  try simp only [Act.put, List.setIfInBounds_toArray, List.set_cons_zero, List.set_cons_succ]
                  refine wpAnyH_take (i := 3) (oi := { dst := some 52, op := Op.move (Operand.tmp 1), type := 3, pos := "nlri.go:86", after := #[], guard := none }) (v := ?_) rfl (by kernel_rfl) (by kernel_rfl) (by kernel_rfl) (fun _ _ _ h => h) (Or.inl ⟨by rfl, ?_⟩) hHeld ?_
                  rotate_left
                  · intro w hSw
                    clear hSw
                    go_simp
                    try with_reducible rfl
                  try simp only [Act.put, List.setIfInBounds_toArray, List.set_cons_zero, List.set_cons_succ]
                  refine wpAnyH_ready (rs := [4]) (by kernel_rfl) (by simp) ?_
                  refine AllReadyH.cons (o := { dst := some 53, op := Op.call { callee := Callee.value (Operand.func 55), args := #[Operand.tmp 52], argTypes := #[3] }, type := 3, pos := "nlri.go:86", after := #[{ on := 3, ground := Ground.data }], guard := none }) rfl (fun K hK => ?_) AllReadyH.nil
                  go_simp
                  refine (HA.out _).mono ?_
                  rintro e wa ⟨rfl, rfl⟩
                  go_wp2_with fail
                  refine hK.out _ _ (hHeld) (fun hHeld => ?_)
                  clear hK K
                  try simp only [Act.put, List.setIfInBounds_toArray, List.set_cons_zero, List.set_cons_succ]
                  refine wpAnyH_take (i := 5) (oi := { dst := some 54, op := Op.binOp BinOp.add 3 (Operand.tmp 51) (Operand.tmp 53) 3, type := 3, pos := "nlri.go:86", after := #[{ on := 2, ground := Ground.data }, { on := 4, ground := Ground.data }], guard := none }) (v := ?_) rfl (by kernel_rfl) (by kernel_rfl) (by kernel_rfl) (fun _ _ _ h => h) (Or.inl ⟨by rfl, ?_⟩) hHeld ?_
                  rotate_left
                  · intro w hSw
                    clear hSw
                    go_simp
                    try with_reducible rfl
                  try simp only [Act.put, List.setIfInBounds_toArray, List.set_cons_zero, List.set_cons_succ]
                  refine wpAnyH_take (i := 6) (oi := { dst := some 55, op := Op.convert 3 42 (Operand.tmp 54), type := 42, pos := "nlri.go:86", after := #[{ on := 5, ground := Ground.data }], guard := none }) (v := ?_) rfl (by kernel_rfl) (by kernel_rfl) (by kernel_rfl) (fun _ _ _ h => h) (Or.inl ⟨by rfl, ?_⟩) hHeld ?_
                  rotate_left
                  · intro w hSw
                    clear hSw
                    go_simp
                    try with_reducible rfl
                  try simp only [Act.put, List.setIfInBounds_toArray, List.set_cons_zero, List.set_cons_succ]
                  refine wpAnyH_ready (rs := [7]) (by kernel_rfl) (by simp) ?_
                  refine AllReadyH.cons (o := { dst := some 56, op := Op.call { callee := Callee.value (Operand.tmp 49), args := #[Operand.tmp 55, Operand.const (Value.int IntKind.i64 1)], argTypes := #[42, 3] }, type := 0, pos := "nlri.go:86", after := #[{ on := 0, ground := Ground.data }, { on := 6, ground := Ground.data }, { on := 4, ground := Ground.chain }], guard := none }) rfl (fun K hK => ?_) AllReadyH.nil
                  go_simp
                  refine HC13.out.mono ?_
                  rintro e w5 ⟨rfl, v5, ho, hgr⟩
                  go_wp2_with fail
                  refine hK.out _ _ (CellsAt.grownX hHeld hgr ((HO4.out.drew' 1).apart hHeld (by decide) N13.symm)) (fun hHeld => ?_)
                  clear hK K
                  try simp only [Act.put, List.setIfInBounds_toArray, List.set_cons_zero, List.set_cons_succ]
                  refine wpAnyH_done (by kernel_rfl) ?_ _
                  clear s1 s2 HC13 N13
                  have hp := hHeld
                  clear hHeld
                  have HP5 := Lib.hid hp
                  have HN5 := Lib.hid ((HN4.out.drew 1).grownX hgr ((HO4.out.drew' 1).apart (HN4.out.drew 1) (by decide) (by omega)))
                  have HB5 := Lib.hid (hgr.below (below_drewN HB4.out 1) (HO4.out.drew' 1).ge HB4.out.size)
                  have HO5 := Lib.hid ho
                  clear ho hgr hp HP4 HN4 HB4 HO4
                  go_wp2_with fail
                  refine (HLB.out _).mono ?_
                  rintro e wa ⟨rfl, hwa⟩
                  have hwa := hwa.symm
                  subst hwa
                  obtain ⟨p0, p1, p2, p3⟩ := HP5.out.c4
                  obtain ⟨q0, q1, q2, q3, q4, q5⟩ := HN5.out.c6
                  go_wp2_with fail
                  try rw [or_one n.label hl0 hl1]
                  refine (nput_is (z := 3) w1.heap.size v5 (encAll (L.take k) true ++ beB (n.id).toNat 4 4 ++ beB (n.len + aheadV fam).toNat 1 1) (n.label * 16 + 1) 3 _ HO5.out (by omega) (by omega) (by omega) (by omega) (fits _ _ (by omega) (by omega)) (by (try simp only [List.length_append, beB_length]); omega) rfl).mono ?_
                  rintro e w6 ⟨rfl, v6, ho, hgr⟩
                  clear p0 p1 p2 p3 q0 q1 q2 q3 q4 q5
                  have HP6 := Lib.hid (HP5.out.grownX hgr (HO5.out.apart HP5.out (by decide) (by omega)))
                  have HN6 := Lib.hid (HN5.out.grownX hgr (HO5.out.apart HN5.out (by decide) (by omega)))
                  have HB6 := Lib.hid (hgr.below HB5.out HO5.out.ge HB5.out.size)
                  have HO6 := Lib.hid ho
                  clear ho hgr HP5 HN5 HB5 HO5
                  go_wp2_with fail
                  refine (HAB.out _).mono ?_
                  rintro e wa ⟨rfl, hwa⟩
                  have hwa := hwa.symm
                  subst hwa
                  go_wp2_with fail
                  have HO6d := Lib.hid (HO6.out.drew' 1)
                  obtain ⟨p0, p1, p2, p3⟩ := HP6.out.c4
                  obtain ⟨c0, f0⟩ := HO6.out.cell.one
                  go_still_tail 7, (by kernel_rfl)
                  still_call (HWH.out _)
                  repeat still_step
                  refine wpStill_nil ?_
                  change wpList _ _ _ _ _ w6.drew
                  clear p0 p1 p2 p3 c0 f0
                  have HB6d : Hid (Below w1.heap.size w1 w6.drew) := below_drewN HB6.out 1
                  have HO6e : Hid (OutAt w6.drew w1.heap.size v6 (encAll (L.take k) true ++ beB (n.id).toNat 4 4 ++ beB (n.len + aheadV fam).toNat 1 1 ++ beB (n.label * 16 + 1).toNat 3 3)) := HO6d.out
                  clear HO6d HO6 HB6 HP6 HN6
                  generalize w6.drew = W9 at HB6d HO6e ⊢
                  obtain ⟨l9, hl9⟩ : ∃ l9 : List UInt8, l9 = encAll (L.take k) true ++ beB (n.id).toNat 4 4 ++ beB (n.len + aheadV fam).toNat 1 1 ++ beB (n.label * 16 + 1).toNat 3 3 := ⟨_, rfl⟩
                  have hl9L : l9.length ≤ 330000 := by rw [hl9]; (try simp only [List.length_append, beB_length]); omega
                  have hfin : encAll (L.take (k + 1)) true = l9 ++ n.addr.data.toList.take m := by
                    rw [hl9, encAll_succ HN.out true, HEQN.out]
                    simp [List.append_assoc]
                  rw [← hl9] at HO6e
                  have HFIN := Lib.hid hfin
                  clear hl9 hfin
                  generalize n.addr.extract 0 m = X at HXB HXS HXL ⊢
                  have hXle : X.size ≤ 16 := by rw [HXS.out]; omega
                  have hbz := HB6d.out.size
                  have hclt := HO6e.out.cell.lt
                  go_wp2_with (at_builtin; refine wpList_append_m rfl (.tmp 72) (.tmp 78) 52 9 rfl (w1.heap.size + 1) 5 i0 _ 1 1 Try.underlying52 hi hz0 hz1 hz2 rfl ?h2xa1 v6 l9.length _ rfl HO6e.out.own _ X.size (byteVals X.data.toList) rfl ?h2xa2 ?h2xa3 ?h2xa4 ?h2xa5 ?h2xa6)
                  case h2xa2 => exact Src.string Try.underlying9
                  case h2xa1 => omega
                  case h2xa3 => (unfold maxLen; omega)
                  case h2xa4 => omega
                  case h2xa5 => omega
                  intro v' w10 hown hgr hat
                  obtain ⟨A', c', rfl⟩ := hown.form
                  have hng : v6.ownBlock ≠ some w1.heap.size := fun e => by have := (HO6e.out.own.lt _ e).1; omega
                  have hc2 : CellsAt w10 w1.heap.size #[v6] 52 := (hgr.block _ HO6e.out.cell.lt (fun e => hng e.symm)).trans HO6e.out.cell
                  have HOWN := Lib.hid hown
                  have HG2 := Lib.hid hgr
                  have HC2 := Lib.hid hc2
                  clear hown hgr hc2 hat
                  obtain ⟨c0, f0⟩ := HC2.out.one
                  go_wp2_with fail
                  have hown' := HOWN.out.setCell (p := ⟨w1.heap.size, 0, none⟩) (fun q hq e => by have h1 := (HOWN.out.lt q hq).1; have e2 : q = w1.heap.size := e; omega) (.slice A' (l9.length + X.size) c')
                  have hcell' := HC2.out.set (.slice A' (l9.length + X.size) c')
                  have hlen' : l9.length + X.size = (encAll (L.take (k + 1)) true).length := by rw [HFIN.out, List.length_append, HXL.out]
                  rw [HXB.out, ← byteVals_append, ← HFIN.out] at hown'
                  rw [hlen'] at hown' hcell' ⊢
                  exact ⟨⟨k + 1, _, by omega, by go_num, ⟨hcell', hown'⟩, HX9 _ _ _ HB6d.out HG2.out (fun q hq => by have := (HO6e.out.own.lt q hq).1; omega), HGS.out⟩, by simp [intOf]; omega⟩
              · as_aux_lemma =>
                  rw [show labB fam = true from decide_eq_true (by omega)] at HLB HEQN0
                  rw [show apB fam = true from decide_eq_true (by omega)] at HAB HEQN0
                  clear hfa hfb
                  have HEQN := HEQN0
                  clear HEQN0
                  simp only [if_true, Bool.false_eq_true, if_false, List.nil_append, List.append_nil] at HEQN
                  obtain ⟨p0, p1, p2, p3⟩ := HP3.out.c4
                  obtain ⟨q0, q1, q2, q3, q4, q5⟩ := HN3.out.c6
                  go_wp2_with fail
                  refine (nput_is (z := 4) w1.heap.size v (encAll (L.take k) true) (n.id) 4 _ HO3.out (by omega) (by omega) (by omega) (by omega) (fits _ _ (by omega) (by omega)) (by (try simp only [List.length_append, beB_length]); omega) rfl).mono ?_
                  rintro e w4 ⟨rfl, v4, ho, hgr⟩
                  clear p0 p1 p2 p3 q0 q1 q2 q3 q4 q5
                  have HP4 := Lib.hid (HP3.out.grownX hgr (HO3.out.apart HP3.out (by decide) (by omega)))
                  have HN4 := Lib.hid (HN3.out.grownX hgr (HO3.out.apart HN3.out (by decide) (by omega)))
                  have HB4 := Lib.hid (hgr.below HB3.out HO3.out.ge HB3.out.size)
                  have HO4 := Lib.hid ho
                  clear ho hgr HP3 HN3 HB3 HO3
                  go_wp2_with fail
                  have HC13 := Lib.hid (nput_is (z := 1) w1.heap.size v4 (encAll (L.take k) true ++ beB (n.id).toNat 4 4) (n.len + aheadV fam) 1 w4.drew (HO4.out.drew' 1) (by omega) (by omega) (by omega) (by omega) (fits _ _ (by omega) (by omega)) (by (try simp only [List.length_append, beB_length]); omega) rfl)
                  have s1 : IntKind.i64.wrap (n.len + aheadV fam) = n.len + aheadV fam := IntWalk.i64_in _ (by omega)
                  have s2 : IntKind.u64.wrap (n.len + aheadV fam) = n.len + aheadV fam := IntWalk.u64_in _ (by omega)
                  have N13 : w1.heap.size ≠ wr.heap.size + 1 := by clear s1 s2; omega
                  refine wp_region_held_drew (S := fun w' => CellsAt w' (wr.heap.size + 1) #[.int .i64 n.fam, .int .u64 n.rd, .string n.addr, .int .i64 n.len] 44) (by kernel_rfl) (HP4.out.drew 1) (fun hHeld => ?_)
                  refine wpAnyH_take (i := 0) (oi := { dst := some 49, op := Op.move (Operand.tmp 9), type := 101, pos := "nlri.go:86", after := #[], guard := none }) (v := ?_) rfl (by kernel_rfl) (by kernel_rfl) (by kernel_rfl) (fun _ _ _ h => h) (Or.inl ⟨by rfl, ?_⟩) hHeld ?_
                  rotate_left
                  · intro w hSw
                    clear hSw
                    go_simp
                    try with_reducible rfl
                  try simp only [Act.put, List.setIfInBounds_toArray, List.set_cons_zero, List.set_cons_succ]
                  refine wpAnyH_take (i := 1) (oi := { dst := some 50, op := Op.fieldAddr 44 (Operand.tmp 12) 3, type := 0, pos := "nlri.go:86", after := #[], guard := none }) (v := ?_) rfl (by kernel_rfl) (by kernel_rfl) (by kernel_rfl) (fun _ _ _ h => h) (Or.inl ⟨by rfl, ?_⟩) hHeld ?_
                  rotate_left
                  · intro w hSw
                    clear hSw
                    go_simp
                    try with_reducible rfl
                  try simp only [Act.put, List.setIfInBounds_toArray, List.set_cons_zero, List.set_cons_succ]
                  refine wpAnyH_take (i := 2) (oi := { dst := some 51, op := Op.load 3 (Operand.tmp 50), type := 3, pos := "nlri.go:86", after := #[{ on := 1, ground := Ground.data }], guard := none }) (v := ?_) rfl (by kernel_rfl) (by kernel_rfl) (by kernel_rfl) (fun _ _ _ h => h) (Or.inl ⟨by rfl, ?_⟩) hHeld ?_
                  rotate_left
                  · intro w hSw
                    obtain ⟨p0, p1, p2, p3⟩ := CellsAt.c4 hSw
                    go_simp
                    try with_reducible rfl
                  try simp only [Act.put, List.setIfInBounds_toArray, List.set_cons_zero, List.set_cons_succ]
                  refine wpAnyH_take (i := 3) (oi := { dst := some 52, op := Op.move (Operand.tmp 1), type := 3, pos := "nlri.go:86", after := #[], guard := none }) (v := ?_) rfl (by kernel_rfl) (by kernel_rfl) (by kernel_rfl) (fun _ _ _ h => h) (Or.inl ⟨by rfl, ?_⟩) hHeld ?_
                  rotate_left
                  · intro w hSw
                    clear hSw
                    go_simp
                    try with_reducible rfl
                  try simp only [Act.put, List.setIfInBounds_toArray, List.set_cons_zero, List.set_cons_succ]
                  refine wpAnyH_ready (rs := [4]) (by kernel_rfl) (by simp) ?_
                  refine AllReadyH.cons (o := { dst := some 53, op := Op.call { callee := Callee.value (Operand.func 55), args := #[Operand.tmp 52], argTypes := #[3] }, type := 3, pos := "nlri.go:86", after := #[{ on := 3, ground := Ground.data }], guard := none }) rfl (fun K hK => ?_) AllReadyH.nil
                  go_simp
                  refine (HA.out _).mono ?_
                  rintro e wa ⟨rfl, rfl⟩
                  go_wp2_with fail
                  refine hK.out _ _ (hHeld) (fun hHeld => ?_)
                  clear hK K
                  try simp only [Act.put, List.setIfInBounds_toArray, List.set_cons_zero, List.set_cons_succ]
                  refine wpAnyH_take (i := 5) (oi := { dst := some 54, op := Op.binOp BinOp.add 3 (Operand.tmp 51) (Operand.tmp 53) 3, type := 3, pos := "nlri.go:86", after := #[{ on := 2, ground := Ground.data }, { on := 4, ground := Ground.data }], guard := none }) (v := ?_) rfl (by kernel_rfl) (by kernel_rfl) (by kernel_rfl) (fun _ _ _ h => h) (Or.inl ⟨by rfl, ?_⟩) hHeld ?_
                  rotate_left
                  · intro w hSw
                    clear hSw
                    go_simp
                    try with_reducible rfl
                  try simp only [Act.put, List.setIfInBounds_toArray, List.set_cons_zero, List.set_cons_succ]
                  refine wpAnyH_take (i := 6) (oi := { dst := some 55, op := Op.convert 3 42 (Operand.tmp 54), type := 42, pos := "nlri.go:86", after := #[{ on := 5, ground := Ground.data }], guard := none }) (v := ?_) rfl (by kernel_rfl) (by kernel_rfl) (by kernel_rfl) (fun _ _ _ h => h) (Or.inl ⟨by rfl, ?_⟩) hHeld ?_
                  rotate_left
                  · intro w hSw
                    clear hSw
                    go_simp
                    try with_reducible rfl
                  try simp only [Act.put, List.setIfInBounds_toArray, List.set_cons_zero, List.set_cons_succ]
                  refine wpAnyH_ready (rs := [7]) (by kernel_rfl) (by simp) ?_
                  refine AllReadyH.cons (o := { dst := some 56, op := Op.call { callee := Callee.value (Operand.tmp 49), args := #[Operand.tmp 55, Operand.const (Value.int IntKind.i64 1)], argTypes := #[42, 3] }, type := 0, pos := "nlri.go:86", after := #[{ on := 0, ground := Ground.data }, { on := 6, ground := Ground.data }, { on := 4, ground := Ground.chain }], guard := none }) rfl (fun K hK => ?_) AllReadyH.nil
                  go_simp
                  refine HC13.out.mono ?_
                  rintro e w5 ⟨rfl, v5, ho, hgr⟩
                  go_wp2_with fail
                  refine hK.out _ _ (CellsAt.grownX hHeld hgr ((HO4.out.drew' 1).apart hHeld (by decide) N13.symm)) (fun hHeld => ?_)
                  clear hK K
                  try simp only [Act.put, List.setIfInBounds_toArray, List.set_cons_zero, List.set_cons_succ]
                  refine wpAnyH_done (by kernel_rfl) ?_ _
                  clear s1 s2 HC13 N13
                  have hp := hHeld
                  clear hHeld
                  have HP5 := Lib.hid hp
                  have HN5 := Lib.hid ((HN4.out.drew 1).grownX hgr ((HO4.out.drew' 1).apart (HN4.out.drew 1) (by decide) (by omega)))
                  have HB5 := Lib.hid (hgr.below (below_drewN HB4.out 1) (HO4.out.drew' 1).ge HB4.out.size)
                  have HO5 := Lib.hid ho
                  clear ho hgr hp HP4 HN4 HB4 HO4
                  go_wp2_with fail
                  refine (HLB.out _).mono ?_
                  rintro e wa ⟨rfl, hwa⟩
                  have hwa := hwa.symm
                  subst hwa
                  obtain ⟨p0, p1, p2, p3⟩ := HP5.out.c4
                  obtain ⟨q0, q1, q2, q3, q4, q5⟩ := HN5.out.c6
                  go_wp2_with fail
                  try rw [or_one n.label hl0 hl1]
                  refine (nput_is (z := 3) w1.heap.size v5 (encAll (L.take k) true ++ beB (n.id).toNat 4 4 ++ beB (n.len + aheadV fam).toNat 1 1) (n.label * 16 + 1) 3 _ HO5.out (by omega) (by omega) (by omega) (by omega) (fits _ _ (by omega) (by omega)) (by (try simp only [List.length_append, beB_length]); omega) rfl).mono ?_
                  rintro e w6 ⟨rfl, v6, ho, hgr⟩
                  clear p0 p1 p2 p3 q0 q1 q2 q3 q4 q5
                  have HP6 := Lib.hid (HP5.out.grownX hgr (HO5.out.apart HP5.out (by decide) (by omega)))
                  have HN6 := Lib.hid (HN5.out.grownX hgr (HO5.out.apart HN5.out (by decide) (by omega)))
                  have HB6 := Lib.hid (hgr.below HB5.out HO5.out.ge HB5.out.size)
                  have HO6 := Lib.hid ho
                  clear ho hgr HP5 HN5 HB5 HO5
                  go_wp2_with fail
                  refine (HAB.out _).mono ?_
                  rintro e wa ⟨rfl, hwa⟩
                  have hwa := hwa.symm
                  subst hwa
                  obtain ⟨p0, p1, p2, p3⟩ := HP6.out.c4
                  obtain ⟨q0, q1, q2, q3, q4, q5⟩ := HN6.out.c6
                  go_wp2_with fail
                  refine (nput_is (z := 8) w1.heap.size v6 (encAll (L.take k) true ++ beB (n.id).toNat 4 4 ++ beB (n.len + aheadV fam).toNat 1 1 ++ beB (n.label * 16 + 1).toNat 3 3) (n.rd) 8 _ HO6.out (by omega) (by omega) (by omega) (by omega) (fits _ _ (by omega) (by omega)) (by (try simp only [List.length_append, beB_length]); omega) rfl).mono ?_
                  rintro e w7 ⟨rfl, v7, ho, hgr⟩
                  clear p0 p1 p2 p3 q0 q1 q2 q3 q4 q5
                  have HP7 := Lib.hid (HP6.out.grownX hgr (HO6.out.apart HP6.out (by decide) (by omega)))
                  have HN7 := Lib.hid (HN6.out.grownX hgr (HO6.out.apart HN6.out (by decide) (by omega)))
                  have HB7 := Lib.hid (hgr.below HB6.out HO6.out.ge HB6.out.size)
                  have HO7 := Lib.hid ho
                  clear ho hgr HP6 HN6 HB6 HO6
                  go_wp2_with fail
                  have HO7d := Lib.hid (HO7.out.drew' 1)
                  obtain ⟨p0, p1, p2, p3⟩ := HP7.out.c4
                  obtain ⟨c0, f0⟩ := HO7.out.cell.one
                  go_still_tail 7, (by kernel_rfl)
                  still_call (HWH.out _)
                  repeat still_step
                  refine wpStill_nil ?_
                  change wpList _ _ _ _ _ w7.drew
                  clear p0 p1 p2 p3 c0 f0
                  have HB7d : Hid (Below w1.heap.size w1 w7.drew) := below_drewN HB7.out 1
                  have HO7e : Hid (OutAt w7.drew w1.heap.size v7 (encAll (L.take k) true ++ beB (n.id).toNat 4 4 ++ beB (n.len + aheadV fam).toNat 1 1 ++ beB (n.label * 16 + 1).toNat 3 3 ++ beB (n.rd).toNat 8 8)) := HO7d.out
                  clear HO7d HO7 HB7 HP7 HN7
                  generalize w7.drew = W9 at HB7d HO7e ⊢
                  obtain ⟨l9, hl9⟩ : ∃ l9 : List UInt8, l9 = encAll (L.take k) true ++ beB (n.id).toNat 4 4 ++ beB (n.len + aheadV fam).toNat 1 1 ++ beB (n.label * 16 + 1).toNat 3 3 ++ beB (n.rd).toNat 8 8 := ⟨_, rfl⟩
                  have hl9L : l9.length ≤ 330000 := by rw [hl9]; (try simp only [List.length_append, beB_length]); omega
                  have hfin : encAll (L.take (k + 1)) true = l9 ++ n.addr.data.toList.take m := by
                    rw [hl9, encAll_succ HN.out true, HEQN.out]
                    simp [List.append_assoc]
                  rw [← hl9] at HO7e
                  have HFIN := Lib.hid hfin
                  clear hl9 hfin
                  generalize n.addr.extract 0 m = X at HXB HXS HXL ⊢
                  have hXle : X.size ≤ 16 := by rw [HXS.out]; omega
                  have hbz := HB7d.out.size
                  have hclt := HO7e.out.cell.lt
                  go_wp2_with (at_builtin; refine wpList_append_m rfl (.tmp 72) (.tmp 78) 52 9 rfl (w1.heap.size + 1) 5 i0 _ 1 1 Try.underlying52 hi hz0 hz1 hz2 rfl ?h3xa1 v7 l9.length _ rfl HO7e.out.own _ X.size (byteVals X.data.toList) rfl ?h3xa2 ?h3xa3 ?h3xa4 ?h3xa5 ?h3xa6)
                  case h3xa2 => exact Src.string Try.underlying9
                  case h3xa1 => omega
                  case h3xa3 => (unfold maxLen; omega)
                  case h3xa4 => omega
                  case h3xa5 => omega
                  intro v' w10 hown hgr hat
                  obtain ⟨A', c', rfl⟩ := hown.form
                  have hng : v7.ownBlock ≠ some w1.heap.size := fun e => by have := (HO7e.out.own.lt _ e).1; omega
                  have hc2 : CellsAt w10 w1.heap.size #[v7] 52 := (hgr.block _ HO7e.out.cell.lt (fun e => hng e.symm)).trans HO7e.out.cell
                  have HOWN := Lib.hid hown
                  have HG2 := Lib.hid hgr
                  have HC2 := Lib.hid hc2
                  clear hown hgr hc2 hat
                  obtain ⟨c0, f0⟩ := HC2.out.one
                  go_wp2_with fail
                  have hown' := HOWN.out.setCell (p := ⟨w1.heap.size, 0, none⟩) (fun q hq e => by have h1 := (HOWN.out.lt q hq).1; have e2 : q = w1.heap.size := e; omega) (.slice A' (l9.length + X.size) c')
                  have hcell' := HC2.out.set (.slice A' (l9.length + X.size) c')
                  have hlen' : l9.length + X.size = (encAll (L.take (k + 1)) true).length := by rw [HFIN.out, List.length_append, HXL.out]
                  rw [HXB.out, ← byteVals_append, ← HFIN.out] at hown'
                  rw [hlen'] at hown' hcell' ⊢
                  exact ⟨⟨k + 1, _, by omega, by go_num, ⟨hcell', hown'⟩, HX9 _ _ _ HB7d.out HG2.out (fun q hq => by have := (HO7e.out.own.lt q hq).1; omega), HGS.out⟩, by simp [intOf]; omega⟩
          · have di : decide (0 < n.id) = false := decide_eq_false hi9
            by_cases hfa : fam ≤ 2
            · as_aux_lemma =>
                rw [show labB fam = false from decide_eq_false (by omega)] at HLB HEQN0
                rw [show apB fam = false from decide_eq_false (by omega)] at HAB HEQN0
                clear hfa
                have HEQN := HEQN0
                clear HEQN0
                simp only [if_true, Bool.false_eq_true, if_false, List.nil_append, List.append_nil] at HEQN
                obtain ⟨p0, p1, p2, p3⟩ := HP3.out.c4
                obtain ⟨q0, q1, q2, q3, q4, q5⟩ := HN3.out.c6
                go_wp2_with fail
                refine (nput_is (z := 4) w1.heap.size v (encAll (L.take k) true) (n.id) 4 _ HO3.out (by omega) (by omega) (by omega) (by omega) (fits _ _ (by omega) (by omega)) (by (try simp only [List.length_append, beB_length]); omega) rfl).mono ?_
                rintro e w4 ⟨rfl, v4, ho, hgr⟩
                clear p0 p1 p2 p3 q0 q1 q2 q3 q4 q5
                have HP4 := Lib.hid (HP3.out.grownX hgr (HO3.out.apart HP3.out (by decide) (by omega)))
                have HN4 := Lib.hid (HN3.out.grownX hgr (HO3.out.apart HN3.out (by decide) (by omega)))
                have HB4 := Lib.hid (hgr.below HB3.out HO3.out.ge HB3.out.size)
                have HO4 := Lib.hid ho
                clear ho hgr HP3 HN3 HB3 HO3
                go_wp2_with fail
                have HC13 := Lib.hid (nput_is (z := 1) w1.heap.size v4 (encAll (L.take k) true ++ beB (n.id).toNat 4 4) (n.len + aheadV fam) 1 w4.drew (HO4.out.drew' 1) (by omega) (by omega) (by omega) (by omega) (fits _ _ (by omega) (by omega)) (by (try simp only [List.length_append, beB_length]); omega) rfl)
                have s1 : IntKind.i64.wrap (n.len + aheadV fam) = n.len + aheadV fam := IntWalk.i64_in _ (by omega)
                have s2 : IntKind.u64.wrap (n.len + aheadV fam) = n.len + aheadV fam := IntWalk.u64_in _ (by omega)
                have N13 : w1.heap.size ≠ wr.heap.size + 1 := by clear s1 s2; omega
                refine wp_region_held_drew (S := fun w' => CellsAt w' (wr.heap.size + 1) #[.int .i64 n.fam, .int .u64 n.rd, .string n.addr, .int .i64 n.len] 44) (by kernel_rfl) (HP4.out.drew 1) (fun hHeld => ?_)
                refine wpAnyH_take (i := 0) (oi := { dst := some 49, op := Op.move (Operand.tmp 9), type := 101, pos := "nlri.go:86", after := #[], guard := none }) (v := ?_) rfl (by kernel_rfl) (by kernel_rfl) (by kernel_rfl) (fun _ _ _ h => h) (Or.inl ⟨by rfl, ?_⟩) hHeld ?_
                rotate_left
                · intro w hSw
                  clear hSw
                  go_simp
                  try with_reducible rfl
                try simp only [Act.put, List.setIfInBounds_toArray, List.set_cons_zero, List.set_cons_succ]
                refine wpAnyH_take (i := 1) (oi := { dst := some 50, op := Op.fieldAddr 44 (Operand.tmp 12) 3, type := 0, pos := "nlri.go:86", after := #[], guard := none }) (v := ?_) rfl (by kernel_rfl) (by kernel_rfl) (by kernel_rfl) (fun _ _ _ h => h) (Or.inl ⟨by rfl, ?_⟩) hHeld ?_
                rotate_left
                · intro w hSw
                  clear hSw
                  go_simp
                  try with_reducible rfl
                try simp only [Act.put, List.setIfInBounds_toArray, List.set_cons_zero, List.set_cons_succ]
                refine wpAnyH_take (i := 2) (oi := { dst := some 51, op := Op.load 3 (Operand.tmp 50), type := 3, pos := "nlri.go:86", after := #[{ on := 1, ground := Ground.data }], guard := none }) (v := ?_) rfl (by kernel_rfl) (by kernel_rfl) (by kernel_rfl) (fun _ _ _ h => h) (Or.inl ⟨by rfl, ?_⟩) hHeld ?_
                rotate_left
                · intro w hSw
                  obtain ⟨p0, p1, p2, p3⟩ := CellsAt.c4 hSw
                  go_simp
                  try with_reducible rfl
                try simp only [Act.put, List.setIfInBounds_toArray, List.set_cons_zero, List.set_cons_succ]
                refine wpAnyH_take (i := 3) (oi := { dst := some 52, op := Op.move (Operand.tmp 1), type := 3, pos := "nlri.go:86", after := #[], guard := none }) (v := ?_) rfl (by kernel_rfl) (by kernel_rfl) (by kernel_rfl) (fun _ _ _ h => h) (Or.inl ⟨by rfl, ?_⟩) hHeld ?_
                rotate_left
                · intro w hSw
                  clear hSw
                  go_simp
                  try with_reducible rfl
                try simp only [Act.put, List.setIfInBounds_toArray, List.set_cons_zero, List.set_cons_succ]
                refine wpAnyH_ready (rs := [4]) (by kernel_rfl) (by simp) ?_
                refine AllReadyH.cons (o := { dst := some 53, op := Op.call { callee := Callee.value (Operand.func 55), args := #[Operand.tmp 52], argTypes := #[3] }, type := 3, pos := "nlri.go:86", after := #[{ on := 3, ground := Ground.data }], guard := none }) rfl (fun K hK => ?_) AllReadyH.nil
                go_simp
                refine (HA.out _).mono ?_
                rintro e wa ⟨rfl, rfl⟩
                go_wp2_with fail
                refine hK.out _ _ (hHeld) (fun hHeld => ?_)
                clear hK K
                try simp only [Act.put, List.setIfInBounds_toArray, List.set_cons_zero, List.set_cons_succ]
                refine wpAnyH_take (i := 5) (oi := { dst := some 54, op := Op.binOp BinOp.add 3 (Operand.tmp 51) (Operand.tmp 53) 3, type := 3, pos := "nlri.go:86", after := #[{ on := 2, ground := Ground.data }, { on := 4, ground := Ground.data }], guard := none }) (v := ?_) rfl (by kernel_rfl) (by kernel_rfl) (by kernel_rfl) (fun _ _ _ h => h) (Or.inl ⟨by rfl, ?_⟩) hHeld ?_
                rotate_left
                · intro w hSw
                  clear hSw
                  go_simp
                  try with_reducible rfl
                try simp only [Act.put, List.setIfInBounds_toArray, List.set_cons_zero, List.set_cons_succ]
                refine wpAnyH_take (i := 6) (oi := { dst := some 55, op := Op.convert 3 42 (Operand.tmp 54), type := 42, pos := "nlri.go:86", after := #[{ on := 5, ground := Ground.data }], guard := none }) (v := ?_) rfl (by kernel_rfl) (by kernel_rfl) (by kernel_rfl) (fun _ _ _ h => h) (Or.inl ⟨by rfl, ?_⟩) hHeld ?_
                rotate_left
                · intro w hSw
                  clear hSw
                  go_simp
                  try with_reducible rfl
                try simp only [Act.put, List.setIfInBounds_toArray, List.set_cons_zero, List.set_cons_succ]
                refine wpAnyH_ready (rs := [7]) (by kernel_rfl) (by simp) ?_
                refine AllReadyH.cons (o := { dst := some 56, op := Op.call { callee := Callee.value (Operand.tmp 49), args := #[Operand.tmp 55, Operand.const (Value.int IntKind.i64 1)], argTypes := #[42, 3] }, type := 0, pos := "nlri.go:86", after := #[{ on := 0, ground := Ground.data }, { on := 6, ground := Ground.data }, { on := 4, ground := Ground.chain }], guard := none }) rfl (fun K hK => ?_) AllReadyH.nil
                go_simp
                refine HC13.out.mono ?_
                rintro e w5 ⟨rfl, v5, ho, hgr⟩
                go_wp2_with fail
                refine hK.out _ _ (CellsAt.grownX hHeld hgr ((HO4.out.drew' 1).apart hHeld (by decide) N13.symm)) (fun hHeld => ?_)
                clear hK K
                try simp only [Act.put, List.setIfInBounds_toArray, List.set_cons_zero, List.set_cons_succ]
                refine wpAnyH_done (by kernel_rfl) ?_ _
                clear s1 s2 HC13 N13
                have hp := hHeld
                clear hHeld
                have HP5 := Lib.hid hp
                have HN5 := Lib.hid ((HN4.out.drew 1).grownX hgr ((HO4.out.drew' 1).apart (HN4.out.drew 1) (by decide) (by omega)))
                have HB5 := Lib.hid (hgr.below (below_drewN HB4.out 1) (HO4.out.drew' 1).ge HB4.out.size)
                have HO5 := Lib.hid ho
                clear ho hgr hp HP4 HN4 HB4 HO4
                go_wp2_with fail
                refine (HLB.out _).mono ?_
                rintro e wa ⟨rfl, hwa⟩
                have hwa := hwa.symm
                subst hwa
                go_wp2_with fail
                refine (HAB.out _).mono ?_
                rintro e wa ⟨rfl, hwa⟩
                have hwa := hwa.symm
                subst hwa
                go_wp2_with fail
                have HO5d := Lib.hid (HO5.out.drew' 1)
                obtain ⟨p0, p1, p2, p3⟩ := HP5.out.c4
                obtain ⟨c0, f0⟩ := HO5.out.cell.one
                go_still_tail 7, (by kernel_rfl)
                still_call (HWH.out _)
                repeat still_step
                refine wpStill_nil ?_
                change wpList _ _ _ _ _ w5.drew
                clear p0 p1 p2 p3 c0 f0
                have HB5d : Hid (Below w1.heap.size w1 w5.drew) := below_drewN HB5.out 1
                have HO5e : Hid (OutAt w5.drew w1.heap.size v5 (encAll (L.take k) true ++ beB (n.id).toNat 4 4 ++ beB (n.len + aheadV fam).toNat 1 1)) := HO5d.out
                clear HO5d HO5 HB5 HP5 HN5
                generalize w5.drew = W9 at HB5d HO5e ⊢
                obtain ⟨l9, hl9⟩ : ∃ l9 : List UInt8, l9 = encAll (L.take k) true ++ beB (n.id).toNat 4 4 ++ beB (n.len + aheadV fam).toNat 1 1 := ⟨_, rfl⟩
                have hl9L : l9.length ≤ 330000 := by rw [hl9]; (try simp only [List.length_append, beB_length]); omega
                have hfin : encAll (L.take (k + 1)) true = l9 ++ n.addr.data.toList.take m := by
                  rw [hl9, encAll_succ HN.out true, HEQN.out]
                  simp [List.append_assoc]
                rw [← hl9] at HO5e
                have HFIN := Lib.hid hfin
                clear hl9 hfin
                generalize n.addr.extract 0 m = X at HXB HXS HXL ⊢
                have hXle : X.size ≤ 16 := by rw [HXS.out]; omega
                have hbz := HB5d.out.size
                have hclt := HO5e.out.cell.lt
                go_wp2_with (at_builtin; refine wpList_append_m rfl (.tmp 72) (.tmp 78) 52 9 rfl (w1.heap.size + 1) 5 i0 _ 1 1 Try.underlying52 hi hz0 hz1 hz2 rfl ?h4xa1 v5 l9.length _ rfl HO5e.out.own _ X.size (byteVals X.data.toList) rfl ?h4xa2 ?h4xa3 ?h4xa4 ?h4xa5 ?h4xa6)
                case h4xa2 => exact Src.string Try.underlying9
                case h4xa1 => omega
                case h4xa3 => (unfold maxLen; omega)
                case h4xa4 => omega
                case h4xa5 => omega
                intro v' w10 hown hgr hat
                obtain ⟨A', c', rfl⟩ := hown.form
                have hng : v5.ownBlock ≠ some w1.heap.size := fun e => by have := (HO5e.out.own.lt _ e).1; omega
                have hc2 : CellsAt w10 w1.heap.size #[v5] 52 := (hgr.block _ HO5e.out.cell.lt (fun e => hng e.symm)).trans HO5e.out.cell
                have HOWN := Lib.hid hown
                have HG2 := Lib.hid hgr
                have HC2 := Lib.hid hc2
                clear hown hgr hc2 hat
                obtain ⟨c0, f0⟩ := HC2.out.one
                go_wp2_with fail
                have hown' := HOWN.out.setCell (p := ⟨w1.heap.size, 0, none⟩) (fun q hq e => by have h1 := (HOWN.out.lt q hq).1; have e2 : q = w1.heap.size := e; omega) (.slice A' (l9.length + X.size) c')
                have hcell' := HC2.out.set (.slice A' (l9.length + X.size) c')
                have hlen' : l9.length + X.size = (encAll (L.take (k + 1)) true).length := by rw [HFIN.out, List.length_append, HXL.out]
                rw [HXB.out, ← byteVals_append, ← HFIN.out] at hown'
                rw [hlen'] at hown' hcell' ⊢
                exact ⟨⟨k + 1, _, by omega, by go_num, ⟨hcell', hown'⟩, HX9 _ _ _ HB5d.out HG2.out (fun q hq => by have := (HO5e.out.own.lt q hq).1; omega), HGS.out⟩, by simp [intOf]; omega⟩
            · by_cases hfb : fam = 3
              · as_aux_lemma =>
                  rw [show labB fam = true from decide_eq_true (by omega)] at HLB HEQN0
                  rw [show apB fam = false from decide_eq_false (by omega)] at HAB HEQN0
                  clear hfa hfb
                  have HEQN := HEQN0
                  clear HEQN0
                  simp only [if_true, Bool.false_eq_true, if_false, List.nil_append, List.append_nil] at HEQN
                  obtain ⟨p0, p1, p2, p3⟩ := HP3.out.c4
                  obtain ⟨q0, q1, q2, q3, q4, q5⟩ := HN3.out.c6
                  go_wp2_with fail
                  refine (nput_is (z := 4) w1.heap.size v (encAll (L.take k) true) (n.id) 4 _ HO3.out (by omega) (by omega) (by omega) (by omega) (fits _ _ (by omega) (by omega)) (by (try simp only [List.length_append, beB_length]); omega) rfl).mono ?_
                  rintro e w4 ⟨rfl, v4, ho, hgr⟩
                  clear p0 p1 p2 p3 q0 q1 q2 q3 q4 q5
                  have HP4 := Lib.hid (HP3.out.grownX hgr (HO3.out.apart HP3.out (by decide) (by omega)))
                  have HN4 := Lib.hid (HN3.out.grownX hgr (HO3.out.apart HN3.out (by decide) (by omega)))
                  have HB4 := Lib.hid (hgr.below HB3.out HO3.out.ge HB3.out.size)
                  have HO4 := Lib.hid ho
                  clear ho hgr HP3 HN3 HB3 HO3
                  go_wp2_with fail
                  have HC13 := Lib.hid (nput_is (z := 1) w1.heap.size v4 (encAll (L.take k) true ++ beB (n.id).toNat 4 4) (n.len + aheadV fam) 1 w4.drew (HO4.out.drew' 1) (by omega) (by omega) (by omega) (by omega) (fits _ _ (by omega) (by omega)) (by (try simp only [List.length_append, beB_length]); omega) rfl)
                  have s1 : IntKind.i64.wrap (n.len + aheadV fam) = n.len + aheadV fam := IntWalk.i64_in _ (by omega)
                  have s2 : IntKind.u64.wrap (n.len + aheadV fam) = n.len + aheadV fam := IntWalk.u64_in _ (by omega)
                  have N13 : w1.heap.size ≠ wr.heap.size + 1 := by clear s1 s2; omega
                  refine wp_region_held_drew (S := fun w' => CellsAt w' (wr.heap.size + 1) #[.int .i64 n.fam, .int .u64 n.rd, .string n.addr, .int .i64 n.len] 44) (by kernel_rfl) (HP4.out.drew 1) (fun hHeld => ?_)
                  refine wpAnyH_take (i := 0) (oi := { dst := some 49, op := Op.move (Operand.tmp 9), type := 101, pos := "nlri.go:86", after := #[], guard := none }) (v := ?_) rfl (by kernel_rfl) (by kernel_rfl) (by kernel_rfl) (fun _ _ _ h => h) (Or.inl ⟨by rfl, ?_⟩) hHeld ?_
                  rotate_left
                  · intro w hSw
                    clear hSw
                    go_simp
                    try with_reducible rfl
                  try simp only [Act.put, List.setIfInBounds_toArray, List.set_cons_zero, List.set_cons_succ]
                  refine wpAnyH_take (i := 1) (oi := { dst := some 50, op := Op.fieldAddr 44 (Operand.tmp 12) 3, type := 0, pos := "nlri.go:86", after := #[], guard := none }) (v := ?_) rfl (by kernel_rfl) (by kernel_rfl) (by kernel_rfl) (fun _ _ _ h => h) (Or.inl ⟨by rfl, ?_⟩) hHeld ?_
                  rotate_left
                  · intro w hSw
                    clear hSw
                    go_simp
                    try with_reducible rfl
                  try simp only [Act.put, List.setIfInBounds_toArray, List.set_cons_zero, List.set_cons_succ]
                  refine wpAnyH_take (i := 2) (oi := { dst := some 51, op := Op.load 3 (Operand.tmp 50), type := 3, pos := "nlri.go:86", after := #[{ on := 1, ground := Ground.data }], guard := none }) (v := ?_) rfl (by kernel_rfl) (by kernel_rfl) (by kernel_rfl) (fun _ _ _ h => h) (Or.inl ⟨by rfl, ?_⟩) hHeld ?_
                  rotate_left
                  · intro w hSw
                    obtain ⟨p0, p1, p2, p3⟩ := CellsAt.c4 hSw
                    go_simp
                    try with_reducible rfl
                  try simp only [Act.put, List.setIfInBounds_toArray, List.set_cons_zero, List.set_cons_succ]
                  refine wpAnyH_take (i := 3) (oi := { dst := some 52, op := Op.move (Operand.tmp 1), type := 3, pos := "nlri.go:86", after := #[], guard := none }) (v := ?_) rfl (by kernel_rfl) (by kernel_rfl) (by kernel_rfl) (fun _ _ _ h => h) (Or.inl ⟨by rfl, ?_⟩) hHeld ?_
                  rotate_left
                  · intro w hSw
                    clear hSw
                    go_simp
                    try with_reducible rfl
                  try simp only [Act.put, List.setIfInBounds_toArray, List.set_cons_zero, List.set_cons_succ]
                  refine wpAnyH_ready (rs := [4]) (by kernel_rfl) (by simp) ?_
                  refine AllReadyH.cons (o := { dst := some 53, op := Op.call { callee := Callee.value (Operand.func 55), args := #[Operand.tmp 52], argTypes := #[3] }, type := 3, pos := "nlri.go:86", after := #[{ on := 3, ground := Ground.data }], guard := none }) rfl (fun K hK => ?_) AllReadyH.nil
                  go_simp
                  refine (HA.out _).mono ?_
                  rintro e wa ⟨rfl, rfl⟩
                  go_wp2_with fail
                  refine hK.out _ _ (hHeld) (fun hHeld => ?_)
                  clear hK K
                  try simp only [Act.put, List.setIfInBounds_toArray, List.set_cons_zero, List.set_cons_succ]
                  refine wpAnyH_take (i := 5) (oi := { dst := some 54, op := Op.binOp BinOp.add 3 (Operand.tmp 51) (Operand.tmp 53) 3, type := 3, pos := "nlri.go:86", after := #[{ on := 2, ground := Ground.data }, { on := 4, ground := Ground.data }], guard := none }) (v := ?_) rfl (by kernel_rfl) (by kernel_rfl) (by kernel_rfl) (fun _ _ _ h => h) (Or.inl ⟨by rfl, ?_⟩) hHeld ?_
                  rotate_left
                  · intro w hSw
                    clear hSw
                    go_simp
                    try with_reducible rfl
                  try simp only [Act.put, List.setIfInBounds_toArray, List.set_cons_zero, List.set_cons_succ]
                  refine wpAnyH_take (i := 6) (oi := { dst := some 55, op := Op.convert 3 42 (Operand.tmp 54), type := 42, pos := "nlri.go:86", after := #[{ on := 5, ground := Ground.data }], guard := none }) (v := ?_) rfl (by kernel_rfl) (by kernel_rfl) (by kernel_rfl) (fun _ _ _ h => h) (Or.inl ⟨by rfl, ?_⟩) hHeld ?_
                  rotate_left
                  · intro w hSw
                    clear hSw
                    go_simp
                    try with_reducible rfl
                  try simp only [Act.put, List.setIfInBounds_toArray, List.set_cons_zero, List.set_cons_succ]
                  refine wpAnyH_ready (rs := [7]) (by kernel_rfl) (by simp) ?_
                  refine AllReadyH.cons (o := { dst := some 56, op := Op.call { callee := Callee.value (Operand.tmp 49), args := #[Operand.tmp 55, Operand.const (Value.int IntKind.i64 1)], argTypes := #[42, 3] }, type := 0, pos := "nlri.go:86", after := #[{ on := 0, ground := Ground.data }, { on := 6, ground := Ground.data }, { on := 4, ground := Ground.chain }], guard := none }) rfl (fun K hK => ?_) AllReadyH.nil
                  go_simp
                  refine HC13.out.mono ?_
                  rintro e w5 ⟨rfl, v5, ho, hgr⟩
                  go_wp2_with fail
                  refine hK.out _ _ (CellsAt.grownX hHeld hgr ((HO4.out.drew' 1).apart hHeld (by decide) N13.symm)) (fun hHeld => ?_)
                  clear hK K
                  try simp only [Act.put, List.setIfInBounds_toArray, List.set_cons_zero, List.set_cons_succ]
                  refine wpAnyH_done (by kernel_rfl) ?_ _
                  clear s1 s2 HC13 N13
                  have hp := hHeld
                  clear hHeld
                  have HP5 := Lib.hid hp
                  have HN5 := Lib.hid ((HN4.out.drew 1).grownX hgr ((HO4.out.drew' 1).apart (HN4.out.drew 1) (by decide) (by omega)))
                  have HB5 := Lib.hid (hgr.below (below_drewN HB4.out 1) (HO4.out.drew' 1).ge HB4.out.size)
                  have HO5 := Lib.hid ho
                  clear ho hgr hp HP4 HN4 HB4 HO4
                  go_wp2_with fail
                  refine (HLB.out _).mono ?_
                  rintro e wa ⟨rfl, hwa⟩
                  have hwa := hwa.symm
                  subst hwa
                  obtain ⟨p0, p1, p2, p3⟩ := HP5.out.c4
                  obtain ⟨q0, q1, q2, q3, q4, q5⟩ := HN5.out.c6
                  go_wp2_with fail
                  try rw [or_one n.label hl0 hl1]
                  refine (nput_is (z := 3) w1.heap.size v5 (encAll (L.take k) true ++ beB (n.id).toNat 4 4 ++ beB (n.len + aheadV fam).toNat 1 1) (n.label * 16 + 1) 3 _ HO5.out (by omega) (by omega) (by omega) (by omega) (fits _ _ (by omega) (by omega)) (by (try simp only [List.length_append, beB_length]); omega) rfl).mono ?_
                  rintro e w6 ⟨rfl, v6, ho, hgr⟩
                  clear p0 p1 p2 p3 q0 q1 q2 q3 q4 q5
                  have HP6 := Lib.hid (HP5.out.grownX hgr (HO5.out.apart HP5.out (by decide) (by omega)))
                  have HN6 := Lib.hid (HN5.out.grownX hgr (HO5.out.apart HN5.out (by decide) (by omega)))
                  have HB6 := Lib.hid (hgr.below HB5.out HO5.out.ge HB5.out.size)
                  have HO6 := Lib.hid ho
                  clear ho hgr HP5 HN5 HB5 HO5
                  go_wp2_with fail
                  refine (HAB.out _).mono ?_
                  rintro e wa ⟨rfl, hwa⟩
                  have hwa := hwa.symm
                  subst hwa
                  go_wp2_with fail
                  have HO6d := Lib.hid (HO6.out.drew' 1)
                  obtain ⟨p0, p1, p2, p3⟩ := HP6.out.c4
                  obtain ⟨c0, f0⟩ := HO6.out.cell.one
                  go_still_tail 7, (by kernel_rfl)
                  still_call (HWH.out _)
                  repeat still_step
                  refine wpStill_nil ?_
                  change wpList _ _ _ _ _ w6.drew
                  clear p0 p1 p2 p3 c0 f0
                  have HB6d : Hid (Below w1.heap.size w1 w6.drew) := below_drewN HB6.out 1
                  have HO6e : Hid (OutAt w6.drew w1.heap.size v6 (encAll (L.take k) true ++ beB (n.id).toNat 4 4 ++ beB (n.len + aheadV fam).toNat 1 1 ++ beB (n.label * 16 + 1).toNat 3 3)) := HO6d.out
                  clear HO6d HO6 HB6 HP6 HN6
                  generalize w6.drew = W9 at HB6d HO6e ⊢
                  obtain ⟨l9, hl9⟩ : ∃ l9 : List UInt8, l9 = encAll (L.take k) true ++ beB (n.id).toNat 4 4 ++ beB (n.len + aheadV fam).toNat 1 1 ++ beB (n.label * 16 + 1).toNat 3 3 := ⟨_, rfl⟩
                  have hl9L : l9.length ≤ 330000 := by rw [hl9]; (try simp only [List.length_append, beB_length]); omega
                  have hfin : encAll (L.take (k + 1)) true = l9 ++ n.addr.data.toList.take m := by
                    rw [hl9, encAll_succ HN.out true, HEQN.out]
                    simp [List.append_assoc]
                  rw [← hl9] at HO6e
                  have HFIN := Lib.hid hfin
                  clear hl9 hfin
                  generalize n.addr.extract 0 m = X at HXB HXS HXL ⊢
                  have hXle : X.size ≤ 16 := by rw [HXS.out]; omega
                  have hbz := HB6d.out.size
                  have hclt := HO6e.out.cell.lt
                  go_wp2_with (at_builtin; refine wpList_append_m rfl (.tmp 72) (.tmp 78) 52 9 rfl (w1.heap.size + 1) 5 i0 _ 1 1 Try.underlying52 hi hz0 hz1 hz2 rfl ?h5xa1 v6 l9.length _ rfl HO6e.out.own _ X.size (byteVals X.data.toList) rfl ?h5xa2 ?h5xa3 ?h5xa4 ?h5xa5 ?h5xa6)
                  case h5xa2 => exact Src.string Try.underlying9
                  case h5xa1 => omega
                  case h5xa3 => (unfold maxLen; omega)
                  case h5xa4 => omega
                  case h5xa5 => omega
                  intro v' w10 hown hgr hat
                  obtain ⟨A', c', rfl⟩ := hown.form
                  have hng : v6.ownBlock ≠ some w1.heap.size := fun e => by have := (HO6e.out.own.lt _ e).1; omega
                  have hc2 : CellsAt w10 w1.heap.size #[v6] 52 := (hgr.block _ HO6e.out.cell.lt (fun e => hng e.symm)).trans HO6e.out.cell
                  have HOWN := Lib.hid hown
                  have HG2 := Lib.hid hgr
                  have HC2 := Lib.hid hc2
                  clear hown hgr hc2 hat
                  obtain ⟨c0, f0⟩ := HC2.out.one
                  go_wp2_with fail
                  have hown' := HOWN.out.setCell (p := ⟨w1.heap.size, 0, none⟩) (fun q hq e => by have h1 := (HOWN.out.lt q hq).1; have e2 : q = w1.heap.size := e; omega) (.slice A' (l9.length + X.size) c')
                  have hcell' := HC2.out.set (.slice A' (l9.length + X.size) c')
                  have hlen' : l9.length + X.size = (encAll (L.take (k + 1)) true).length := by rw [HFIN.out, List.length_append, HXL.out]
                  rw [HXB.out, ← byteVals_append, ← HFIN.out] at hown'
                  rw [hlen'] at hown' hcell' ⊢
                  exact ⟨⟨k + 1, _, by omega, by go_num, ⟨hcell', hown'⟩, HX9 _ _ _ HB6d.out HG2.out (fun q hq => by have := (HO6e.out.own.lt q hq).1; omega), HGS.out⟩, by simp [intOf]; omega⟩
              · as_aux_lemma =>
                  rw [show labB fam = true from decide_eq_true (by omega)] at HLB HEQN0
                  rw [show apB fam = true from decide_eq_true (by omega)] at HAB HEQN0
                  clear hfa hfb
                  have HEQN := HEQN0
                  clear HEQN0
                  simp only [if_true, Bool.false_eq_true, if_false, List.nil_append, List.append_nil] at HEQN
                  obtain ⟨p0, p1, p2, p3⟩ := HP3.out.c4
                  obtain ⟨q0, q1, q2, q3, q4, q5⟩ := HN3.out.c6
                  go_wp2_with fail
                  refine (nput_is (z := 4) w1.heap.size v (encAll (L.take k) true) (n.id) 4 _ HO3.out (by omega) (by omega) (by omega) (by omega) (fits _ _ (by omega) (by omega)) (by (try simp only [List.length_append, beB_length]); omega) rfl).mono ?_
                  rintro e w4 ⟨rfl, v4, ho, hgr⟩
                  clear p0 p1 p2 p3 q0 q1 q2 q3 q4 q5
                  have HP4 := Lib.hid (HP3.out.grownX hgr (HO3.out.apart HP3.out (by decide) (by omega)))
                  have HN4 := Lib.hid (HN3.out.grownX hgr (HO3.out.apart HN3.out (by decide) (by omega)))
                  have HB4 := Lib.hid (hgr.below HB3.out HO3.out.ge HB3.out.size)
                  have HO4 := Lib.hid ho
                  clear ho hgr HP3 HN3 HB3 HO3
                  go_wp2_with fail
                  have HC13 := Lib.hid (nput_is (z := 1) w1.heap.size v4 (encAll (L.take k) true ++ beB (n.id).toNat 4 4) (n.len + aheadV fam) 1 w4.drew (HO4.out.drew' 1) (by omega) (by omega) (by omega) (by omega) (fits _ _ (by omega) (by omega)) (by (try simp only [List.length_append, beB_length]); omega) rfl)
                  have s1 : IntKind.i64.wrap (n.len + aheadV fam) = n.len + aheadV fam := IntWalk.i64_in _ (by omega)
                  have s2 : IntKind.u64.wrap (n.len + aheadV fam) = n.len + aheadV fam := IntWalk.u64_in _ (by omega)
                  have N13 : w1.heap.size ≠ wr.heap.size + 1 := by clear s1 s2; omega
                  refine wp_region_held_drew (S := fun w' => CellsAt w' (wr.heap.size + 1) #[.int .i64 n.fam, .int .u64 n.rd, .string n.addr, .int .i64 n.len] 44) (by kernel_rfl) (HP4.out.drew 1) (fun hHeld => ?_)
                  refine wpAnyH_take (i := 0) (oi := { dst := some 49, op := Op.move (Operand.tmp 9), type := 101, pos := "nlri.go:86", after := #[], guard := none }) (v := ?_) rfl (by kernel_rfl) (by kernel_rfl) (by kernel_rfl) (fun _ _ _ h => h) (Or.inl ⟨by rfl, ?_⟩) hHeld ?_
                  rotate_left
                  · intro w hSw
                    clear hSw
                    go_simp
                    try with_reducible rfl
                  try simp only [Act.put, List.setIfInBounds_toArray, List.set_cons_zero, List.set_cons_succ]
                  refine wpAnyH_take (i := 1) (oi := { dst := some 50, op := Op.fieldAddr 44 (Operand.tmp 12) 3, type := 0, pos := "nlri.go:86", after := #[], guard := none }) (v := ?_) rfl (by kernel_rfl) (by kernel_rfl) (by kernel_rfl) (fun _ _ _ h => h) (Or.inl ⟨by rfl, ?_⟩) hHeld ?_
                  rotate_left
                  · intro w hSw
                    clear hSw
                    go_simp
                    try with_reducible rfl
                  try simp only [Act.put, List.setIfInBounds_toArray, List.set_cons_zero, List.set_cons_succ]
                  refine wpAnyH_take (i := 2) (oi := { dst := some 51, op := Op.load 3 (Operand.tmp 50), type := 3, pos := "nlri.go:86", after := #[{ on := 1, ground := Ground.data }], guard := none }) (v := ?_) rfl (by kernel_rfl) (by kernel_rfl) (by kernel_rfl) (fun _ _ _ h => h) (Or.inl ⟨by rfl, ?_⟩) hHeld ?_
                  rotate_left
                  · intro w hSw
                    obtain ⟨p0, p1, p2, p3⟩ := CellsAt.c4 hSw
                    go_simp
                    try with_reducible rfl
                  try simp only [Act.put, List.setIfInBounds_toArray, List.set_cons_zero, List.set_cons_succ]
                  refine wpAnyH_take (i := 3) (oi := { dst := some 52, op := Op.move (Operand.tmp 1), type := 3, pos := "nlri.go:86", after := #[], guard := none }) (v := ?_) rfl (by kernel_rfl) (by kernel_rfl) (by kernel_rfl) (fun _ _ _ h => h) (Or.inl ⟨by rfl, ?_⟩) hHeld ?_
                  rotate_left
                  · intro w hSw
                    clear hSw
                    go_simp
                    try with_reducible rfl
                  try simp only [Act.put, List.setIfInBounds_toArray, List.set_cons_zero, List.set_cons_succ]
                  refine wpAnyH_ready (rs := [4]) (by kernel_rfl) (by simp) ?_
                  refine AllReadyH.cons (o := { dst := some 53, op := Op.call { callee := Callee.value (Operand.func 55), args := #[Operand.tmp 52], argTypes := #[3] }, type := 3, pos := "nlri.go:86", after := #[{ on := 3, ground := Ground.data }], guard := none }) rfl (fun K hK => ?_) AllReadyH.nil
                  go_simp
                  refine (HA.out _).mono ?_
                  rintro e wa ⟨rfl, rfl⟩
                  go_wp2_with fail
                  refine hK.out _ _ (hHeld) (fun hHeld => ?_)
                  clear hK K
                  try simp only [Act.put, List.setIfInBounds_toArray, List.set_cons_zero, List.set_cons_succ]
                  refine wpAnyH_take (i := 5) (oi := { dst := some 54, op := Op.binOp BinOp.add 3 (Operand.tmp 51) (Operand.tmp 53) 3, type := 3, pos := "nlri.go:86", after := #[{ on := 2, ground := Ground.data }, { on := 4, ground := Ground.data }], guard := none }) (v := ?_) rfl (by kernel_rfl) (by kernel_rfl) (by kernel_rfl) (fun _ _ _ h => h) (Or.inl ⟨by rfl, ?_⟩) hHeld ?_
                  rotate_left
                  · intro w hSw
                    clear hSw
                    go_simp
                    try with_reducible rfl
                  try simp only [Act.put, List.setIfInBounds_toArray, List.set_cons_zero, List.set_cons_succ]
                  refine wpAnyH_take (i := 6) (oi := { dst := some 55, op := Op.convert 3 42 (Operand.tmp 54), type := 42, pos := "nlri.go:86", after := #[{ on := 5, ground := Ground.data }], guard := none }) (v := ?_) rfl (by kernel_rfl) (by kernel_rfl) (by kernel_rfl) (fun _ _ _ h => h) (Or.inl ⟨by rfl, ?_⟩) hHeld ?_
                  rotate_left
                  · intro w hSw
                    clear hSw
                    go_simp
                    try with_reducible rfl
                  try simp only [Act.put, List.setIfInBounds_toArray, List.set_cons_zero, List.set_cons_succ]
                  refine wpAnyH_ready (rs := [7]) (by kernel_rfl) (by simp) ?_
                  refine AllReadyH.cons (o := { dst := some 56, op := Op.call { callee := Callee.value (Operand.tmp 49), args := #[Operand.tmp 55, Operand.const (Value.int IntKind.i64 1)], argTypes := #[42, 3] }, type := 0, pos := "nlri.go:86", after := #[{ on := 0, ground := Ground.data }, { on := 6, ground := Ground.data }, { on := 4, ground := Ground.chain }], guard := none }) rfl (fun K hK => ?_) AllReadyH.nil
                  go_simp
                  refine HC13.out.mono ?_
                  rintro e w5 ⟨rfl, v5, ho, hgr⟩
                  go_wp2_with fail
                  refine hK.out _ _ (CellsAt.grownX hHeld hgr ((HO4.out.drew' 1).apart hHeld (by decide) N13.symm)) (fun hHeld => ?_)
                  clear hK K
                  try simp only [Act.put, List.setIfInBounds_toArray, List.set_cons_zero, List.set_cons_succ]
                  refine wpAnyH_done (by kernel_rfl) ?_ _
                  clear s1 s2 HC13 N13
                  have hp := hHeld
                  clear hHeld
                  have HP5 := Lib.hid hp
                  have HN5 := Lib.hid ((HN4.out.drew 1).grownX hgr ((HO4.out.drew' 1).apart (HN4.out.drew 1) (by decide) (by omega)))
                  have HB5 := Lib.hid (hgr.below (below_drewN HB4.out 1) (HO4.out.drew' 1).ge HB4.out.size)
                  have HO5 := Lib.hid ho
                  clear ho hgr hp HP4 HN4 HB4 HO4
                  go_wp2_with fail
                  refine (HLB.out _).mono ?_
                  rintro e wa ⟨rfl, hwa⟩
                  have hwa := hwa.symm
                  subst hwa
                  obtain ⟨p0, p1, p2, p3⟩ := HP5.out.c4
                  obtain ⟨q0, q1, q2, q3, q4, q5⟩ := HN5.out.c6
                  go_wp2_with fail
                  try rw [or_one n.label hl0 hl1]
                  refine (nput_is (z := 3) w1.heap.size v5 (encAll (L.take k) true ++ beB (n.id).toNat 4 4 ++ beB (n.len + aheadV fam).toNat 1 1) (n.label * 16 + 1) 3 _ HO5.out (by omega) (by omega) (by omega) (by omega) (fits _ _ (by omega) (by omega)) (by (try simp only [List.length_append, beB_length]); omega) rfl).mono ?_
                  rintro e w6 ⟨rfl, v6, ho, hgr⟩
                  clear p0 p1 p2 p3 q0 q1 q2 q3 q4 q5
                  have HP6 := Lib.hid (HP5.out.grownX hgr (HO5.out.apart HP5.out (by decide) (by omega)))
                  have HN6 := Lib.hid (HN5.out.grownX hgr (HO5.out.apart HN5.out (by decide) (by omega)))
                  have HB6 := Lib.hid (hgr.below HB5.out HO5.out.ge HB5.out.size)
                  have HO6 := Lib.hid ho
                  clear ho hgr HP5 HN5 HB5 HO5
                  go_wp2_with fail
                  refine (HAB.out _).mono ?_
                  rintro e wa ⟨rfl, hwa⟩
                  have hwa := hwa.symm
                  subst hwa
                  obtain ⟨p0, p1, p2, p3⟩ := HP6.out.c4
                  obtain ⟨q0, q1, q2, q3, q4, q5⟩ := HN6.out.c6
                  go_wp2_with fail
                  refine (nput_is (z := 8) w1.heap.size v6 (encAll (L.take k) true ++ beB (n.id).toNat 4 4 ++ beB (n.len + aheadV fam).toNat 1 1 ++ beB (n.label * 16 + 1).toNat 3 3) (n.rd) 8 _ HO6.out (by omega) (by omega) (by omega) (by omega) (fits _ _ (by omega) (by omega)) (by (try simp only [List.length_append, beB_length]); omega) rfl).mono ?_
                  rintro e w7 ⟨rfl, v7, ho, hgr⟩
                  clear p0 p1 p2 p3 q0 q1 q2 q3 q4 q5
                  have HP7 := Lib.hid (HP6.out.grownX hgr (HO6.out.apart HP6.out (by decide) (by omega)))
                  have HN7 := Lib.hid (HN6.out.grownX hgr (HO6.out.apart HN6.out (by decide) (by omega)))
                  have HB7 := Lib.hid (hgr.below HB6.out HO6.out.ge HB6.out.size)
                  have HO7 := Lib.hid ho
                  clear ho hgr HP6 HN6 HB6 HO6
                  go_wp2_with fail
                  have HO7d := Lib.hid (HO7.out.drew' 1)
                  obtain ⟨p0, p1, p2, p3⟩ := HP7.out.c4
                  obtain ⟨c0, f0⟩ := HO7.out.cell.one
                  go_still_tail 7, (by kernel_rfl)
                  still_call (HWH.out _)
                  repeat still_step
                  refine wpStill_nil ?_
                  change wpList _ _ _ _ _ w7.drew
                  clear p0 p1 p2 p3 c0 f0
                  have HB7d : Hid (Below w1.heap.size w1 w7.drew) := below_drewN HB7.out 1
                  have HO7e : Hid (OutAt w7.drew w1.heap.size v7 (encAll (L.take k) true ++ beB (n.id).toNat 4 4 ++ beB (n.len + aheadV fam).toNat 1 1 ++ beB (n.label * 16 + 1).toNat 3 3 ++ beB (n.rd).toNat 8 8)) := HO7d.out
                  clear HO7d HO7 HB7 HP7 HN7
                  generalize w7.drew = W9 at HB7d HO7e ⊢
                  obtain ⟨l9, hl9⟩ : ∃ l9 : List UInt8, l9 = encAll (L.take k) true ++ beB (n.id).toNat 4 4 ++ beB (n.len + aheadV fam).toNat 1 1 ++ beB (n.label * 16 + 1).toNat 3 3 ++ beB (n.rd).toNat 8 8 := ⟨_, rfl⟩
                  have hl9L : l9.length ≤ 330000 := by rw [hl9]; (try simp only [List.length_append, beB_length]); omega
                  have hfin : encAll (L.take (k + 1)) true = l9 ++ n.addr.data.toList.take m := by
                    rw [hl9, encAll_succ HN.out true, HEQN.out]
                    simp [List.append_assoc]
                  rw [← hl9] at HO7e
                  have HFIN := Lib.hid hfin
                  clear hl9 hfin
                  generalize n.addr.extract 0 m = X at HXB HXS HXL ⊢
                  have hXle : X.size ≤ 16 := by rw [HXS.out]; omega
                  have hbz := HB7d.out.size
                  have hclt := HO7e.out.cell.lt
                  go_wp2_with (at_builtin; refine wpList_append_m rfl (.tmp 72) (.tmp 78) 52 9 rfl (w1.heap.size + 1) 5 i0 _ 1 1 Try.underlying52 hi hz0 hz1 hz2 rfl ?h6xa1 v7 l9.length _ rfl HO7e.out.own _ X.size (byteVals X.data.toList) rfl ?h6xa2 ?h6xa3 ?h6xa4 ?h6xa5 ?h6xa6)
                  case h6xa2 => exact Src.string Try.underlying9
                  case h6xa1 => omega
                  case h6xa3 => (unfold maxLen; omega)
                  case h6xa4 => omega
                  case h6xa5 => omega
                  intro v' w10 hown hgr hat
                  obtain ⟨A', c', rfl⟩ := hown.form
                  have hng : v7.ownBlock ≠ some w1.heap.size := fun e => by have := (HO7e.out.own.lt _ e).1; omega
                  have hc2 : CellsAt w10 w1.heap.size #[v7] 52 := (hgr.block _ HO7e.out.cell.lt (fun e => hng e.symm)).trans HO7e.out.cell
                  have HOWN := Lib.hid hown
                  have HG2 := Lib.hid hgr
                  have HC2 := Lib.hid hc2
                  clear hown hgr hc2 hat
                  obtain ⟨c0, f0⟩ := HC2.out.one
                  go_wp2_with fail
                  have hown' := HOWN.out.setCell (p := ⟨w1.heap.size, 0, none⟩) (fun q hq e => by have h1 := (HOWN.out.lt q hq).1; have e2 : q = w1.heap.size := e; omega) (.slice A' (l9.length + X.size) c')
                  have hcell' := HC2.out.set (.slice A' (l9.length + X.size) c')
                  have hlen' : l9.length + X.size = (encAll (L.take (k + 1)) true).length := by rw [HFIN.out, List.length_append, HXL.out]
                  rw [HXB.out, ← byteVals_append, ← HFIN.out] at hown'
                  rw [hlen'] at hown' hcell' ⊢
                  exact ⟨⟨k + 1, _, by omega, by go_num, ⟨hcell', hown'⟩, HX9 _ _ _ HB7d.out HG2.out (fun q hq => by have := (HO7e.out.own.lt q hq).1; omega), HGS.out⟩, by simp [intOf]; omega⟩
        · have hadd : add = false := by simpa using hadd
          subst hadd
          have hid0 : n.id = 0 := hid.out.elim id (fun h => by cases h)
          have di : decide (0 < n.id) = false := decide_eq_false (by omega)
          clear hid hid0
          by_cases hfa : fam ≤ 2
          · as_aux_lemma =>
              rw [show labB fam = false from decide_eq_false (by omega)] at HLB HEQN0
              rw [show apB fam = false from decide_eq_false (by omega)] at HAB HEQN0
              clear hfa
              have HEQN := HEQN0
              clear HEQN0
              simp only [if_true, Bool.false_eq_true, if_false, List.nil_append, List.append_nil] at HEQN
              go_wp2_with fail
              have HC13 := Lib.hid (nput_is (z := 1) w1.heap.size v (encAll (L.take k) false) (n.len + aheadV fam) 1 w3.drew (HO3.out.drew' 1) (by omega) (by omega) (by omega) (by omega) (fits _ _ (by omega) (by omega)) (by (try simp only [List.length_append, beB_length]); omega) rfl)
              have s1 : IntKind.i64.wrap (n.len + aheadV fam) = n.len + aheadV fam := IntWalk.i64_in _ (by omega)
              have s2 : IntKind.u64.wrap (n.len + aheadV fam) = n.len + aheadV fam := IntWalk.u64_in _ (by omega)
              have N13 : w1.heap.size ≠ wr.heap.size + 1 := by clear s1 s2; omega
              refine wp_region_held_drew (S := fun w' => CellsAt w' (wr.heap.size + 1) #[.int .i64 n.fam, .int .u64 n.rd, .string n.addr, .int .i64 n.len] 44) (by kernel_rfl) (HP3.out.drew 1) (fun hHeld => ?_)
              refine wpAnyH_take (i := 0) (oi := { dst := some 49, op := Op.move (Operand.tmp 9), type := 101, pos := "nlri.go:86", after := #[], guard := none }) (v := ?_) rfl (by kernel_rfl) (by kernel_rfl) (by kernel_rfl) (fun _ _ _ h => h) (Or.inl ⟨by rfl, ?_⟩) hHeld ?_
              rotate_left
              · intro w hSw
                clear hSw
                go_simp
                try with_reducible rfl
              try simp only [Act.put, List.setIfInBounds_toArray, List.set_cons_zero, List.set_cons_succ]
              refine wpAnyH_take (i := 1) (oi := { dst := some 50, op := Op.fieldAddr 44 (Operand.tmp 12) 3, type := 0, pos := "nlri.go:86", after := #[], guard := none }) (v := ?_) rfl (by kernel_rfl) (by kernel_rfl) (by kernel_rfl) (fun _ _ _ h => h) (Or.inl ⟨by rfl, ?_⟩) hHeld ?_
              rotate_left
              · intro w hSw
                clear hSw
                go_simp
                try with_reducible rfl
              try simp only [Act.put, List.setIfInBounds_toArray, List.set_cons_zero, List.set_cons_succ]
              refine wpAnyH_take (i := 2) (oi := { dst := some 51, op := Op.load 3 (Operand.tmp 50), type := 3, pos := "nlri.go:86", after := #[{ on := 1, ground := Ground.data }], guard := none }) (v := ?_) rfl (by kernel_rfl) (by kernel_rfl) (by kernel_rfl) (fun _ _ _ h => h) (Or.inl ⟨by rfl, ?_⟩) hHeld ?_
              rotate_left
              · intro w hSw
                obtain ⟨p0, p1, p2, p3⟩ := CellsAt.c4 hSw
                go_simp
                try with_reducible rfl
              try simp only [Act.put, List.setIfInBounds_toArray, List.set_cons_zero, List.set_cons_succ]
              refine wpAnyH_take (i := 3) (oi := { dst := some 52, op := Op.move (Operand.tmp 1), type := 3, pos := "nlri.go:86", after := #[], guard := none }) (v := ?_) rfl (by kernel_rfl) (by kernel_rfl) (by kernel_rfl) (fun _ _ _ h => h) (Or.inl ⟨by rfl, ?_⟩) hHeld ?_
              rotate_left
              · intro w hSw
                clear hSw
                go_simp
                try with_reducible rfl
              try simp only [Act.put, List.setIfInBounds_toArray, List.set_cons_zero, List.set_cons_succ]
              refine wpAnyH_ready (rs := [4]) (by kernel_rfl) (by simp) ?_
              refine AllReadyH.cons (o := { dst := some 53, op := Op.call { callee := Callee.value (Operand.func 55), args := #[Operand.tmp 52], argTypes := #[3] }, type := 3, pos := "nlri.go:86", after := #[{ on := 3, ground := Ground.data }], guard := none }) rfl (fun K hK => ?_) AllReadyH.nil
              go_simp
              refine (HA.out _).mono ?_
              rintro e wa ⟨rfl, rfl⟩
              go_wp2_with fail
              refine hK.out _ _ (hHeld) (fun hHeld => ?_)
              clear hK K
              try simp only [Act.put, List.setIfInBounds_toArray, List.set_cons_zero, List.set_cons_succ]
              refine wpAnyH_take (i := 5) (oi := { dst := some 54, op := Op.binOp BinOp.add 3 (Operand.tmp 51) (Operand.tmp 53) 3, type := 3, pos := "nlri.go:86", after := #[{ on := 2, ground := Ground.data }, { on := 4, ground := Ground.data }], guard := none }) (v := ?_) rfl (by kernel_rfl) (by kernel_rfl) (by kernel_rfl) (fun _ _ _ h => h) (Or.inl ⟨by rfl, ?_⟩) hHeld ?_
              rotate_left
              · intro w hSw
                clear hSw
                go_simp
                try with_reducible rfl
              try simp only [Act.put, List.setIfInBounds_toArray, List.set_cons_zero, List.set_cons_succ]
              refine wpAnyH_take (i := 6) (oi := { dst := some 55, op := Op.convert 3 42 (Operand.tmp 54), type := 42, pos := "nlri.go:86", after := #[{ on := 5, ground := Ground.data }], guard := none }) (v := ?_) rfl (by kernel_rfl) (by kernel_rfl) (by kernel_rfl) (fun _ _ _ h => h) (Or.inl ⟨by rfl, ?_⟩) hHeld ?_
              rotate_left
              · intro w hSw
                clear hSw
                go_simp
                try with_reducible rfl
              try simp only [Act.put, List.setIfInBounds_toArray, List.set_cons_zero, List.set_cons_succ]
              refine wpAnyH_ready (rs := [7]) (by kernel_rfl) (by simp) ?_
              refine AllReadyH.cons (o := { dst := some 56, op := Op.call { callee := Callee.value (Operand.tmp 49), args := #[Operand.tmp 55, Operand.const (Value.int IntKind.i64 1)], argTypes := #[42, 3] }, type := 0, pos := "nlri.go:86", after := #[{ on := 0, ground := Ground.data }, { on := 6, ground := Ground.data }, { on := 4, ground := Ground.chain }], guard := none }) rfl (fun K hK => ?_) AllReadyH.nil
              go_simp
              refine HC13.out.mono ?_
              rintro e w4 ⟨rfl, v4, ho, hgr⟩
              go_wp2_with fail
              refine hK.out _ _ (CellsAt.grownX hHeld hgr ((HO3.out.drew' 1).apart hHeld (by decide) N13.symm)) (fun hHeld => ?_)
              clear hK K
              try simp only [Act.put, List.setIfInBounds_toArray, List.set_cons_zero, List.set_cons_succ]
              refine wpAnyH_done (by kernel_rfl) ?_ _
              clear s1 s2 HC13 N13
              have hp := hHeld
              clear hHeld
              have HP4 := Lib.hid hp
              have HN4 := Lib.hid ((HN3.out.drew 1).grownX hgr ((HO3.out.drew' 1).apart (HN3.out.drew 1) (by decide) (by omega)))
              have HB4 := Lib.hid (hgr.below (below_drewN HB3.out 1) (HO3.out.drew' 1).ge HB3.out.size)
              have HO4 := Lib.hid ho
              clear ho hgr hp HP3 HN3 HB3 HO3
              go_wp2_with fail
              refine (HLB.out _).mono ?_
              rintro e wa ⟨rfl, hwa⟩
              have hwa := hwa.symm
              subst hwa
              go_wp2_with fail
              refine (HAB.out _).mono ?_
              rintro e wa ⟨rfl, hwa⟩
              have hwa := hwa.symm
              subst hwa
              go_wp2_with fail
              have HO4d := Lib.hid (HO4.out.drew' 1)
              obtain ⟨p0, p1, p2, p3⟩ := HP4.out.c4
              obtain ⟨c0, f0⟩ := HO4.out.cell.one
              go_still_tail 7, (by kernel_rfl)
              still_call (HWH.out _)
              repeat still_step
              refine wpStill_nil ?_
              change wpList _ _ _ _ _ w4.drew
              clear p0 p1 p2 p3 c0 f0
              have HB4d : Hid (Below w1.heap.size w1 w4.drew) := below_drewN HB4.out 1
              have HO4e : Hid (OutAt w4.drew w1.heap.size v4 (encAll (L.take k) false ++ beB (n.len + aheadV fam).toNat 1 1)) := HO4d.out
              clear HO4d HO4 HB4 HP4 HN4
              generalize w4.drew = W9 at HB4d HO4e ⊢
              obtain ⟨l9, hl9⟩ : ∃ l9 : List UInt8, l9 = encAll (L.take k) false ++ beB (n.len + aheadV fam).toNat 1 1 := ⟨_, rfl⟩
              have hl9L : l9.length ≤ 330000 := by rw [hl9]; (try simp only [List.length_append, beB_length]); omega
              have hfin : encAll (L.take (k + 1)) false = l9 ++ n.addr.data.toList.take m := by
                rw [hl9, encAll_succ HN.out false, HEQN.out]
                simp [List.append_assoc]
              rw [← hl9] at HO4e
              have HFIN := Lib.hid hfin
              clear hl9 hfin
              generalize n.addr.extract 0 m = X at HXB HXS HXL ⊢
              have hXle : X.size ≤ 16 := by rw [HXS.out]; omega
              have hbz := HB4d.out.size
              have hclt := HO4e.out.cell.lt
              go_wp2_with (at_builtin; refine wpList_append_m rfl (.tmp 72) (.tmp 78) 52 9 rfl (w1.heap.size + 1) 5 i0 _ 1 1 Try.underlying52 hi hz0 hz1 hz2 rfl ?h7xa1 v4 l9.length _ rfl HO4e.out.own _ X.size (byteVals X.data.toList) rfl ?h7xa2 ?h7xa3 ?h7xa4 ?h7xa5 ?h7xa6)
              case h7xa2 => exact Src.string Try.underlying9
              case h7xa1 => omega
              case h7xa3 => (unfold maxLen; omega)
              case h7xa4 => omega
              case h7xa5 => omega
              intro v' w10 hown hgr hat
              obtain ⟨A', c', rfl⟩ := hown.form
              have hng : v4.ownBlock ≠ some w1.heap.size := fun e => by have := (HO4e.out.own.lt _ e).1; omega
              have hc2 : CellsAt w10 w1.heap.size #[v4] 52 := (hgr.block _ HO4e.out.cell.lt (fun e => hng e.symm)).trans HO4e.out.cell
              have HOWN := Lib.hid hown
              have HG2 := Lib.hid hgr
              have HC2 := Lib.hid hc2
              clear hown hgr hc2 hat
              obtain ⟨c0, f0⟩ := HC2.out.one
              go_wp2_with fail
              have hown' := HOWN.out.setCell (p := ⟨w1.heap.size, 0, none⟩) (fun q hq e => by have h1 := (HOWN.out.lt q hq).1; have e2 : q = w1.heap.size := e; omega) (.slice A' (l9.length + X.size) c')
              have hcell' := HC2.out.set (.slice A' (l9.length + X.size) c')
              have hlen' : l9.length + X.size = (encAll (L.take (k + 1)) false).length := by rw [HFIN.out, List.length_append, HXL.out]
              rw [HXB.out, ← byteVals_append, ← HFIN.out] at hown'
              rw [hlen'] at hown' hcell' ⊢
              exact ⟨⟨k + 1, _, by omega, by go_num, ⟨hcell', hown'⟩, HX9 _ _ _ HB4d.out HG2.out (fun q hq => by have := (HO4e.out.own.lt q hq).1; omega), HGS.out⟩, by simp [intOf]; omega⟩
          · by_cases hfb : fam = 3
            · as_aux_lemma =>
                rw [show labB fam = true from decide_eq_true (by omega)] at HLB HEQN0
                rw [show apB fam = false from decide_eq_false (by omega)] at HAB HEQN0
                clear hfa hfb
                have HEQN := HEQN0
                clear HEQN0
                simp only [if_true, Bool.false_eq_true, if_false, List.nil_append, List.append_nil] at HEQN
                go_wp2_with fail
                have HC13 := Lib.hid (nput_is (z := 1) w1.heap.size v (encAll (L.take k) false) (n.len + aheadV fam) 1 w3.drew (HO3.out.drew' 1) (by omega) (by omega) (by omega) (by omega) (fits _ _ (by omega) (by omega)) (by (try simp only [List.length_append, beB_length]); omega) rfl)
                have s1 : IntKind.i64.wrap (n.len + aheadV fam) = n.len + aheadV fam := IntWalk.i64_in _ (by omega)
                have s2 : IntKind.u64.wrap (n.len + aheadV fam) = n.len + aheadV fam := IntWalk.u64_in _ (by omega)
                have N13 : w1.heap.size ≠ wr.heap.size + 1 := by clear s1 s2; omega
                refine wp_region_held_drew (S := fun w' => CellsAt w' (wr.heap.size + 1) #[.int .i64 n.fam, .int .u64 n.rd, .string n.addr, .int .i64 n.len] 44) (by kernel_rfl) (HP3.out.drew 1) (fun hHeld => ?_)
                refine wpAnyH_take (i := 0) (oi := { dst := some 49, op := Op.move (Operand.tmp 9), type := 101, pos := "nlri.go:86", after := #[], guard := none }) (v := ?_) rfl (by kernel_rfl) (by kernel_rfl) (by kernel_rfl) (fun _ _ _ h => h) (Or.inl ⟨by rfl, ?_⟩) hHeld ?_
                rotate_left
                · intro w hSw
                  clear hSw
                  go_simp
                  try with_reducible rfl
                try simp only [Act.put, List.setIfInBounds_toArray, List.set_cons_zero, List.set_cons_succ]
                refine wpAnyH_take (i := 1) (oi := { dst := some 50, op := Op.fieldAddr 44 (Operand.tmp 12) 3, type := 0, pos := "nlri.go:86", after := #[], guard := none }) (v := ?_) rfl (by kernel_rfl) (by kernel_rfl) (by kernel_rfl) (fun _ _ _ h => h) (Or.inl ⟨by rfl, ?_⟩) hHeld ?_
                rotate_left
                · intro w hSw
                  clear hSw
                  go_simp
                  try with_reducible rfl
                try simp only [Act.put, List.setIfInBounds_toArray, List.set_cons_zero, List.set_cons_succ]
                refine wpAnyH_take (i := 2) (oi := { dst := some 51, op := Op.load 3 (Operand.tmp 50), type := 3, pos := "nlri.go:86", after := #[{ on := 1, ground := Ground.data }], guard := none }) (v := ?_) rfl (by kernel_rfl) (by kernel_rfl) (by kernel_rfl) (fun _ _ _ h => h) (Or.inl ⟨by rfl, ?_⟩) hHeld ?_
                rotate_left
                · intro w hSw
                  obtain ⟨p0, p1, p2, p3⟩ := CellsAt.c4 hSw
                  go_simp
                  try with_reducible rfl
                try simp only [Act.put, List.setIfInBounds_toArray, List.set_cons_zero, List.set_cons_succ]
                refine wpAnyH_take (i := 3) (oi := { dst := some 52, op := Op.move (Operand.tmp 1), type := 3, pos := "nlri.go:86", after := #[], guard := none }) (v := ?_) rfl (by kernel_rfl) (by kernel_rfl) (by kernel_rfl) (fun _ _ _ h => h) (Or.inl ⟨by rfl, ?_⟩) hHeld ?_
                rotate_left
                · intro w hSw
                  clear hSw
                  go_simp
                  try with_reducible rfl
                try simp only [Act.put, List.setIfInBounds_toArray, List.set_cons_zero, List.set_cons_succ]
                refine wpAnyH_ready (rs := [4]) (by kernel_rfl) (by simp) ?_
                refine AllReadyH.cons (o := { dst := some 53, op := Op.call { callee := Callee.value (Operand.func 55), args := #[Operand.tmp 52], argTypes := #[3] }, type := 3, pos := "nlri.go:86", after := #[{ on := 3, ground := Ground.data }], guard := none }) rfl (fun K hK => ?_) AllReadyH.nil
                go_simp
                refine (HA.out _).mono ?_
                rintro e wa ⟨rfl, rfl⟩
                go_wp2_with fail
                refine hK.out _ _ (hHeld) (fun hHeld => ?_)
                clear hK K
                try simp only [Act.put, List.setIfInBounds_toArray, List.set_cons_zero, List.set_cons_succ]
                refine wpAnyH_take (i := 5) (oi := { dst := some 54, op := Op.binOp BinOp.add 3 (Operand.tmp 51) (Operand.tmp 53) 3, type := 3, pos := "nlri.go:86", after := #[{ on := 2, ground := Ground.data }, { on := 4, ground := Ground.data }], guard := none }) (v := ?_) rfl (by kernel_rfl) (by kernel_rfl) (by kernel_rfl) (fun _ _ _ h => h) (Or.inl ⟨by rfl, ?_⟩) hHeld ?_
                rotate_left
                · intro w hSw
                  clear hSw
                  go_simp
                  try with_reducible rfl
                try simp only [Act.put, List.setIfInBounds_toArray, List.set_cons_zero, List.set_cons_succ]
                refine wpAnyH_take (i := 6) (oi := { dst := some 55, op := Op.convert 3 42 (Operand.tmp 54), type := 42, pos := "nlri.go:86", after := #[{ on := 5, ground := Ground.data }], guard := none }) (v := ?_) rfl (by kernel_rfl) (by kernel_rfl) (by kernel_rfl) (fun _ _ _ h => h) (Or.inl ⟨by rfl, ?_⟩) hHeld ?_
                rotate_left
                · intro w hSw
                  clear hSw
                  go_simp
                  try with_reducible rfl
                try simp only [Act.put, List.setIfInBounds_toArray, List.set_cons_zero, List.set_cons_succ]
                refine wpAnyH_ready (rs := [7]) (by kernel_rfl) (by simp) ?_
                refine AllReadyH.cons (o := { dst := some 56, op := Op.call { callee := Callee.value (Operand.tmp 49), args := #[Operand.tmp 55, Operand.const (Value.int IntKind.i64 1)], argTypes := #[42, 3] }, type := 0, pos := "nlri.go:86", after := #[{ on := 0, ground := Ground.data }, { on := 6, ground := Ground.data }, { on := 4, ground := Ground.chain }], guard := none }) rfl (fun K hK => ?_) AllReadyH.nil
                go_simp
                refine HC13.out.mono ?_
                rintro e w4 ⟨rfl, v4, ho, hgr⟩
                go_wp2_with fail
                refine hK.out _ _ (CellsAt.grownX hHeld hgr ((HO3.out.drew' 1).apart hHeld (by decide) N13.symm)) (fun hHeld => ?_)
                clear hK K
                try simp only [Act.put, List.setIfInBounds_toArray, List.set_cons_zero, List.set_cons_succ]
                refine wpAnyH_done (by kernel_rfl) ?_ _
                clear s1 s2 HC13 N13
                have hp := hHeld
                clear hHeld
                have HP4 := Lib.hid hp
                have HN4 := Lib.hid ((HN3.out.drew 1).grownX hgr ((HO3.out.drew' 1).apart (HN3.out.drew 1) (by decide) (by omega)))
                have HB4 := Lib.hid (hgr.below (below_drewN HB3.out 1) (HO3.out.drew' 1).ge HB3.out.size)
                have HO4 := Lib.hid ho
                clear ho hgr hp HP3 HN3 HB3 HO3
                go_wp2_with fail
                refine (HLB.out _).mono ?_
                rintro e wa ⟨rfl, hwa⟩
                have hwa := hwa.symm
                subst hwa
                obtain ⟨p0, p1, p2, p3⟩ := HP4.out.c4
                obtain ⟨q0, q1, q2, q3, q4, q5⟩ := HN4.out.c6
                go_wp2_with fail
                try rw [or_one n.label hl0 hl1]
                refine (nput_is (z := 3) w1.heap.size v4 (encAll (L.take k) false ++ beB (n.len + aheadV fam).toNat 1 1) (n.label * 16 + 1) 3 _ HO4.out (by omega) (by omega) (by omega) (by omega) (fits _ _ (by omega) (by omega)) (by (try simp only [List.length_append, beB_length]); omega) rfl).mono ?_
                rintro e w5 ⟨rfl, v5, ho, hgr⟩
                clear p0 p1 p2 p3 q0 q1 q2 q3 q4 q5
                have HP5 := Lib.hid (HP4.out.grownX hgr (HO4.out.apart HP4.out (by decide) (by omega)))
                have HN5 := Lib.hid (HN4.out.grownX hgr (HO4.out.apart HN4.out (by decide) (by omega)))
                have HB5 := Lib.hid (hgr.below HB4.out HO4.out.ge HB4.out.size)
                have HO5 := Lib.hid ho
                clear ho hgr HP4 HN4 HB4 HO4
                go_wp2_with fail
                refine (HAB.out _).mono ?_
                rintro e wa ⟨rfl, hwa⟩
                have hwa := hwa.symm
                subst hwa
                go_wp2_with fail
                have HO5d := Lib.hid (HO5.out.drew' 1)
                obtain ⟨p0, p1, p2, p3⟩ := HP5.out.c4
                obtain ⟨c0, f0⟩ := HO5.out.cell.one
                go_still_tail 7, (by kernel_rfl)
                still_call (HWH.out _)
                repeat still_step
                refine wpStill_nil ?_
                change wpList _ _ _ _ _ w5.drew
                clear p0 p1 p2 p3 c0 f0
                have HB5d : Hid (Below w1.heap.size w1 w5.drew) := below_drewN HB5.out 1
                have HO5e : Hid (OutAt w5.drew w1.heap.size v5 (encAll (L.take k) false ++ beB (n.len + aheadV fam).toNat 1 1 ++ beB (n.label * 16 + 1).toNat 3 3)) := HO5d.out
                clear HO5d HO5 HB5 HP5 HN5
                generalize w5.drew = W9 at HB5d HO5e ⊢
                obtain ⟨l9, hl9⟩ : ∃ l9 : List UInt8, l9 = encAll (L.take k) false ++ beB (n.len + aheadV fam).toNat 1 1 ++ beB (n.label * 16 + 1).toNat 3 3 := ⟨_, rfl⟩
                have hl9L : l9.length ≤ 330000 := by rw [hl9]; (try simp only [List.length_append, beB_length]); omega
                have hfin : encAll (L.take (k + 1)) false = l9 ++ n.addr.data.toList.take m := by
                  rw [hl9, encAll_succ HN.out false, HEQN.out]
                  simp [List.append_assoc]
                rw [← hl9] at HO5e
                have HFIN := Lib.hid hfin
                clear hl9 hfin
                generalize n.addr.extract 0 m = X at HXB HXS HXL ⊢
                have hXle : X.size ≤ 16 := by rw [HXS.out]; omega
                have hbz := HB5d.out.size
                have hclt := HO5e.out.cell.lt
                go_wp2_with (at_builtin; refine wpList_append_m rfl (.tmp 72) (.tmp 78) 52 9 rfl (w1.heap.size + 1) 5 i0 _ 1 1 Try.underlying52 hi hz0 hz1 hz2 rfl ?h8xa1 v5 l9.length _ rfl HO5e.out.own _ X.size (byteVals X.data.toList) rfl ?h8xa2 ?h8xa3 ?h8xa4 ?h8xa5 ?h8xa6)
                case h8xa2 => exact Src.string Try.underlying9
                case h8xa1 => omega
                case h8xa3 => (unfold maxLen; omega)
                case h8xa4 => omega
                case h8xa5 => omega
                intro v' w10 hown hgr hat
                obtain ⟨A', c', rfl⟩ := hown.form
                have hng : v5.ownBlock ≠ some w1.heap.size := fun e => by have := (HO5e.out.own.lt _ e).1; omega
                have hc2 : CellsAt w10 w1.heap.size #[v5] 52 := (hgr.block _ HO5e.out.cell.lt (fun e => hng e.symm)).trans HO5e.out.cell
                have HOWN := Lib.hid hown
                have HG2 := Lib.hid hgr
                have HC2 := Lib.hid hc2
                clear hown hgr hc2 hat
                obtain ⟨c0, f0⟩ := HC2.out.one
                go_wp2_with fail
                have hown' := HOWN.out.setCell (p := ⟨w1.heap.size, 0, none⟩) (fun q hq e => by have h1 := (HOWN.out.lt q hq).1; have e2 : q = w1.heap.size := e; omega) (.slice A' (l9.length + X.size) c')
                have hcell' := HC2.out.set (.slice A' (l9.length + X.size) c')
                have hlen' : l9.length + X.size = (encAll (L.take (k + 1)) false).length := by rw [HFIN.out, List.length_append, HXL.out]
                rw [HXB.out, ← byteVals_append, ← HFIN.out] at hown'
                rw [hlen'] at hown' hcell' ⊢
                exact ⟨⟨k + 1, _, by omega, by go_num, ⟨hcell', hown'⟩, HX9 _ _ _ HB5d.out HG2.out (fun q hq => by have := (HO5e.out.own.lt q hq).1; omega), HGS.out⟩, by simp [intOf]; omega⟩
            · as_aux_lemma =>
                rw [show labB fam = true from decide_eq_true (by omega)] at HLB HEQN0
                rw [show apB fam = true from decide_eq_true (by omega)] at HAB HEQN0
                clear hfa hfb
                have HEQN := HEQN0
                clear HEQN0
                simp only [if_true, Bool.false_eq_true, if_false, List.nil_append, List.append_nil] at HEQN
                go_wp2_with fail
                have HC13 := Lib.hid (nput_is (z := 1) w1.heap.size v (encAll (L.take k) false) (n.len + aheadV fam) 1 w3.drew (HO3.out.drew' 1) (by omega) (by omega) (by omega) (by omega) (fits _ _ (by omega) (by omega)) (by (try simp only [List.length_append, beB_length]); omega) rfl)
                have s1 : IntKind.i64.wrap (n.len + aheadV fam) = n.len + aheadV fam := IntWalk.i64_in _ (by omega)
                have s2 : IntKind.u64.wrap (n.len + aheadV fam) = n.len + aheadV fam := IntWalk.u64_in _ (by omega)
                have N13 : w1.heap.size ≠ wr.heap.size + 1 := by clear s1 s2; omega
                refine wp_region_held_drew (S := fun w' => CellsAt w' (wr.heap.size + 1) #[.int .i64 n.fam, .int .u64 n.rd, .string n.addr, .int .i64 n.len] 44) (by kernel_rfl) (HP3.out.drew 1) (fun hHeld => ?_)
                refine wpAnyH_take (i := 0) (oi := { dst := some 49, op := Op.move (Operand.tmp 9), type := 101, pos := "nlri.go:86", after := #[], guard := none }) (v := ?_) rfl (by kernel_rfl) (by kernel_rfl) (by kernel_rfl) (fun _ _ _ h => h) (Or.inl ⟨by rfl, ?_⟩) hHeld ?_
                rotate_left
                · intro w hSw
                  clear hSw
                  go_simp
                  try with_reducible rfl
                try simp only [Act.put, List.setIfInBounds_toArray, List.set_cons_zero, List.set_cons_succ]
                refine wpAnyH_take (i := 1) (oi := { dst := some 50, op := Op.fieldAddr 44 (Operand.tmp 12) 3, type := 0, pos := "nlri.go:86", after := #[], guard := none }) (v := ?_) rfl (by kernel_rfl) (by kernel_rfl) (by kernel_rfl) (fun _ _ _ h => h) (Or.inl ⟨by rfl, ?_⟩) hHeld ?_
                rotate_left
                · intro w hSw
                  clear hSw
                  go_simp
                  try with_reducible rfl
                try simp only [Act.put, List.setIfInBounds_toArray, List.set_cons_zero, List.set_cons_succ]
                refine wpAnyH_take (i := 2) (oi := { dst := some 51, op := Op.load 3 (Operand.tmp 50), type := 3, pos := "nlri.go:86", after := #[{ on := 1, ground := Ground.data }], guard := none }) (v := ?_) rfl (by kernel_rfl) (by kernel_rfl) (by kernel_rfl) (fun _ _ _ h => h) (Or.inl ⟨by rfl, ?_⟩) hHeld ?_
                rotate_left
                · intro w hSw
                  obtain ⟨p0, p1, p2, p3⟩ := CellsAt.c4 hSw
                  go_simp
                  try with_reducible rfl
                try simp only [Act.put, List.setIfInBounds_toArray, List.set_cons_zero, List.set_cons_succ]
                refine wpAnyH_take (i := 3) (oi := { dst := some 52, op := Op.move (Operand.tmp 1), type := 3, pos := "nlri.go:86", after := #[], guard := none }) (v := ?_) rfl (by kernel_rfl) (by kernel_rfl) (by kernel_rfl) (fun _ _ _ h => h) (Or.inl ⟨by rfl, ?_⟩) hHeld ?_
                rotate_left
                · intro w hSw
                  clear hSw
                  go_simp
                  try with_reducible rfl
                try simp only [Act.put, List.setIfInBounds_toArray, List.set_cons_zero, List.set_cons_succ]
                refine wpAnyH_ready (rs := [4]) (by kernel_rfl) (by simp) ?_
                refine AllReadyH.cons (o := { dst := some 53, op := Op.call { callee := Callee.value (Operand.func 55), args := #[Operand.tmp 52], argTypes := #[3] }, type := 3, pos := "nlri.go:86", after := #[{ on := 3, ground := Ground.data }], guard := none }) rfl (fun K hK => ?_) AllReadyH.nil
                go_simp
                refine (HA.out _).mono ?_
                rintro e wa ⟨rfl, rfl⟩
                go_wp2_with fail
                refine hK.out _ _ (hHeld) (fun hHeld => ?_)
                clear hK K
                try simp only [Act.put, List.setIfInBounds_toArray, List.set_cons_zero, List.set_cons_succ]
                refine wpAnyH_take (i := 5) (oi := { dst := some 54, op := Op.binOp BinOp.add 3 (Operand.tmp 51) (Operand.tmp 53) 3, type := 3, pos := "nlri.go:86", after := #[{ on := 2, ground := Ground.data }, { on := 4, ground := Ground.data }], guard := none }) (v := ?_) rfl (by kernel_rfl) (by kernel_rfl) (by kernel_rfl) (fun _ _ _ h => h) (Or.inl ⟨by rfl, ?_⟩) hHeld ?_
                rotate_left
                · intro w hSw
                  clear hSw
                  go_simp
                  try with_reducible rfl
                try simp only [Act.put, List.setIfInBounds_toArray, List.set_cons_zero, List.set_cons_succ]
                refine wpAnyH_take (i := 6) (oi := { dst := some 55, op := Op.convert 3 42 (Operand.tmp 54), type := 42, pos := "nlri.go:86", after := #[{ on := 5, ground := Ground.data }], guard := none }) (v := ?_) rfl (by kernel_rfl) (by kernel_rfl) (by kernel_rfl) (fun _ _ _ h => h) (Or.inl ⟨by rfl, ?_⟩) hHeld ?_
                rotate_left
                · intro w hSw
                  clear hSw
                  go_simp
                  try with_reducible rfl
                try simp only [Act.put, List.setIfInBounds_toArray, List.set_cons_zero, List.set_cons_succ]
                refine wpAnyH_ready (rs := [7]) (by kernel_rfl) (by simp) ?_
                refine AllReadyH.cons (o := { dst := some 56, op := Op.call { callee := Callee.value (Operand.tmp 49), args := #[Operand.tmp 55, Operand.const (Value.int IntKind.i64 1)], argTypes := #[42, 3] }, type := 0, pos := "nlri.go:86", after := #[{ on := 0, ground := Ground.data }, { on := 6, ground := Ground.data }, { on := 4, ground := Ground.chain }], guard := none }) rfl (fun K hK => ?_) AllReadyH.nil
                go_simp
                refine HC13.out.mono ?_
                rintro e w4 ⟨rfl, v4, ho, hgr⟩
                go_wp2_with fail
                refine hK.out _ _ (CellsAt.grownX hHeld hgr ((HO3.out.drew' 1).apart hHeld (by decide) N13.symm)) (fun hHeld => ?_)
                clear hK K
                try simp only [Act.put, List.setIfInBounds_toArray, List.set_cons_zero, List.set_cons_succ]
                refine wpAnyH_done (by kernel_rfl) ?_ _
                clear s1 s2 HC13 N13
                have hp := hHeld
                clear hHeld
                have HP4 := Lib.hid hp
                have HN4 := Lib.hid ((HN3.out.drew 1).grownX hgr ((HO3.out.drew' 1).apart (HN3.out.drew 1) (by decide) (by omega)))
                have HB4 := Lib.hid (hgr.below (below_drewN HB3.out 1) (HO3.out.drew' 1).ge HB3.out.size)
                have HO4 := Lib.hid ho
                clear ho hgr hp HP3 HN3 HB3 HO3
                go_wp2_with fail
                refine (HLB.out _).mono ?_
                rintro e wa ⟨rfl, hwa⟩
                have hwa := hwa.symm
                subst hwa
                obtain ⟨p0, p1, p2, p3⟩ := HP4.out.c4
                obtain ⟨q0, q1, q2, q3, q4, q5⟩ := HN4.out.c6
                go_wp2_with fail
                try rw [or_one n.label hl0 hl1]
                refine (nput_is (z := 3) w1.heap.size v4 (encAll (L.take k) false ++ beB (n.len + aheadV fam).toNat 1 1) (n.label * 16 + 1) 3 _ HO4.out (by omega) (by omega) (by omega) (by omega) (fits _ _ (by omega) (by omega)) (by (try simp only [List.length_append, beB_length]); omega) rfl).mono ?_
                rintro e w5 ⟨rfl, v5, ho, hgr⟩
                clear p0 p1 p2 p3 q0 q1 q2 q3 q4 q5
                have HP5 := Lib.hid (HP4.out.grownX hgr (HO4.out.apart HP4.out (by decide) (by omega)))
                have HN5 := Lib.hid (HN4.out.grownX hgr (HO4.out.apart HN4.out (by decide) (by omega)))
                have HB5 := Lib.hid (hgr.below HB4.out HO4.out.ge HB4.out.size)
                have HO5 := Lib.hid ho
                clear ho hgr HP4 HN4 HB4 HO4
                go_wp2_with fail
                refine (HAB.out _).mono ?_
                rintro e wa ⟨rfl, hwa⟩
                have hwa := hwa.symm
                subst hwa
                obtain ⟨p0, p1, p2, p3⟩ := HP5.out.c4
                obtain ⟨q0, q1, q2, q3, q4, q5⟩ := HN5.out.c6
                go_wp2_with fail
                refine (nput_is (z := 8) w1.heap.size v5 (encAll (L.take k) false ++ beB (n.len + aheadV fam).toNat 1 1 ++ beB (n.label * 16 + 1).toNat 3 3) (n.rd) 8 _ HO5.out (by omega) (by omega) (by omega) (by omega) (fits _ _ (by omega) (by omega)) (by (try simp only [List.length_append, beB_length]); omega) rfl).mono ?_
                rintro e w6 ⟨rfl, v6, ho, hgr⟩
                clear p0 p1 p2 p3 q0 q1 q2 q3 q4 q5
                have HP6 := Lib.hid (HP5.out.grownX hgr (HO5.out.apart HP5.out (by decide) (by omega)))
                have HN6 := Lib.hid (HN5.out.grownX hgr (HO5.out.apart HN5.out (by decide) (by omega)))
                have HB6 := Lib.hid (hgr.below HB5.out HO5.out.ge HB5.out.size)
                have HO6 := Lib.hid ho
                clear ho hgr HP5 HN5 HB5 HO5
                go_wp2_with fail
                have HO6d := Lib.hid (HO6.out.drew' 1)
                obtain ⟨p0, p1, p2, p3⟩ := HP6.out.c4
                obtain ⟨c0, f0⟩ := HO6.out.cell.one
                go_still_tail 7, (by kernel_rfl)
                still_call (HWH.out _)
                repeat still_step
                refine wpStill_nil ?_
                change wpList _ _ _ _ _ w6.drew
                clear p0 p1 p2 p3 c0 f0
                have HB6d : Hid (Below w1.heap.size w1 w6.drew) := below_drewN HB6.out 1
                have HO6e : Hid (OutAt w6.drew w1.heap.size v6 (encAll (L.take k) false ++ beB (n.len + aheadV fam).toNat 1 1 ++ beB (n.label * 16 + 1).toNat 3 3 ++ beB (n.rd).toNat 8 8)) := HO6d.out
                clear HO6d HO6 HB6 HP6 HN6
                generalize w6.drew = W9 at HB6d HO6e ⊢
                obtain ⟨l9, hl9⟩ : ∃ l9 : List UInt8, l9 = encAll (L.take k) false ++ beB (n.len + aheadV fam).toNat 1 1 ++ beB (n.label * 16 + 1).toNat 3 3 ++ beB (n.rd).toNat 8 8 := ⟨_, rfl⟩
                have hl9L : l9.length ≤ 330000 := by rw [hl9]; (try simp only [List.length_append, beB_length]); omega
                have hfin : encAll (L.take (k + 1)) false = l9 ++ n.addr.data.toList.take m := by
                  rw [hl9, encAll_succ HN.out false, HEQN.out]
                  simp [List.append_assoc]
                rw [← hl9] at HO6e
                have HFIN := Lib.hid hfin
                clear hl9 hfin
                generalize n.addr.extract 0 m = X at HXB HXS HXL ⊢
                have hXle : X.size ≤ 16 := by rw [HXS.out]; omega
                have hbz := HB6d.out.size
                have hclt := HO6e.out.cell.lt
                go_wp2_with (at_builtin; refine wpList_append_m rfl (.tmp 72) (.tmp 78) 52 9 rfl (w1.heap.size + 1) 5 i0 _ 1 1 Try.underlying52 hi hz0 hz1 hz2 rfl ?h9xa1 v6 l9.length _ rfl HO6e.out.own _ X.size (byteVals X.data.toList) rfl ?h9xa2 ?h9xa3 ?h9xa4 ?h9xa5 ?h9xa6)
                case h9xa2 => exact Src.string Try.underlying9
                case h9xa1 => omega
                case h9xa3 => (unfold maxLen; omega)
                case h9xa4 => omega
                case h9xa5 => omega
                intro v' w10 hown hgr hat
                obtain ⟨A', c', rfl⟩ := hown.form
                have hng : v6.ownBlock ≠ some w1.heap.size := fun e => by have := (HO6e.out.own.lt _ e).1; omega
                have hc2 : CellsAt w10 w1.heap.size #[v6] 52 := (hgr.block _ HO6e.out.cell.lt (fun e => hng e.symm)).trans HO6e.out.cell
                have HOWN := Lib.hid hown
                have HG2 := Lib.hid hgr
                have HC2 := Lib.hid hc2
                clear hown hgr hc2 hat
                obtain ⟨c0, f0⟩ := HC2.out.one
                go_wp2_with fail
                have hown' := HOWN.out.setCell (p := ⟨w1.heap.size, 0, none⟩) (fun q hq e => by have h1 := (HOWN.out.lt q hq).1; have e2 : q = w1.heap.size := e; omega) (.slice A' (l9.length + X.size) c')
                have hcell' := HC2.out.set (.slice A' (l9.length + X.size) c')
                have hlen' : l9.length + X.size = (encAll (L.take (k + 1)) false).length := by rw [HFIN.out, List.length_append, HXL.out]
                rw [HXB.out, ← byteVals_append, ← HFIN.out] at hown'
                rw [hlen'] at hown' hcell' ⊢
                exact ⟨⟨k + 1, _, by omega, by go_num, ⟨hcell', hown'⟩, HX9 _ _ _ HB6d.out HG2.out (fun q hq => by have := (HO6e.out.own.lt q hq).1; omega), HGS.out⟩, by simp [intOf]; omega⟩
      · have hres := Lib.hid (encR_bad (L := L) (fam := fam) (add := add) (Or.inr (fun h => hg (h n (List.mem_of_getElem? HN.out)))))
        obtain ⟨hi0, hi1⟩ := hok.id
        by_cases hm : nlMay n
        · rw [show nlC n = 0 from if_pos hm] at HCK
          by_cases hf2 : n.fam = fam
          · have hid : ¬ (n.id = 0 ∨ add = true) := fun h => hg ⟨hm, hf2, h⟩
            have hadd : add = false := by
              cases add
              · rfl
              · exact absurd (Or.inr rfl) hid
            have hi2 : n.id ≠ 0 := fun h => hid (Or.inl h)
            have di : decide (0 < n.id) = true := decide_eq_true (by omega)
            have ef : (n.fam == fam) = true := by rw [beq_iff_eq]; exact hf2
            have ef' : (n.fam != fam) = false := by rw [bne, ef]; rfl
            subst hadd
            clear hm hg hid hf2 hi2
            refine (HCK.out _).mono ?_
            rintro e w3 ⟨rfl, hb⟩
            have HB3 := Lib.hid (HB2.out.trans (hb.mono HB2.out.size))
            have HN3 := Lib.hid (HN2.out.below hb HN2.out.lt)
            have HP3 := Lib.hid (HP2.out.below hb HP2.out.lt)
            clear hb HO2 HB2 HN2 HP2 HO HB HCK
            obtain ⟨p0, p1, p2, p3⟩ := HP3.out.c4
            obtain ⟨q0, q1, q2, q3, q4, q5⟩ := HN3.out.c6
            go_wp2_with fail
            go_ret2
            exact ⟨ret_val hres.out.symm, HB3.out⟩
          · have ef : (n.fam == fam) = false := by rw [beq_eq_false_iff_ne]; exact hf2
            have ef' : (n.fam != fam) = true := by rw [bne, ef]; rfl
            clear hm hg hf2
            refine (HCK.out _).mono ?_
            rintro e w3 ⟨rfl, hb⟩
            have HB3 := Lib.hid (HB2.out.trans (hb.mono HB2.out.size))
            have HN3 := Lib.hid (HN2.out.below hb HN2.out.lt)
            have HP3 := Lib.hid (HP2.out.below hb HP2.out.lt)
            clear hb HO2 HB2 HN2 HP2 HO HB HCK
            obtain ⟨p0, p1, p2, p3⟩ := HP3.out.c4
            obtain ⟨q0, q1, q2, q3, q4, q5⟩ := HN3.out.c6
            go_wp2_with fail
            go_ret2
            exact ⟨ret_val hres.out.symm, HB3.out⟩
        · rw [show nlC n = 2 from if_neg hm] at HCK
          clear hm hg
          refine (HCK.out _).mono ?_
          rintro e w3 ⟨rfl, hb⟩
          have HB3 := Lib.hid (HB2.out.trans (hb.mono HB2.out.size))
          have HN3 := Lib.hid (HN2.out.below hb HN2.out.lt)
          have HP3 := Lib.hid (HP2.out.below hb HP2.out.lt)
          clear hb HO2 HB2 HN2 HP2 HO HB HCK
          obtain ⟨p0, p1, p2, p3⟩ := HP3.out.c4
          obtain ⟨q0, q1, q2, q3, q4, q5⟩ := HN3.out.c6
          go_wp2_with fail
          go_ret2
          exact ⟨ret_val hres.out.symm, HB3.out⟩
    · obtain rfl : k = len := by omega
      have hwhole : L.take k = L := List.take_of_length_le (by omega)
      have hres := Lib.hid (encR_ok (add := add) HC1.out (fun z hz => HG.out z (by rw [hwhole]; exact hz)))
      rw [hwhole] at HO
      clear hwhole HG
      have hstr := run_string_m (P := Try.prog) wr 52 9 5 _ _ v (encAll L add) Try.underlying52 Try.underlying5 Try.underlying9 HO.out.own
      obtain ⟨c0, f0⟩ := HO.out.cell.one
      go_wp2_with fail
      go_ret2
      exact ⟨ret_val hres.out.symm, HB.out⟩

end Go.Proofs.Ytocbacpbckejdaa
