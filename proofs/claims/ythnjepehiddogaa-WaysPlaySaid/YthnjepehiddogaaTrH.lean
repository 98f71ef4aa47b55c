/-
  Contract of trie.common: how many first bits two prefixes share. Conditions: sizes.
-/
import Derived.Test.YthnjepehiddogaaTrG
import Derived.LoopTactic
set_option linter.unusedVariables false
set_option linter.unusedSimpArgs false
namespace Go.Proofs.Ythnjepehiddogaa
open Go.RowKit

set_option maxRecDepth 100000 in
set_option maxHeartbeats 4000000 in
theorem common_le (a b : Tp) (ha : a.Ok) (hb : b.Ok) (hf : a.fam = b.fam) (hord : a.len ≤ b.len) (w : World) :
    Calls Try.prog 43 #[a.v, b.v] w fun e w' => e = .returned (.int .i64 (cmN a b : Nat)) ∧ Below w.heap.size w w' := by
  have hsz := ha.small
  have hle := ha.le
  have hsb : b.addr.size = a.addr.size := by
    have h1 := ha.size
    have h2 := hb.size
    rw [hf] at h1
    omega
  have hlb := hb.le
  have hmn : min a.len b.len = a.len := by omega
  have HALL := Lib.hid (fun (n : Nat) (h : eqb (8 * n) a b) (hl : min a.len b.len ≤ 8 * n) => cmN_all h hl)
  have HBY := Lib.hid (fun (i z : Nat) (h1 : i < a.addr.size) (h2 : i < b.addr.size) => @cmN_byte a b i z h1 h2)
  have HEQ := Lib.hid (fun (i : Nat) (h1 : i < a.addr.size) (h2 : i < b.addr.size) => @eqb_byte a b i h1 h2)
  rw [hmn] at HALL HBY
  have HE0 : Hid (eqb (8 * 0) a b) := fun i hi => absurd hi (by omega)
  have hord1 : (a.len : Int) ≤ (b.len : Int) ∨ (b.len : Int) < (a.len : Int) := by omega
  clear ha hb hf hord1 hmn
  unfold Tp.v
  generalize cmN a b = C at *
  obtain ⟨W, hW⟩ : ∃ W : World, W = (w.alloc (.cells #[.int .i64 a.fam, .int .u64 a.rd, .string a.addr, .int .i64 (a.len : Nat)] 30)).alloc (.cells #[.int .i64 b.fam, .int .u64 b.rd, .string b.addr, .int .i64 (b.len : Nat)] 30) := ⟨_, rfl⟩
  have A0 : Hid (CellsAt W w.heap.size #[.int .i64 a.fam, .int .u64 a.rd, .string a.addr, .int .i64 (a.len : Nat)] 30) := by
    rw [hW]
    exact (CellsAt.new w _ _).alloc _
  have A1 : Hid (CellsAt W (w.heap.size + 1) #[.int .i64 b.fam, .int .u64 b.rd, .string b.addr, .int .i64 (b.len : Nat)] 30) := by
    have := CellsAt.new (w.alloc (.cells #[.int .i64 a.fam, .int .u64 a.rd, .string a.addr, .int .i64 (a.len : Nat)] 30)) #[.int .i64 b.fam, .int .u64 b.rd, .string b.addr, .int .i64 (b.len : Nat)] 30
    rw [hW]
    show CellsAt _ _ _ _
    rw [show w.heap.size + 1 = (w.alloc (.cells #[.int .i64 a.fam, .int .u64 a.rd, .string a.addr, .int .i64 (a.len : Nat)] 30)).heap.size by simp]
    exact this
  have HB : Hid (Below w.heap.size w W) := by
    rw [hW]
    exact ((Below.refl _ _).alloc (Nat.le_refl _) _).alloc (by simp) _
  have HS : Hid (w.heap.size + 1 < W.heap.size) := A1.out.lt
  obtain ⟨_, _, c2, c3, _⟩ := c4_at A0.out
  obtain ⟨_, _, d2, d3, _⟩ := c4_at A1.out
  clear A0 A1
  have hlt : ((a.len : Int) ≤ (b.len : Int)) := by omega
  go_enter Try.func43, Try.ntmps43
  go_wp2_with fail
  rw [← hW]
  clear hW
  go_loopw [17] (fun i wr => ∃ k q : Nat, k ≤ a.addr.size ∧ i = .int .i64 k ∧ wr = W.drewN q ∧ Hid (eqb (8 * k) a b)) (fun i _ => a.addr.size + 1 - (intOf i).toNat)
  case atStart => exact ⟨0, 0, Nat.zero_le _, rfl, rfl, HE0⟩
  case round =>
    obtain ⟨k, q, hk, rfl, rfl, HK⟩ := hrel
    by_cases hlk : k < a.addr.size
    · have hlk2 : k < b.addr.size := by omega
      have hx := xor_val a.addr[k] b.addr[k]
      have HX1 := Lib.hid (HEQ.out k hlk hlk2 HK.out)
      have HX2 := Lib.hid (fun z hz => HBY.out k z hlk hlk2 hz HK.out)
      have hX : a.addr[k].toNat ^^^ b.addr[k].toNat < 256 := by
        have h1 := a.addr[k].toNat_lt
        have h2 := b.addr[k].toNat_lt
        exact Nat.xor_lt_two_pow (n := 8) (by omega) (by omega)
      generalize a.addr[k].toNat ^^^ b.addr[k].toNat = X at hx HX1 HX2 hX
      by_cases hx0 : X = 0
      · have HK2 : Hid (eqb (8 * (k + 1)) a b) := HX1.out hx0
        subst hx0
        go_wp2_with fail
        go_quiet (fail)
        go_wp2_with fail
        exact ⟨⟨k + 1, q + nq, by omega, by go_num, rfl, HK2⟩, by simp [intOf]; omega⟩
      · have e0 : (((X : Nat) : Int) == 0) = false := by rw [beq_eq_false_iff_ne]; omega
        have HX0 := Lib.hid hx0
        clear hx0 HX1
        go_wp2_with fail
        go_quiet (fail)
        go_wp2_with fail
        go_loopw [7, 8] (fun x n wr => ∃ z : Nat, z ≤ 7 ∧ x = .int .u8 (X * 2 ^ z % 256 : Nat) ∧ n = .int .i64 (8 * k + z : Nat) ∧ wr = W.drewN (q + nq) ∧ Hid (∀ t, t < z → X / 2 ^ (7 - t) % 2 = 0)) (fun _ n _ => 8 * k + 8 - (intOf n).toNat)
        case atStart => exact ⟨0, by omega, by go_num, by go_num, rfl, fun t ht => absurd ht (by omega)⟩
        case round =>
          obtain ⟨z, hz, rfl, rfl, rfl, HZ⟩ := hrel
          have hat := and_top (X * 2 ^ z % 256) (by omega)
          have hsh := shl_top X z
          have htb := top_bit X z hX (by omega)
          by_cases hb : X * 2 ^ z % 256 < 128
          · rw [if_pos hb] at hat
            have HZ2 : Hid (∀ t, t < z + 1 → X / 2 ^ (7 - t) % 2 = 0) := fun t ht => by
              by_cases htz : t = z
              · rw [htz]; exact htb.1 hb
              · exact HZ.out t (by omega)
            have hz7 : z + 1 ≤ 7 := by
              by_cases h7 : z = 7
              · obtain ⟨t, ht, hne⟩ := some_bit X hX HX0.out
                exact absurd (HZ2.out t (by omega)) hne
              · omega
            clear htb hb HZ
            generalize X * 2 ^ z % 256 = x1 at hat hsh
            go_wp2_with fail
            exact ⟨⟨z + 1, hz7, val_int (by first | done | (push_cast; rfl) | simp), by go_num, trivial, HZ2⟩, by simp [intOf]; omega⟩
          · rw [if_neg hb] at hat
            have HR := Lib.hid (HX2.out z (by omega) HZ.out (fun e => hb (htb.2 e)))
            clear htb hb HZ hsh
            generalize X * 2 ^ z % 256 = x1 at hat
            by_cases hmz : a.len ≤ 8 * k + z
            · have hr : Hid (C = a.len) := by
                show _ = _
                rw [HR.out]
                omega
              have hmz2 : (a.len : Int) ≤ ((8 * k + z : Nat) : Int) := by omega
              clear hmz
              go_wp2_with fail
              go_ret
              exact ⟨ret_int (by rw [hr.out]), below_drewN HB.out (q + nq)⟩
            · have hr : Hid (C = 8 * k + z) := by
                show _ = _
                rw [HR.out]
                omega
              have hmz2 : ((8 * k + z : Nat) : Int) < (a.len : Int) := by omega
              clear hmz
              go_wp2_with fail
              go_ret
              exact ⟨ret_int (by rw [hr.out]; omega), below_drewN HB.out (q + nq)⟩
    · obtain rfl : k = a.addr.size := by omega
      have hr := Lib.hid (HALL.out _ HK.out (by omega))
      go_wp2_with fail
      go_ret
      exact ⟨ret_int (by rw [hr.out]), below_drewN HB.out q⟩
set_option maxRecDepth 100000 in
set_option maxHeartbeats 4000000 in
theorem common_gt (a b : Tp) (ha : a.Ok) (hb : b.Ok) (hf : a.fam = b.fam) (hord : b.len < a.len) (w : World) :
    Calls Try.prog 43 #[a.v, b.v] w fun e w' => e = .returned (.int .i64 (cmN a b : Nat)) ∧ Below w.heap.size w w' := by
  have hsz := ha.small
  have hle := ha.le
  have hsb : b.addr.size = a.addr.size := by
    have h1 := ha.size
    have h2 := hb.size
    rw [hf] at h1
    omega
  have hlb := hb.le
  have hmn : min a.len b.len = b.len := by omega
  have HALL := Lib.hid (fun (n : Nat) (h : eqb (8 * n) a b) (hl : min a.len b.len ≤ 8 * n) => cmN_all h hl)
  have HBY := Lib.hid (fun (i z : Nat) (h1 : i < a.addr.size) (h2 : i < b.addr.size) => @cmN_byte a b i z h1 h2)
  have HEQ := Lib.hid (fun (i : Nat) (h1 : i < a.addr.size) (h2 : i < b.addr.size) => @eqb_byte a b i h1 h2)
  rw [hmn] at HALL HBY
  have HE0 : Hid (eqb (8 * 0) a b) := fun i hi => absurd hi (by omega)
  have hord1 : (a.len : Int) ≤ (b.len : Int) ∨ (b.len : Int) < (a.len : Int) := by omega
  clear ha hb hf hord1 hmn
  unfold Tp.v
  generalize cmN a b = C at *
  obtain ⟨W, hW⟩ : ∃ W : World, W = (w.alloc (.cells #[.int .i64 a.fam, .int .u64 a.rd, .string a.addr, .int .i64 (a.len : Nat)] 30)).alloc (.cells #[.int .i64 b.fam, .int .u64 b.rd, .string b.addr, .int .i64 (b.len : Nat)] 30) := ⟨_, rfl⟩
  have A0 : Hid (CellsAt W w.heap.size #[.int .i64 a.fam, .int .u64 a.rd, .string a.addr, .int .i64 (a.len : Nat)] 30) := by
    rw [hW]
    exact (CellsAt.new w _ _).alloc _
  have A1 : Hid (CellsAt W (w.heap.size + 1) #[.int .i64 b.fam, .int .u64 b.rd, .string b.addr, .int .i64 (b.len : Nat)] 30) := by
    have := CellsAt.new (w.alloc (.cells #[.int .i64 a.fam, .int .u64 a.rd, .string a.addr, .int .i64 (a.len : Nat)] 30)) #[.int .i64 b.fam, .int .u64 b.rd, .string b.addr, .int .i64 (b.len : Nat)] 30
    rw [hW]
    show CellsAt _ _ _ _
    rw [show w.heap.size + 1 = (w.alloc (.cells #[.int .i64 a.fam, .int .u64 a.rd, .string a.addr, .int .i64 (a.len : Nat)] 30)).heap.size by simp]
    exact this
  have HB : Hid (Below w.heap.size w W) := by
    rw [hW]
    exact ((Below.refl _ _).alloc (Nat.le_refl _) _).alloc (by simp) _
  have HS : Hid (w.heap.size + 1 < W.heap.size) := A1.out.lt
  obtain ⟨_, _, c2, c3, _⟩ := c4_at A0.out
  obtain ⟨_, _, d2, d3, _⟩ := c4_at A1.out
  clear A0 A1
  have hlt : ((b.len : Int) < (a.len : Int)) := by omega
  go_enter Try.func43, Try.ntmps43
  go_wp2_with fail
  rw [← hW]
  clear hW
  go_loopw [17] (fun i wr => ∃ k q : Nat, k ≤ a.addr.size ∧ i = .int .i64 k ∧ wr = W.drewN q ∧ Hid (eqb (8 * k) a b)) (fun i _ => a.addr.size + 1 - (intOf i).toNat)
  case atStart => exact ⟨0, 0, Nat.zero_le _, rfl, rfl, HE0⟩
  case round =>
    obtain ⟨k, q, hk, rfl, rfl, HK⟩ := hrel
    by_cases hlk : k < a.addr.size
    · have hlk2 : k < b.addr.size := by omega
      have hx := xor_val a.addr[k] b.addr[k]
      have HX1 := Lib.hid (HEQ.out k hlk hlk2 HK.out)
      have HX2 := Lib.hid (fun z hz => HBY.out k z hlk hlk2 hz HK.out)
      have hX : a.addr[k].toNat ^^^ b.addr[k].toNat < 256 := by
        have h1 := a.addr[k].toNat_lt
        have h2 := b.addr[k].toNat_lt
        exact Nat.xor_lt_two_pow (n := 8) (by omega) (by omega)
      generalize a.addr[k].toNat ^^^ b.addr[k].toNat = X at hx HX1 HX2 hX
      by_cases hx0 : X = 0
      · have HK2 : Hid (eqb (8 * (k + 1)) a b) := HX1.out hx0
        subst hx0
        go_wp2_with fail
        go_quiet (fail)
        go_wp2_with fail
        exact ⟨⟨k + 1, q + nq, by omega, by go_num, rfl, HK2⟩, by simp [intOf]; omega⟩
      · have e0 : (((X : Nat) : Int) == 0) = false := by rw [beq_eq_false_iff_ne]; omega
        have HX0 := Lib.hid hx0
        clear hx0 HX1
        go_wp2_with fail
        go_quiet (fail)
        go_wp2_with fail
        go_loopw [7, 8] (fun x n wr => ∃ z : Nat, z ≤ 7 ∧ x = .int .u8 (X * 2 ^ z % 256 : Nat) ∧ n = .int .i64 (8 * k + z : Nat) ∧ wr = W.drewN (q + nq) ∧ Hid (∀ t, t < z → X / 2 ^ (7 - t) % 2 = 0)) (fun _ n _ => 8 * k + 8 - (intOf n).toNat)
        case atStart => exact ⟨0, by omega, by go_num, by go_num, rfl, fun t ht => absurd ht (by omega)⟩
        case round =>
          obtain ⟨z, hz, rfl, rfl, rfl, HZ⟩ := hrel
          have hat := and_top (X * 2 ^ z % 256) (by omega)
          have hsh := shl_top X z
          have htb := top_bit X z hX (by omega)
          by_cases hb : X * 2 ^ z % 256 < 128
          · rw [if_pos hb] at hat
            have HZ2 : Hid (∀ t, t < z + 1 → X / 2 ^ (7 - t) % 2 = 0) := fun t ht => by
              by_cases htz : t = z
              · rw [htz]; exact htb.1 hb
              · exact HZ.out t (by omega)
            have hz7 : z + 1 ≤ 7 := by
              by_cases h7 : z = 7
              · obtain ⟨t, ht, hne⟩ := some_bit X hX HX0.out
                exact absurd (HZ2.out t (by omega)) hne
              · omega
            clear htb hb HZ
            generalize X * 2 ^ z % 256 = x1 at hat hsh
            go_wp2_with fail
            exact ⟨⟨z + 1, hz7, val_int (by first | done | (push_cast; rfl) | simp), by go_num, trivial, HZ2⟩, by simp [intOf]; omega⟩
          · rw [if_neg hb] at hat
            have HR := Lib.hid (HX2.out z (by omega) HZ.out (fun e => hb (htb.2 e)))
            clear htb hb HZ hsh
            generalize X * 2 ^ z % 256 = x1 at hat
            by_cases hmz : b.len ≤ 8 * k + z
            · have hr : Hid (C = b.len) := by
                show _ = _
                rw [HR.out]
                omega
              have hmz2 : (b.len : Int) ≤ ((8 * k + z : Nat) : Int) := by omega
              clear hmz
              go_wp2_with fail
              go_ret
              exact ⟨ret_int (by rw [hr.out]), below_drewN HB.out (q + nq)⟩
            · have hr : Hid (C = 8 * k + z) := by
                show _ = _
                rw [HR.out]
                omega
              have hmz2 : ((8 * k + z : Nat) : Int) < (b.len : Int) := by omega
              clear hmz
              go_wp2_with fail
              go_ret
              exact ⟨ret_int (by rw [hr.out]; omega), below_drewN HB.out (q + nq)⟩
    · obtain rfl : k = a.addr.size := by omega
      have hr := Lib.hid (HALL.out _ HK.out (by omega))
      go_wp2_with fail
      go_ret
      exact ⟨ret_int (by rw [hr.out]), below_drewN HB.out q⟩
theorem common_any (a b : Tp) (ha : a.Ok) (hb : b.Ok) (hf : a.fam = b.fam) (w : World) :
    Calls Try.prog 43 #[a.v, b.v] w fun e w' => e = .returned (.int .i64 (cmN a b : Nat)) ∧ Below w.heap.size w w' := by
  by_cases h : a.len ≤ b.len
  · exact common_le a b ha hb hf h w
  · exact common_gt a b ha hb hf (by omega) w
end Go.Proofs.Ythnjepehiddogaa
