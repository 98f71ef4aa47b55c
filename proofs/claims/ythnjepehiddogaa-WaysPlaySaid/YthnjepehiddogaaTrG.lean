/-
  Contracts of prim.Bit and prim.Cut. Conditions: sizes.
-/
import Derived.Test.YthnjepehiddogaaTrF
import Derived.LoopTactic
import Derived.Laws.ResultCell
set_option linter.unusedVariables false
set_option linter.unusedSimpArgs false
namespace Go.Proofs.Ythnjepehiddogaa
open Go.RowKit

theorem pbit_any (b : ByteArray) (n : Nat) (w : World) (hn : n / 8 < b.size) (hs : b.size ≤ 1000000) : Calls Try.prog 44 #[.string b, .int .i64 n] w fun e w' => e = .returned (.int .i64 (bitV b n)) ∧ w' = w := by
  obtain ⟨q, hq⟩ : ∃ q : Nat, q = n / 8 := ⟨_, rfl⟩
  obtain ⟨s, hs2⟩ : ∃ s : Nat, s = 7 - n % 8 := ⟨_, rfl⟩
  have d8 : (n : Int) / 8 = (q : Int) := by omega
  have d7 : (7 : Int) - (n : Int) % 8 = (s : Int) := by omega
  have hn' : q < b.size := by omega
  have hb : Hid (bitV b n = (b[q]'hn').toNat / 2 ^ s % 2) := by
    show _ = _
    unfold bitV
    rw [← hq, ← hs2, List.getD_eq_getElem?_getD, List.getElem?_eq_getElem (by rw [Array.length_toList]; show q < b.size; omega)]
    rfl
  have hs' : s ≤ 7 := by omega
  clear hq hs2 hn
  have hx := (b[q]'hn').toNat_lt
  go_enter Try.func44, Try.ntmps44
  go_wp2_with fail
  go_ret
  exact ⟨ret_int (by rw [hb.out]; exact bit_and _ s (by omega)), rfl⟩

/-- a block of four cells, while a call goes on -/
theorem c4_at {w : World} {b : Nat} {f r a l : Value} {T : TypeId} (h : CellsAt w b #[f, r, a, l] T) : w.cell? ⟨b, 0, none⟩ = some f ∧ w.cell? ⟨b, 1, none⟩ = some r ∧ w.cell? ⟨b, 2, none⟩ = some a ∧ w.cell? ⟨b, 3, none⟩ = some l ∧ w.frozen? ⟨b, 0, none⟩ = false ∧ w.frozen? ⟨b, 1, none⟩ = false ∧ w.frozen? ⟨b, 2, none⟩ = false ∧ w.frozen? ⟨b, 3, none⟩ = false :=
  ⟨(h.c 0).trans rfl, (h.c 1).trans rfl, (h.c 2).trans rfl, (h.c 3).trans rfl, h.frozen 0, h.frozen 1, h.frozen 2, h.frozen 3⟩
set_option maxHeartbeats 1000000 in
theorem cut_any (p : Tp) (hp : p.Ok) (k : Nat) (hk : k ≤ p.len) (w : World) :
    Calls Try.prog 24 #[p.v, .int .i64 k] w fun e w' => e = .returned (.tuple #[(cutT p k).v, .int .i64 0]) ∧ Below w.heap.size w w' := by
  have hsz := hp.small
  have hle := hp.le
  have hc : prefC p.fam p.rd p.addr (p.len : Nat) = 0 := if_pos hp
  have HC := Lib.hid (fun w => check_any p.fam p.rd p.addr (p.len : Nat) w (by omega))
  rw [hc] at HC
  have HM := Lib.hid (fun w => masked_any p.addr k w (by omega) (by omega) (by omega))
  clear hp hc
  unfold Tp.v cutT
  obtain ⟨fam, rd, addr, len⟩ := p
  simp only at *
  generalize maskB addr (k : Nat) = M at *
  go_enter Try.func24, Try.ntmps24
  go_wp2_with fail
  refine (HC.out _).mono ?_
  rintro e w1 ⟨rfl, hb1⟩
  have A0 : CellsAt w1 w.heap.size #[.int .i64 fam, .int .u64 rd, .string addr, .int .i64 (len : Nat)] 30 := ((CellsAt.new w _ _).alloc _).below hb1 (by simp <;> omega)
  have A1 : CellsAt w1 (w.heap.size + 1) #[.int .i64 0, .int .u64 0, .string ⟨#[]⟩, .int .i64 0] 30 := by
    have := (CellsAt.new (w.alloc (.cells #[.int .i64 fam, .int .u64 rd, .string addr, .int .i64 (len : Nat)] 30)) #[.int .i64 0, .int .u64 0, .string ⟨#[]⟩, .int .i64 0] 30).below hb1 (by simp <;> omega)
    simpa using this
  have HB : Hid (Below w.heap.size w w1) := by
    show Below _ _ _
    exact (((Below.refl _ _).alloc (Nat.le_refl _) _).alloc (by simp) _).trans (hb1.mono (by simp; omega))
  clear hb1
  have H0 := Lib.hid A0
  have H1 := Lib.hid A1
  obtain ⟨a0, a1, a2, a3, f0, f1, f2, f3⟩ := c4_at A0
  clear A0 A1
  go_wp2_with fail
  refine (HM.out _).mono ?_
  rintro e w2 ⟨rfl, hb2⟩
  have A0 : CellsAt w2 w.heap.size #[.int .i64 fam, .int .u64 rd, .string addr, .int .i64 (len : Nat)] 30 := H0.out.below hb2 H0.out.lt
  have A1 : CellsAt w2 (w.heap.size + 1) #[.int .i64 0, .int .u64 0, .string ⟨#[]⟩, .int .i64 0] 30 := H1.out.below hb2 H1.out.lt
  have HB2 : Hid (Below w.heap.size w w2) := HB.out.trans (hb2.mono HB.out.size)
  clear hb2 a0 a1 a2 a3 f0 f1 f2 f3 H0 H1 HB
  have H1 := Lib.hid A1
  have H0 := Lib.hid A0
  obtain ⟨a0, a1, a2, a3, f0, f1, f2, f3⟩ := c4_at A0
  obtain ⟨b0, b1, b2, b3, g0, g1, g2, g3⟩ := c4_at A1
  clear A0 A1
  go_wp2_with fail
  try simp only [Exit.inBlock, Exit.then]
  refine bodyPost_ret (v := .tuple #[.agg #[.int .i64 fam, .int .u64 rd, .string M, .int .i64 (k : Nat)], .int .i64 0]) (by rw [results_cell_tmp rfl]; go_simp) rfl ⟨rfl, ?_⟩
  clear H0 H1 a0 a1 a2 a3 f0 f1 f2 f3 b0 b1 b2 b3 g0 g1 g2 g3
  repeat' (first | with_reducible exact HB2.out | with_reducible refine Below.setCell ?_ (by simp) _)
end Go.Proofs.Ythnjepehiddogaa
