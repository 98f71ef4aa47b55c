/-
  Labels: the reference's list of who has which: Key. Conditions: sizes.
-/
import Derived.Test.YtngehobekmijbaaRlC
set_option linter.unusedVariables false
set_option linter.unusedSimpArgs false
namespace Go.Proofs.Ytngehobekmijbaa
open Go.RowKit Go.MapKept

set_option maxHeartbeats 1000000 in
theorem rkey_some (M : List (LK × Nat)) (base : Nat) (v : Value) (k : LK) (i n : Nat) (w : World) (h : Held w base v M) (hM : M.length ≤ 1000000) (hi : M[i]? = some (k, n)) (hn : ∀ j, j < i → ∀ p, M[j]? = some p → p.2 ≠ n) :
    Calls Try.prog 18 #[v, .int .u32 n] w fun e w' => e = .returned (.tuple #[k.v, .bool true]) ∧ Below w.heap.size w w' := by
  obtain ⟨g, cap, rfl, hb, hg, hnc, hcm, hl, _⟩ := h.at_ hi
  have HH := Lib.hid h
  have HN := Lib.hid hn
  have HI := Lib.hid hi
  unfold maxLen at hcm
  clear h hn hi
  unfold LK.v
  go_enter Try.func18, Try.ntmps18
  go_wp2_with fail
  go_loop [6] (fun x => ∃ j : Nat, j ≤ i ∧ x = .int .i64 j) (fun x => i + 1 - (intOf x).toNat)
  case atStart => exact ⟨0, by omega, rfl⟩
  case round =>
    obtain ⟨j, hj, rfl⟩ := hrel
    have hjl : j < M.length := by omega
    have HC : Hid (Held _ base _ M) := HH.out.alloc (.cells #[.string ⟨#[]⟩, .int .i64 0, .int .u64 0, .string ⟨#[]⟩, .int .i64 0] 34)
    by_cases hlt : j < i
    · obtain ⟨p, hp⟩ : ∃ p, M[j]? = some p := ⟨M[j], List.getElem?_eq_getElem hjl⟩
      have hne := HN.out j hlt p hp
      obtain ⟨kp, np⟩ := p
      obtain ⟨g2, cap2, hv2, _, _, _, _, _, c0, c1, c2, c3, c4, c5⟩ := Held.at_ HC.out hp
      simp only [Value.slice.injEq, Option.some.injEq, Addr.mk.injEq] at hv2
      obtain ⟨⟨rfl, _⟩, _, rfl⟩ := hv2
      clear HC
      have hne2 : ((np : Int) == (n : Int)) = false := by rw [beq_eq_false_iff_ne]; simp only at hne; omega
      have hne3 : ¬ (np : Int) = (n : Int) := by simp only at hne; omega
      clear hne
      go_wp2_with fail
      exact ⟨⟨j + 1, by omega, by go_num⟩, by simp [intOf]; omega⟩
    · obtain rfl : j = i := by omega
      obtain ⟨g2, cap2, hv2, _, _, _, _, _, c0, c1, c2, c3, c4, c5⟩ := Held.at_ HC.out HI.out
      simp only [Value.slice.injEq, Option.some.injEq, Addr.mk.injEq] at hv2
      obtain ⟨⟨rfl, _⟩, _, rfl⟩ := hv2
      clear HC
      go_wp2_with fail
      refine bodyPost_ret (v := .tuple #[.agg #[.string k.vrf, .int .i64 k.fam, .int .u64 k.rd, .string k.addr, .int .i64 k.len], .bool true]) (by simp [results, Try.results18, go_sem]) rfl ⟨rfl, ?_⟩
      go_grown

set_option maxHeartbeats 1000000 in
theorem rkey_none (M : List (LK × Nat)) (base : Nat) (v : Value) (n : Nat) (w : World) (h : Held w base v M) (hM : M.length ≤ 1000000) (hn : ∀ p ∈ M, p.2 ≠ n) :
    Calls Try.prog 18 #[v, .int .u32 n] w fun e w' => e = .returned (.tuple #[noKey.v, .bool false]) ∧ Below w.heap.size w w' := by
  obtain ⟨A, cap, rfl⟩ := OwnM.form h
  have HH := Lib.hid h
  have HN := Lib.hid hn
  clear h hn
  go_enter Try.func18, Try.ntmps18
  go_wp2_with fail
  go_loop [6] (fun x => ∃ j : Nat, j ≤ M.length ∧ x = .int .i64 j) (fun x => M.length + 1 - (intOf x).toNat)
  case atStart => exact ⟨0, by omega, rfl⟩
  case round =>
    obtain ⟨j, hj, rfl⟩ := hrel
    by_cases hlt : j < M.length
    · have HC : Hid (Held _ base _ M) := HH.out.alloc (.cells #[.string ⟨#[]⟩, .int .i64 0, .int .u64 0, .string ⟨#[]⟩, .int .i64 0] 34)
      obtain ⟨p, hp⟩ : ∃ p, M[j]? = some p := ⟨M[j], List.getElem?_eq_getElem hlt⟩
      have hne := HN.out p (List.mem_of_getElem? hp)
      obtain ⟨kp, np⟩ := p
      obtain ⟨g2, cap2, hv2, _, _, _, _, _, c0, c1, c2, c3, c4, c5⟩ := Held.at_ HC.out hp
      simp only [Value.slice.injEq] at hv2
      obtain ⟨rfl, _, rfl⟩ := hv2
      clear HC
      have hne2 : ((np : Int) == (n : Int)) = false := by rw [beq_eq_false_iff_ne]; simp only at hne; omega
      have hne3 : ¬ (np : Int) = (n : Int) := by simp only at hne; omega
      clear hne
      go_wp2_with fail
      exact ⟨⟨j + 1, by omega, by go_num⟩, by simp [intOf]; omega⟩
    · obtain rfl : j = M.length := by omega
      go_wp2_with fail
      refine bodyPost_ret (v := .tuple #[.agg #[.string ⟨#[]⟩, .int .i64 0, .int .u64 0, .string ⟨#[]⟩, .int .i64 0], .bool false]) (by simp [results, Try.results18, go_sem]) rfl ⟨rfl, ?_⟩
      go_grown
end Go.Proofs.Ytngehobekmijbaa
