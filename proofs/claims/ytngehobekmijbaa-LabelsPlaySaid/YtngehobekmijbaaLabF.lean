/-
  Labels: the law's keys, which label Take hands out, labels that are none, works. Conditions: sizes.
-/
import Derived.Test.YtngehobekmijbaaLabE
set_option linter.unusedVariables false
set_option linter.unusedSimpArgs false
namespace Go.Proofs.Ytngehobekmijbaa
open Go.RowKit Go.MapKept
open Go.Maps (Keyed)

/-- the law's key of a byte -/
def kk (b : UInt8) : LK := ⟨⟨#[118]⟩, 1, 0, ⟨#[b, 0, 0, 0]⟩, 8⟩
theorem kk_ok (b : UInt8) : (kk b).Ok := ⟨(by decide : (1 : Nat) ≤ 9223372036854775807), (by show (4 : Nat) ≤ _; omega), ⟨(by show -9223372036854775808 ≤ (1 : Int); omega), (by show (1 : Int) ≤ 9223372036854775807; omega)⟩, ⟨(by show (0 : Int) ≤ 0; omega), (by show (0 : Int) ≤ 18446744073709551615; omega)⟩, ⟨(by show -9223372036854775808 ≤ (8 : Int); omega), (by show (8 : Int) ≤ 9223372036854775807; omega)⟩⟩
theorem kk_inj {a b : UInt8} (h : kk a = kk b) : a = b := by
  injection h with _ _ _ h _
  injection h with h
  have := congrArg (fun x : Array UInt8 => x[0]?) h
  simpa using this
theorem kk_may (b : UInt8) : kmay (kk b) = true := by
  have h1 : nameB ⟨#[118]⟩ (by decide) = true := by decide +kernel
  have h2 : maskB ⟨#[b, 0, 0, 0]⟩ 8 = ⟨#[b, 0, 0, 0]⟩ := by
    show ByteArray.mk (maskK [b, 0, 0, 0] 8 4).toArray = _
    rfl
  have h3 : PrefOk 1 0 ⟨#[b, 0, 0, 0]⟩ 8 := ⟨by decide, rfl, by omega, by decide, Or.inl rfl, h2⟩
  show ((if h : 0 < (ByteArray.mk #[118]).size then nameB ⟨#[118]⟩ h else true) && decide (PrefOk 1 0 ⟨#[b, 0, 0, 0]⟩ 8)) = true
  rw [decide_eq_true h3, Bool.and_true]
  exact h1

theorem key_any (b : UInt8) (w : World) : Calls Try.prog 10 #[.int .u8 b.toNat] w fun e w' => e = .returned (kk b).v ∧ Below w.heap.size w w' := by
  have hconv := fun (u : World) => run_convert_bytes_back (P := Try.prog) (u.alloc (.cells #[.int .u8 (b.toNat : Int), .int .u8 0, .int .u8 0, .int .u8 0] 5)) 61 9 5 ⟨u.heap.size, 0, none⟩ 4 [b, 0, 0, 0] Try.underlying61 Try.underlying5 Try.underlying9 (fun j hj => by
    rw [add_flat, cell_of_row _ u.heap.size j _ _ _ (heap_alloc_new u _)]
    rcases (show j = 0 ∨ j = 1 ∨ j = 2 ∨ j = 3 by simp at hj; omega) with rfl | rfl | rfl | rfl <;> rfl)
  have hc := hconv (w.alloc (.cells #[.string ⟨#[]⟩, .int .i64 0, .int .u64 0, .string ⟨#[]⟩, .int .i64 0] 34))
  simp only [List.length_cons, List.length_nil, Nat.zero_add, Nat.reduceAdd, World.size_alloc] at hc
  clear hconv
  go_enter Try.func10, Try.ntmps10
  go_wp2_with fail
  refine bodyPost_ret (v := .agg #[.string ⟨#[118]⟩, .int .i64 1, .int .u64 0, .string ⟨#[b, 0, 0, 0]⟩, .int .i64 8]) (by simp [results, Try.results10, go_sem]) rfl ⟨rfl, ?_⟩
  go_grown

section
variable {w : World} {b m1 m2 low high : Nat} {S : List (LK × Nat)} {k : LK} {n : Nat}
theorem take_at (h : LabAt w b m1 m2 low high S) (hk : k.Ok) (hm : kmay k = true) (hj : ∀ p ∈ S, p.1 ≠ k) (h0 : low ≤ n) (h1 : n ≤ high) (h2 : ∀ q, low ≤ q → q < n → ∃ p ∈ S, p.2 = q) (h3 : ∀ p ∈ S, p.2 ≠ n) :
    Calls Try.prog 9 #[.pointer (some ⟨b, 0, none⟩), k.v] w fun e w' => e = .returned (.tuple #[.int .u32 n, .int .i64 0]) ∧ LabAt w' b m1 m2 low high (S ++ [(k, n)]) ∧ GrownX (fun i => i = m1 ∨ i = m2) w w' := by
  refine (take_new w b m1 m2 low high S k h hk hm hj).mono ?_
  rintro e w' (⟨n', a0, a1, a2, a3, rfl, a4, a5⟩ | ⟨a1, _⟩)
  · have : n' = n := by
      rcases Nat.lt_trichotomy n' n with hl | he | hg
      · obtain ⟨p, hp, e⟩ := h2 n' a0 hl
        exact absurd e (a3 p hp)
      · exact he
      · obtain ⟨p, hp, e⟩ := a2 n h0 hg
        exact absurd e (h3 p hp)
    subst this
    exact ⟨rfl, a4, a5⟩
  · obtain ⟨p, hp, e⟩ := a1 n h0 h1
    exact absurd e (h3 p hp)
theorem take_full (h : LabAt w b m1 m2 low high S) (hk : k.Ok) (hm : kmay k = true) (hj : ∀ p ∈ S, p.1 ≠ k) (h2 : ∀ q, low ≤ q → q ≤ high → ∃ p ∈ S, p.2 = q) :
    Calls Try.prog 9 #[.pointer (some ⟨b, 0, none⟩), k.v] w fun e w' => e = .returned (.tuple #[.int .u32 0, .int .i64 7]) ∧ Below w.heap.size w w' := by
  refine (take_new w b m1 m2 low high S k h hk hm hj).mono ?_
  rintro e w' (⟨n', a0, a1, a2, a3, rfl, a4, a5⟩ | ⟨a1, a2, a3⟩)
  · obtain ⟨p, hp, e⟩ := h2 n' a0 a1
    exact absurd e (a3 p hp)
  · exact ⟨a2, a3⟩
theorem left_is (h : LabAt w b m1 m2 low high S) (hS : S.length ≤ 1000000) (z : Int) (hz : (high : Int) - low + 1 - S.length = z) :
    Calls Try.prog 11 #[.pointer (some ⟨b, 0, none⟩)] w fun e w' => e = .returned (.int .i64 z) ∧ ∃ q, w' = w.drewN q := hz ▸ left_any w b m1 m2 low high S h hS
end

/-- labels that are none -/
def NoneP (w : World) (v : Value) : Prop := Calls Try.prog 20 #[v] w fun e w' => e = .returned (.bool true) ∧ w' = w
theorem NoneP.nil (w : World) : NoneP w (.pointer none) := none_nil w
theorem NoneP.empty (b : Nat) (w : World) (h : w.cell? ⟨b, 2, none⟩ = some (.map none)) : NoneP w (.pointer (some ⟨b, 0, none⟩)) := none_empty b w h
theorem notake_any (v : Value) (k : LK) (w : World) (h : ∀ o, NoneP (w.alloc o) v) : Calls Try.prog 9 #[v, k.v] w fun e w' => e = .returned (.tuple #[.int .u32 0, .int .i64 1]) ∧ Below w.heap.size w w' := by
  have H := Lib.hid h
  unfold LK.v
  clear h
  go_enter Try.func9, Try.ntmps9
  go_wp2_with fail
  refine Calls.mono (H.out _) ?_
  rintro e w1 ⟨rfl, rfl⟩
  go_wp2_with fail
  go_ret2
  exact ⟨rfl, by go_grown⟩
theorem nogive_any (v : Value) (k : LK) (w : World) (h : ∀ o, NoneP (w.alloc o) v) : Calls Try.prog 12 #[v, k.v] w fun e w' => e = .returned (.bool false) ∧ Below w.heap.size w w' := by
  have H := Lib.hid h
  unfold LK.v
  clear h
  go_enter Try.func12, Try.ntmps12
  go_wp2_with fail
  refine Calls.mono (H.out _) ?_
  rintro e w1 ⟨rfl, rfl⟩
  go_wp2_with fail
  go_ret
  exact ⟨rfl, by go_grown⟩
theorem noof_any (v : Value) (k : LK) (w : World) (h : ∀ o, NoneP (w.alloc o) v) : Calls Try.prog 13 #[v, k.v] w fun e w' => e = .returned (.tuple #[.int .u32 0, .bool false]) ∧ Below w.heap.size w w' := by
  have H := Lib.hid h
  unfold LK.v
  clear h
  go_enter Try.func13, Try.ntmps13
  go_wp2_with fail
  refine Calls.mono (H.out _) ?_
  rintro e w1 ⟨rfl, rfl⟩
  go_wp2_with fail
  go_ret2
  exact ⟨rfl, by go_grown⟩
theorem nokey_any (v : Value) (n : Nat) (w : World) (h : ∀ o, NoneP (w.alloc o) v) : Calls Try.prog 14 #[v, .int .u32 n] w fun e w' => e = .returned (.tuple #[noKey.v, .bool false]) ∧ Below w.heap.size w w' := by
  have H := Lib.hid h
  clear h
  go_enter Try.func14, Try.ntmps14
  go_wp2_with fail
  refine Calls.mono (H.out _) ?_
  rintro e w1 ⟨rfl, rfl⟩
  go_wp2_with fail
  refine bodyPost_ret (v := .tuple #[.agg #[.string ⟨#[]⟩, .int .i64 0, .int .u64 0, .string ⟨#[]⟩, .int .i64 0], .bool false]) (by simp [results, Try.results14, go_sem]) rfl ⟨rfl, ?_⟩
  go_grown
theorem noleft_any (v : Value) (w : World) (h : NoneP w v) : Calls Try.prog 11 #[v] w fun e w' => e = .returned (.int .i64 0) ∧ w' = w := by
  have H := Lib.hid h
  clear h
  go_enter Try.func11, Try.ntmps11
  go_wp2_with fail
  refine Calls.mono H.out ?_
  rintro e w1 ⟨rfl, rfl⟩
  go_wp2_with fail
  go_ret
  exact ⟨rfl, rfl⟩
theorem nocopy_any (v : Value) (w : World) (h : NoneP w v) : Calls Try.prog 19 #[v] w fun e w' => e = .returned (.pointer none) ∧ w' = w := by
  have H := Lib.hid h
  clear h
  go_enter Try.func19, Try.ntmps19
  go_wp2_with fail
  refine Calls.mono H.out ?_
  rintro e w1 ⟨rfl, rfl⟩
  go_wp2_with fail
  go_ret
  exact ⟨rfl, rfl⟩

/-- a labels' walk: what the call has made -/
theorem GrownX.below2 {w a c : World} {m1 m2 : Nat} (h : GrownX (fun i => i = m1 ∨ i = m2) a c) (k : Below w.heap.size w a) (h1 : w.heap.size ≤ m1) (h2 : w.heap.size ≤ m2) : Below w.heap.size w c :=
  h.below k (fun i hi => by rcases hi with rfl | rfl <;> assumption) k.size

set_option maxRecDepth 100000 in
set_option maxHeartbeats 2000000 in
theorem works_any (w : World) : Calls Try.prog 7 #[] w fun e w' => e = .returned (.bool true) ∧ Below w.heap.size w w' := by
  have KD : kk 11 ≠ kk 10 := fun h => absurd (kk_inj h) (by decide)
  have KD2 : kk 10 ≠ kk 12 := fun h => absurd (kk_inj h) (by decide)
  have KD3 : kk 11 ≠ kk 12 := fun h => absurd (kk_inj h) (by decide)
  go_enter Try.func7, Try.ntmps7
  go_wp2_with fail
  refine (new_ok 16 17 _ (by omega) (by omega) (by omega)).mono ?_
  rintro e w1 ⟨rfl, hL, hb, hz⟩
  have HL := Lib.hid hL
  have HB := Lib.hid hb
  clear hL hb hz
  go_wp2_with fail
  refine (key_any 10 _).mono ?_
  rintro e w2 ⟨rfl, hb⟩
  have HL2 := Lib.hid (HL.out.below hb (Nat.le_refl _))
  have HB2 := Lib.hid (HB.out.trans (hb.mono HB.out.size))
  clear HL HB hb
  go_wp2_with fail
  refine (take_at (n := 16) HL2.out (kk_ok 10) (kk_may 10) (by simp) (by omega) (by omega) (fun q h1 h2 => absurd h1 (by omega)) (by simp)).mono ?_
  rintro e w3 ⟨rfl, hl, hg⟩
  have HL3 := Lib.hid hl
  have HB3 := Lib.hid (hg.below2 HB2.out (by omega) (by omega))
  clear HL2 HB2 hl hg
  go_wp2_with fail
  refine (key_any 11 _).mono ?_
  rintro e w4 ⟨rfl, hb⟩
  have HL4 := Lib.hid (HL3.out.below hb (Nat.le_refl _))
  have HB4 := Lib.hid (HB3.out.trans (hb.mono HB3.out.size))
  clear HL3 HB3 hb
  go_wp2_with fail
  refine (take_at (n := 17) HL4.out (kk_ok 11) (kk_may 11) (by simpa using fun h => KD h.symm) (by omega) (by omega) (fun q h1 h2 => ⟨(kk 10, 16), by simp, by show 16 = q; omega⟩) (by simp)).mono ?_
  rintro e w5 ⟨rfl, hl, hg⟩
  have HL5 := Lib.hid hl
  have HB5 := Lib.hid (hg.below2 HB4.out (by omega) (by omega))
  clear HL4 HB4 hl hg
  go_wp2_with fail
  refine (key_any 10 _).mono ?_
  rintro e w6 ⟨rfl, hb⟩
  have HL6 := Lib.hid (HL5.out.below hb (Nat.le_refl _))
  have HB6 := Lib.hid (HB5.out.trans (hb.mono HB5.out.size))
  clear HL5 HB5 hb
  go_wp2_with fail
  refine (take_some _ _ _ _ _ _ 0 _ (kk 10) 16 HL6.out (kk_ok 10) (kk_may 10) rfl).mono ?_
  rintro e w7 ⟨rfl, hb⟩
  have HL7 := Lib.hid (HL6.out.below hb (Nat.le_refl _))
  have HB7 := Lib.hid (HB6.out.trans (hb.mono HB6.out.size))
  clear HL6 HB6 hb
  go_wp2_with fail
  refine (key_any 12 _).mono ?_
  rintro e w8 ⟨rfl, hb⟩
  have HL8 := Lib.hid (HL7.out.below hb (Nat.le_refl _))
  have HB8 := Lib.hid (HB7.out.trans (hb.mono HB7.out.size))
  clear HL7 HB7 hb
  go_wp2_with fail
  refine (take_full HL8.out (kk_ok 12) (kk_may 12) (fun p hp => by simp at hp; rcases hp with rfl | rfl <;> assumption) (fun q h1 h2 => by
    by_cases h : q = 16
    · exact ⟨(kk 10, 16), by simp, h.symm⟩
    · exact ⟨(kk 11, 17), by simp, by show 17 = q; omega⟩)).mono ?_
  rintro e w9 ⟨rfl, hb⟩
  have HL9 := Lib.hid (HL8.out.below hb (Nat.le_refl _))
  have HB9 := Lib.hid (HB8.out.trans (hb.mono HB8.out.size))
  clear HL8 HB8 hb
  go_wp2_with fail
  refine (left_is HL9.out (by decide) 0 (by rfl)).mono ?_
  rintro e wX ⟨rfl, q, rfl⟩
  go_wp2_with fail
  go_ret
  exact ⟨rfl, below_drewN HB9.out q⟩

end Go.Proofs.Ytngehobekmijbaa
