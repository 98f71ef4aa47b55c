/-
  Timers: wheels that are none; the closed law's keys. Conditions: none.
-/
import Derived.Test.YtcgegaahdbnacaaWhM
set_option linter.unusedVariables false
set_option linter.unusedSimpArgs false
namespace Go.Proofs.Ytcgegaahdbnacaa
open Go.RowKit Go.MapKept Go.Shelf Go.Lib
open Go.Maps (Keyed)

theorem narm_any (v : Value) (k : WK) (n : Nat) (w : World) (h : ∀ o, Calls Try.prog 29 #[v] (w.alloc o) fun e w' => e = .returned (.bool true) ∧ w' = w.alloc o) :
    Calls Try.prog 18 #[v, k.v, .int .u64 n] w fun e w' => e = .returned (.int .i64 1) ∧ Below w.heap.size w w' := by
  have H := Lib.hid h
  clear h
  have HA := Lib.hid (Below.alloc (Below.refl w.heap.size w) (Nat.le_refl _) (.cells #[.int .i64 k.kind, .string k.peer, .int .i64 k.fam] 30))
  unfold WK.v
  go_enter Try.func18, Try.ntmps18
  go_wp2_with fail
  refine (H.out _).mono ?_
  rintro e w1 ⟨rfl, hw⟩
  have hw := hw.symm
  subst hw
  go_wp2_with fail
  go_ret
  exact ⟨rfl, HA.out⟩
theorem nat_any (k : WK) (w : World) : Calls Try.prog 12 #[.pointer none, k.v] w fun e w' => e = .returned (.tuple #[.int .u64 0, .bool false]) ∧ Below w.heap.size w w' := by
  have HA := Lib.hid (Below.alloc (Below.refl w.heap.size w) (Nat.le_refl _) (.cells #[.int .i64 k.kind, .string k.peer, .int .i64 k.fam] 30))
  unfold WK.v
  go_enter Try.func12, Try.ntmps12
  go_wp2_with fail
  refine (wnone_nil _).mono ?_
  rintro e w1 ⟨rfl, hw⟩
  have hw := hw.symm
  subst hw
  go_wp2_with fail
  go_ret2
  exact ⟨rfl, HA.out⟩
theorem nlen_any (w : World) : Calls Try.prog 9 #[.pointer none] w fun e w' => e = .returned (.int .i64 0) ∧ w' = w := by
  go_enter Try.func9, Try.ntmps9
  go_wp2_with fail
  refine (wnone_nil _).mono ?_
  rintro e w1 ⟨rfl, rfl⟩
  go_wp2_with fail
  go_ret
  exact ⟨rfl, rfl⟩
theorem ncopy_any (w : World) : Calls Try.prog 19 #[.pointer none] w fun e w' => e = .returned (.pointer none) ∧ w' = w := by
  go_enter Try.func19, Try.ntmps19
  go_wp2_with fail
  refine (wnone_nil _).mono ?_
  rintro e w1 ⟨rfl, rfl⟩
  go_wp2_with fail
  go_ret
  exact ⟨rfl, rfl⟩
theorem npick_any (fv : Value) (w : World) : Calls Try.prog 27 #[.pointer none, fv] w fun e w' => e = .returned (.slice none 0 0) ∧ w' = w := by
  go_enter Try.func27, Try.ntmps27
  go_wp2_with fail
  refine (wnone_nil _).mono ?_
  rintro e w1 ⟨rfl, rfl⟩
  go_wp2_with fail
  go_ret
  exact ⟨rfl, rfl⟩
theorem ntake_any (n : Nat) (w : World) : Calls Try.prog 8 #[.pointer none, .int .u64 n] w fun e w' => e = .returned (.slice none 0 0) ∧ w' = w := by
  go_enter Try.func8, Try.ntmps8
  go_wp2_with fail
  refine (npick_any _ _).mono ?_
  rintro e w1 ⟨rfl, rfl⟩
  go_wp2_with fail
  go_ret
  exact ⟨rfl, rfl⟩
theorem ndrop_any (s : ByteArray) (w : World) : Calls Try.prog 15 #[.pointer none, .string s] w fun e w' => e = .returned (.int .i64 0) ∧ Below w.heap.size w w' := by
  have HA := Lib.hid (Below.alloc (Below.refl w.heap.size w) (Nat.le_refl _) (.cells #[.string s] 9))
  go_enter Try.func15, Try.ntmps15
  go_wp2_with fail
  refine (npick_any _ _).mono ?_
  rintro e w1 ⟨rfl, hw⟩
  have hw := hw.symm
  subst hw
  go_wp2_with fail
  go_ret
  exact ⟨rfl, HA.out⟩

/-- the i-th key of the closed law -/
def nname (i : Nat) : ByteArray := ⟨#[98, UInt8.ofNat (97 + i % 26), UInt8.ofNat (97 + i / 26 % 26), UInt8.ofNat (97 + i / 676)]⟩
def nkey (i : Nat) : WK := ⟨1 + (i % 7 : Nat), nname i, (i % 6 : Nat)⟩
theorem nname_inj {i j : Nat} (hi : i < 1023) (hj : j < 1023) (h : nname i = nname j) : i = j := by
  unfold nname at h
  injection h with h
  have h1 := congrArg (fun x : Array UInt8 => x[1]?) h
  have h2 := congrArg (fun x : Array UInt8 => x[2]?) h
  have h3 := congrArg (fun x : Array UInt8 => x[3]?) h
  simp at h1 h2 h3
  have e1 := congrArg UInt8.toNat h1
  have e2 := congrArg UInt8.toNat h2
  have e3 := congrArg UInt8.toNat h3
  rw [UInt8.toNat_ofNat', UInt8.toNat_ofNat'] at e1 e2 e3
  omega
theorem nkey_ok (i : Nat) (hi : i < 1023) : (nkey i).Ok := ⟨by show (4 : Nat) ≤ _; omega, by show _ ≤ (1 + ((i % 7 : Nat) : Int)) ∧ (1 + ((i % 7 : Nat) : Int)) ≤ _; omega, by show _ ≤ ((i % 6 : Nat) : Int) ∧ ((i % 6 : Nat) : Int) ≤ _; omega⟩
theorem nkey_may (i : Nat) (hi : i < 1023) : KMay (nkey i) := by
  refine ⟨by show 1 ≤ (1 + ((i % 7 : Nat) : Int)) ∧ (1 + ((i % 7 : Nat) : Int)) ≤ 7; omega, ⟨by show 0 < (4 : Nat); omega, by show (4 : Nat) ≤ 16; omega, fun j hj => ?_⟩, by show 0 ≤ ((i % 6 : Nat) : Int) ∧ ((i % 6 : Nat) : Int) ≤ 5; omega⟩
  have hj' : j < 4 := hj
  have hu : ∀ x, 97 ≤ x → x ≤ 122 → okc j (UInt8.ofNat x).toNat = true := fun x h1 h2 => by
    rw [UInt8.toNat_ofNat']
    have : x % 2 ^ 8 = x := by omega
    rw [this]
    simp [okc]
    omega
  rcases (show j = 0 ∨ j = 1 ∨ j = 2 ∨ j = 3 by omega) with rfl | rfl | rfl | rfl
  · show okc 0 98 = true; decide
  · exact hu _ (by omega) (by omega)
  · exact hu _ (by omega) (by omega)
  · exact hu _ (by omega) (by omega)
def knownS (i : Nat) : List Tm := ⟨1099511627776, kq 1 97 0⟩ :: (List.range i).map fun j => ⟨7, nkey j⟩
theorem knownS_snoc (i : Nat) : knownS i ++ [⟨7, nkey i⟩] = knownS (i + 1) := by
  unfold knownS
  rw [List.range_succ, List.map_append]
  rfl
theorem knownS_len (i : Nat) : (knownS i).length = i + 1 := by simp [knownS]
theorem nkey_ne (i : Nat) (kd f : Int) (c : UInt8) : nkey i ≠ kq kd c f := fun h => by
  have h1 := congrArg (fun k : WK => k.peer.size) h
  simp only [nkey, kq, nname] at h1
  exact absurd h1 (by show ¬ (4 : Nat) = 1; omega)
theorem knownS_no (i : Nat) (hi : i < 1023) : ∀ p ∈ knownS i, p.k ≠ nkey i := fun p hp e => by
  rcases List.mem_cons.1 hp with rfl | hp
  · exact nkey_ne i 1 0 97 e.symm
  · obtain ⟨j, hj, rfl⟩ := List.mem_map.1 hp
    have hj := List.mem_range.1 hj
    have := nname_inj (by omega) hi (congrArg WK.peer e)
    omega
theorem nconv (i : Nat) (hi : i < 1023) (w : World) (c1 c2 c3 : Int) (h1 : c1 = 97 + (i : Int) % 26) (h2 : c2 = 97 + (i : Int) / 26 % 26) (h3 : c3 = 97 + (i : Int) / 676) :
    (convert 40 9 (.slice (some ⟨w.heap.size, 0, none⟩) 4 4)).run Try.prog (w.alloc (.cells #[.int .u8 98, .int .u8 c1, .int .u8 c2, .int .u8 c3] 5)) = .ok (.string (nname i)) (w.alloc (.cells #[.int .u8 98, .int .u8 c1, .int .u8 c2, .int .u8 c3] 5)) := by
  have e1 : c1 = ((UInt8.ofNat (97 + i % 26)).toNat : Int) := by rw [UInt8.toNat_ofNat']; omega
  have e2 : c2 = ((UInt8.ofNat (97 + i / 26 % 26)).toNat : Int) := by rw [UInt8.toNat_ofNat']; omega
  have e3 : c3 = ((UInt8.ofNat (97 + i / 676)).toNat : Int) := by rw [UInt8.toNat_ofNat']; omega
  subst e1 e2 e3
  exact run_convert_bytes_back (P := Try.prog) _ 40 9 5 ⟨w.heap.size, 0, none⟩ 4 [98, UInt8.ofNat (97 + i % 26), UInt8.ofNat (97 + i / 26 % 26), UInt8.ofNat (97 + i / 676)] Try.underlying40 Try.underlying5 Try.underlying9 (fun j hj => by
    rw [add_flat, cell_of_row _ w.heap.size j _ _ _ (heap_alloc_new w _)]
    rcases (show j = 0 ∨ j = 1 ∨ j = 2 ∨ j = 3 by simp at hj; omega) with rfl | rfl | rfl | rfl <;> rfl)
/-- keys that may not be -/
def BK : List WK := [kq 0 97 0, kq 8 97 0, kq 1 65 0, ⟨1, ⟨#[]⟩, 0⟩, kq 1 97 6, kq 1 97 (-1), ⟨1, ⟨#[97, 98, 99, 100, 101, 102, 103, 104, 105, 106, 107, 108, 109, 110, 111, 112, 113]⟩, 0⟩]
theorem bk_bad : ∀ k ∈ BK, k.Ok ∧ ¬ KMay k := by
  intro k hk
  simp only [BK, List.mem_cons, List.not_mem_nil, or_false] at hk
  rcases hk with rfl | rfl | rfl | rfl | rfl | rfl | rfl
  · exact ⟨⟨by show (1 : Nat) ≤ _; omega, by decide, by decide⟩, fun h => by have : (1 : Int) ≤ 0 := h.kind.1; omega⟩
  · exact ⟨⟨by show (1 : Nat) ≤ _; omega, by decide, by decide⟩, fun h => by have : (8 : Int) ≤ 7 := h.kind.2; omega⟩
  · exact ⟨⟨by show (1 : Nat) ≤ _; omega, by decide, by decide⟩, fun h => by have : okc 0 65 = true := h.peer.all 0 h.peer.pos; revert this; decide⟩
  · exact ⟨⟨by show (0 : Nat) ≤ _; omega, by decide, by decide⟩, fun h => by have : 0 < (0 : Nat) := h.peer.pos; omega⟩
  · exact ⟨⟨by show (1 : Nat) ≤ _; omega, by decide, by decide⟩, fun h => by have : (6 : Int) ≤ 5 := h.fam.2; omega⟩
  · exact ⟨⟨by show (1 : Nat) ≤ _; omega, by decide, by decide⟩, fun h => by have : (0 : Int) ≤ -1 := h.fam.1; omega⟩
  · exact ⟨⟨by show (17 : Nat) ≤ _; omega, by decide, by decide⟩, fun h => by have : (17 : Nat) ≤ 16 := h.peer.short; omega⟩
end Go.Proofs.Ytcgegaahdbnacaa
