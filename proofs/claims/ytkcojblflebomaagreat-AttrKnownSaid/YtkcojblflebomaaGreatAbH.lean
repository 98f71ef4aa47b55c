/-
  A path read of bytes: aspath.Decode walked. Conditions: sizes.
-/
import Derived.Test.YtkcojblflebomaaGreatAbC
import Derived.Test.YtkcojblflebomaaGreatAbD
set_option linter.unusedVariables false
set_option linter.unusedSimpArgs false
namespace Go.Proofs.YtkcojblflebomaaGreat
open Go.RowKit Go.MapKept Go.Shelf
open Go.Lib hiding intOf

theorem hd_lt (s : ByteArray) (n : Nat) : hd s n < 256 ^ n := by
  unfold hd
  have := beVal_lt (s.data.toList.take n) _ rfl
  have h2 : (s.data.toList.take n).length ≤ n := List.length_take_le _ _
  have h3 : 256 ^ (s.data.toList.take n).length ≤ 256 ^ n := Nat.pow_le_pow_right (by omega) h2
  omega
/-- n numbers of so many bytes, one behind the other; what is left behind them -/
def asN (size : Nat) : Nat → ByteArray → List Nat
  | 0, _ => []
  | n + 1, s => hd s size :: asN size n (nx s size)
def nxN (size : Nat) : Nat → ByteArray → ByteArray
  | 0, s => s
  | n + 1, s => nxN size n (nx s size)
theorem nxN_size (size : Nat) : ∀ (n : Nat) (s : ByteArray), (nxN size n s).size = s.size - n * size
  | 0, s => by simp [nxN]
  | n + 1, s => by
    unfold nxN
    rw [nxN_size size n, nx_size, Nat.succ_mul]
    omega
theorem nxN_succ (size : Nat) : ∀ (n : Nat) (s : ByteArray), nxN size (n + 1) s = nx (nxN size n s) size
  | 0, s => rfl
  | n + 1, s => by
    show nxN size (n + 1) (nx s size) = _
    rw [nxN_succ size n]
    rfl
theorem asN_succ (size : Nat) : ∀ (n : Nat) (s : ByteArray), asN size (n + 1) s = asN size n s ++ [hd (nxN size n s) size]
  | 0, s => rfl
  | n + 1, s => by
    show hd s size :: asN size (n + 1) (nx s size) = _
    rw [asN_succ size n]
    rfl
theorem asN_len (size : Nat) : ∀ (n : Nat) (s : ByteArray), (asN size n s).length = n
  | 0, s => rfl
  | n + 1, s => by
    show (asN size n (nx s size)).length + 1 = _
    rw [asN_len size n]
def sizeOf4 (four : Bool) : Nat := if four = true then 4 else 2
/-- the first segment of bytes, and what is left -/
def pdStep (size : Nat) (s : ByteArray) : Option ((Int × List Nat) × ByteArray) :=
  if s.size < 2 then none else
  if (nx (nx s 1) 1).size < hd (nx s 1) 1 * size then none else
  some (((hd s 1 : Nat), asN size (hd (nx s 1) 1) (nx (nx s 1) 1)), nxN size (hd (nx s 1) 1) (nx (nx s 1) 1))
theorem pdStep_less {size : Nat} {s t : ByteArray} {r : Int × List Nat} (h : pdStep size s = some (r, t)) : t.size < s.size := by
  unfold pdStep at h
  split at h
  · cases h
  · split at h
    · cases h
    · simp only [Option.some.injEq, Prod.mk.injEq] at h
      obtain ⟨_, rfl⟩ := h
      rw [nxN_size, nx_size, nx_size]
      omega
def pdF (size : Nat) : Nat → ByteArray → Option (List (Int × List Nat))
  | 0, s => if s.size = 0 then some [] else none
  | n + 1, s => if s.size = 0 then some [] else match pdStep size s with
    | none => none
    | some (r, t) => (pdF size n t).map (r :: ·)
theorem pdF_fuel (size : Nat) : ∀ (n m : Nat) (s : ByteArray), s.size ≤ n → s.size ≤ m → pdF size n s = pdF size m s
  | 0, 0, s, _, _ => rfl
  | 0, m + 1, s, h, _ => by
    have h0 : s.size = 0 := by omega
    unfold pdF
    rw [if_pos h0, if_pos h0]
  | n + 1, 0, s, _, h => by
    have h0 : s.size = 0 := by omega
    unfold pdF
    rw [if_pos h0, if_pos h0]
  | n + 1, m + 1, s, h1, h2 => by
    unfold pdF
    by_cases h0 : s.size = 0
    · rw [if_pos h0, if_pos h0]
    · rw [if_neg h0, if_neg h0]
      cases hs : pdStep size s with
      | none => rfl
      | some x =>
        obtain ⟨r, t⟩ := x
        have := pdStep_less hs
        simp only
        rw [pdF_fuel size n m t (by omega) (by omega)]
def pdA (size : Nat) (s : ByteArray) : Option (List (Int × List Nat)) := pdF size s.size s
theorem pdA_end {size : Nat} {s : ByteArray} (h : s.size = 0) : pdA size s = some [] := by
  unfold pdA
  rw [h]
  unfold pdF
  rw [if_pos h]
theorem pdA_no {size : Nat} {s : ByteArray} (h0 : 0 < s.size) (h : pdStep size s = none) : pdA size s = none := by
  unfold pdA
  obtain ⟨n, hn⟩ : ∃ n, s.size = n + 1 := ⟨s.size - 1, by omega⟩
  rw [hn]
  unfold pdF
  rw [if_neg (by omega), h]
theorem pdA_step {size : Nat} {s t : ByteArray} {r : Int × List Nat} (h0 : 0 < s.size) (h : pdStep size s = some (r, t)) : pdA size s = (pdA size t).map (r :: ·) := by
  have hl := pdStep_less h
  unfold pdA
  obtain ⟨n, hn⟩ : ∃ n, s.size = n + 1 := ⟨s.size - 1, by omega⟩
  rw [hn]
  show (if s.size = 0 then some [] else match pdStep size s with
    | none => none
    | some (r, t) => (pdF size n t).map (r :: ·)) = _
  rw [if_neg (by omega), h]
  simp only
  rw [pdF_fuel size n t.size t (by omega) (Nat.le_refl _)]
theorem pd_go {size : Nat} {s t u : ByteArray} {L : List (Int × List Nat)} {r : Int × List Nat} (h : pdA size s = (pdA size t).map (L ++ ·)) (h0 : 0 < t.size) (hs : pdStep size t = some (r, u)) : pdA size s = (pdA size u).map ((L ++ [r]) ++ ·) := by
  rw [h, pdA_step h0 hs, Option.map_map]
  congr 1
  funext m
  simp
/-- the path of bytes -/
def decP (four : Bool) (s : ByteArray) : Option (List (Int × List Nat)) := match pdA (sizeOf4 four) s with
  | none => none
  | some l => if pathOk l = true then some l else none
theorem decP_no {four : Bool} {s t : ByteArray} {L : List (Int × List Nat)} (h : pdA (sizeOf4 four) s = (pdA (sizeOf4 four) t).map (L ++ ·)) (h0 : 0 < t.size) (hs : pdStep (sizeOf4 four) t = none) : decP four s = none := by
  unfold decP
  rw [h, pdA_no h0 hs]
  rfl
theorem decP_many {four : Bool} {s t : ByteArray} {L : List (Int × List Nat)} (h : pdA (sizeOf4 four) s = (pdA (sizeOf4 four) t).map (L ++ ·)) (h0 : 0 < t.size) (hl : L.length = 16) : decP four s = none := by
  unfold decP
  cases hp : pdStep (sizeOf4 four) t with
  | none => rw [h, pdA_no h0 hp]; rfl
  | some x =>
    obtain ⟨r, u⟩ := x
    rw [h, pdA_step h0 hp, Option.map_map]
    cases pdA (sizeOf4 four) u with
    | none => rfl
    | some m =>
      show (if pathOk (L ++ r :: m) = true then some (L ++ r :: m) else none) = none
      rw [if_neg]
      intro e
      have := (pathOk_parts e).1
      rw [List.length_append, List.length_cons] at this
      omega
theorem decP_end {four : Bool} {s t : ByteArray} {L : List (Int × List Nat)} (h : pdA (sizeOf4 four) s = (pdA (sizeOf4 four) t).map (L ++ ·)) (h0 : t.size = 0) : decP four s = if pathOk L = true then some L else none := by
  unfold decP
  rw [h, pdA_end h0]
  simp
theorem Sg.cs_len (s : Sg) : s.cs.length = 2 := rfl
def u1 (n : Nat) : List Value := [.int .u32 n]
theorem u1_len (n : Nat) : (u1 n).length = 1 := rfl
/-- segments that a call made -/
structure SegsOwn (w : World) (base : Nat) (v : Value) (l : List (Int × List Nat)) : Prop where
  c : ∃ segs : List Sg, OwnL w base 61 2 Sg.cs v segs ∧ segs.map Sg.c = l ∧ ∀ s ∈ segs, OwnL w base 35 1 u1 (.slice s.A s.as_.length s.cap) s.as_ ∧ (∀ n ∈ s.as_, n < 4294967296) ∧ -9223372036854775808 ≤ s.kind ∧ s.kind ≤ 9223372036854775807
theorem SegsOwn.nil (w : World) (base : Nat) : SegsOwn w base (.slice none 0 0) [] := ⟨[], OwnL.nil _ _ _ _ _, rfl, fun s h => by cases h⟩
theorem SegsOwn.grown {w w' : World} {base : Nat} {v : Value} {l : List (Int × List Nat)} {row : Option Nat} (h : SegsOwn w base v l) (hg : w.grownBy w' row) (hne : ∀ k, row = some k → k < base) : SegsOwn w' base v l := by
  obtain ⟨segs, h1, h2, h3⟩ := h.c
  exact ⟨segs, h1.grown hg hne, h2, fun s hs => ⟨(h3 s hs).1.grown hg hne, (h3 s hs).2⟩⟩
theorem SegsOwn.below {w w' : World} {base : Nat} {v : Value} {l : List (Int × List Nat)} (h : SegsOwn w base v l) (hb : Below w.heap.size w w') : SegsOwn w' base v l := by
  obtain ⟨segs, h1, h2, h3⟩ := h.c
  exact ⟨segs, h1.below hb (Nat.le_refl _), h2, fun s hs => ⟨(h3 s hs).1.below hb (Nat.le_refl _), (h3 s hs).2⟩⟩
theorem OwnL.slice {α : Type} {w : World} {base : Nat} {e : TypeId} {C : Nat} {F : α → List Value} {A : Option Addr} {c : Nat} {xs : List α} (hF : ∀ a, (F a).length = C) (h : OwnL w base e C F (.slice A xs.length c) xs) : Rd w A C (xs.map F) ∧ xs.length ≤ c ∧ c ≤ maxLen := by
  obtain ⟨A2, c2, hv, h1, h2, h3⟩ := h.rd hF
  cases hv
  exact ⟨h1, h2, h3⟩
theorem SegsOwn.ok {w : World} {base : Nat} {v : Value} {l : List (Int × List Nat)} (h : SegsOwn w base v l) : ∃ A segs c, v = .slice A segs.length c ∧ SegsOk w A c segs ∧ segs.map Sg.c = l := by
  obtain ⟨segs, h1, h2, h3⟩ := h.c
  obtain ⟨A, c, rfl, hrd, hl, hc⟩ := h1.rd Sg.cs_len
  refine ⟨A, segs, c, rfl, ⟨hrd, fun s hs => ?_, hl, hc⟩, h2⟩
  obtain ⟨h4, h5, h6⟩ := h3 s hs
  obtain ⟨r1, r2, r3⟩ := h4.slice u1_len
  exact ⟨r1, r2, r3, h5, h6⟩
theorem infoSeg : (Tryz.prog.info? 61).map (fun i => (i.zero, i.size, i.bytes)) = some (some (.agg #[.int .i64 0, .slice none 0 0]), 2, 32) := by kernel_rfl
theorem infoU32 : (Tryz.prog.info? 35).map (fun i => (i.zero, i.size, i.bytes)) = some (some (.int .u32 0), 1, 4) := by kernel_rfl
def PathPost (base : Nat) (res : Option (List (Int × List Nat))) (w' : World) (e : Ending) : Prop := match res with
  | none => e = .returned (.tuple #[.slice none 0 0, .int .i64 4])
  | some l => ∃ v, e = .returned (.tuple #[v, .int .i64 0]) ∧ SegsOwn w' base v l
end Go.Proofs.YtkcojblflebomaaGreat
