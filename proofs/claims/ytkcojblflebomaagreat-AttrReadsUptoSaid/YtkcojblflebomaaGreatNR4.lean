/-
  Several texts in one.
-/
import Derived.Test.YtkcojblflebomaaGreatNR3
import Derived.Test.YtkcojblflebomaaGreatNR1
import Derived.Handy
import Derived.WalkSpells
import Derived.WalkLawsBesides
import Derived.LoopTactic
import Derived.Deep.QuietTactic
import Derived.BigQuiet
import Derived.Test.YtkcojblflebomaaGreatNR2
import Derived.SizedLaws
set_option linter.unusedVariables false
set_option linter.unusedSimpArgs false
namespace Go.Proofs.YtkcojblflebomaaGreat
open Go.RowKit

/-- is a number among others? -/
def hasN (l : List Nat) (n : Int) : Bool := l.any fun x => (x : Int) == n
theorem hasN_take {l : List Nat} {k : Nat} {x : Nat} (n : Int) (h : l[k]? = some x) : hasN (l.take (k + 1)) n = (hasN (l.take k) n || (x : Int) == n) := by
  unfold hasN
  rw [List.take_add_one, h, Option.toList_some, List.any_append, List.any_cons, List.any_nil, Bool.or_false]
theorem hasN_yes {l : List Nat} {k : Nat} {x : Nat} {n : Int} (h : l[k]? = some x) (he : (x : Int) = n) : hasN l n = true := by
  unfold hasN
  exact List.any_eq_true.2 ⟨x, List.mem_of_getElem? h, by rw [he]; simp⟩
/-- each less than the next one -/
def riseB {α : Type} (lt : α → α → Bool) : List α → Bool
  | a :: b :: r => lt a b && riseB lt (b :: r)
  | _ => true
theorem riseB_iff {α : Type} (lt : α → α → Bool) : ∀ l : List α, riseB lt l = true ↔ ∀ i a b, l[i]? = some a → l[i + 1]? = some b → lt a b = true
  | [] => ⟨fun _ i a b h => (by simp at h), fun _ => rfl⟩
  | [a] => ⟨fun _ i a b h h2 => (by simp at h2), fun _ => rfl⟩
  | a :: b :: r => by
    rw [riseB, Bool.and_eq_true, riseB_iff lt (b :: r)]
    constructor
    · rintro ⟨h1, h2⟩ i x y hx hy
      cases i with
      | zero =>
        simp only [List.getElem?_cons_zero, Option.some.injEq, Nat.zero_add, List.getElem?_cons_succ] at hx hy
        subst hx
        subst hy
        exact h1
      | succ i => exact h2 i x y (by simpa using hx) (by simpa using hy)
    · intro h
      exact ⟨h 0 a b rfl rfl, fun i x y hx hy => h (i + 1) x y (by simpa using hx) (by simpa using hy)⟩
theorem riseB_one {α : Type} (lt : α → α → Bool) (l : List α) : riseB lt (l.take 1) = true := by
  cases l <;> rfl
theorem riseB_next {α : Type} {lt : α → α → Bool} {l : List α} {k : Nat} {a b : α} (h : riseB lt (l.take k) = true) (hk : 1 ≤ k) (ha : l[k - 1]? = some a) (hb : l[k]? = some b) (hl : lt a b = true) : riseB lt (l.take (k + 1)) = true := by
  rw [riseB_iff] at h ⊢
  intro i x y hx hy
  rw [List.getElem?_take] at hx hy
  split at hy
  · split at hx
    · by_cases e : i + 1 = k
      · have e2 : i = k - 1 := by omega
        rw [e, hb] at hy
        rw [e2, ha] at hx
        cases hx
        cases hy
        exact hl
      · exact h i x y (by rw [List.getElem?_take, if_pos (by omega)]; exact hx) (by rw [List.getElem?_take, if_pos (by omega)]; exact hy)
    · cases hx
  · cases hy
theorem riseB_stop {α : Type} {lt : α → α → Bool} {l : List α} {k : Nat} {a b : α} (hk : 1 ≤ k) (ha : l[k - 1]? = some a) (hb : l[k]? = some b) (hl : lt a b = false) : riseB lt l = false := by
  rw [Bool.eq_false_iff]
  intro h
  rw [riseB_iff] at h
  have := h (k - 1) a b ha (by rw [show k - 1 + 1 = k by omega]; exact hb)
  rw [hl] at this
  cases this
def ltN (a b : Nat) : Bool := decide (a < b)
def ltL (a b : Lg) : Bool := if a.g = b.g then (if a.a = b.a then decide (a.b < b.b) else decide (a.a < b.a)) else decide (a.g < b.g)
/-- may a segment be? -/
def segOk (s : Int × List Nat) : Bool := decide (1 ≤ s.1) && decide (s.1 ≤ 4) && decide (1 ≤ s.2.length) && decide (s.2.length ≤ 255) && !hasN s.2 0
def pathOk (l : List (Int × List Nat)) : Bool := decide (l.length ≤ 16) && l.all segOk
def okN (b : Bool) : Int := if b = true then 0 else 2
def nextOk (n : ByteArray) : Bool := n.size == 0 || n.size == 4 || n.size == 16
def spareOk (c : AtC) : Bool := (c.hasMed || c.med == 0) && (c.hasPref || c.pref == 0) && (c.hasOrig || c.orig == 0) && (!(c.aggAs == 0) || c.aggId == 0)
def listsOk (c : AtC) : Bool := decide (c.clus.length ≤ 32) && (riseB ltN c.comms && decide (c.comms.length ≤ 64)) && (riseB ltN c.exts && decide (c.exts.length ≤ 64)) && (riseB ltL c.larges && decide (c.larges.length ≤ 64))
def atOk (c : AtC) : Bool := decide (0 ≤ c.origin) && decide (c.origin ≤ 2) && pathOk c.path && nextOk c.next && spareOk c && listsOk c
end Go.Proofs.YtkcojblflebomaaGreat
set_option linter.unusedVariables false
set_option linter.unusedSimpArgs false
namespace Go.Proofs.YtkcojblflebomaaGreat
open Go.RowKit

/-- block b is a reader with s left -/
def RdAt (w : World) (b : Nat) (s : ByteArray) : Prop := w.heap[b]? = some (.cells #[.bool true, .string s] 110 (0, 0))
theorem RdAt.lt {w : World} {b : Nat} {s : ByteArray} (h : RdAt w b s) : b < w.heap.size := by
  rcases Nat.lt_or_ge b w.heap.size with hlt | hge
  · exact hlt
  · unfold RdAt at h; rw [Array.getElem?_eq_none hge] at h; cases h
theorem RdAt.c0 {w : World} {b : Nat} {s : ByteArray} (h : RdAt w b s) : w.cell? ⟨b, 0, none⟩ = some (.bool true) := (cell_of_row w b 0 _ _ _ h).trans rfl
theorem RdAt.c1 {w : World} {b : Nat} {s : ByteArray} (h : RdAt w b s) : w.cell? ⟨b, 1, none⟩ = some (.string s) := (cell_of_row w b 1 _ _ _ h).trans rfl
theorem RdAt.fz {w : World} {b : Nat} {s : ByteArray} (h : RdAt w b s) (i : Nat) : w.frozen? ⟨b, i, none⟩ = false := by
  unfold RdAt at h
  simp [World.frozen?, h]
theorem RdAt.set {w : World} {b : Nat} {s : ByteArray} (h : RdAt w b s) (t : ByteArray) : RdAt (w.setCell ⟨b, 1, none⟩ (.string t)) b t := by
  unfold RdAt at h ⊢
  simp [World.setCell, Array.getElem?_modify, h]
theorem RdAt.grown {w w' : World} {b : Nat} {s : ByteArray} (h : RdAt w b s) (hg : w.grownBy w' none) : RdAt w' b s := (hg.block b h.lt (by simp)).trans h
theorem RdAt.below {w w' : World} {b B : Nat} {s : ByteArray} (h : RdAt w b s) (hg : Below B w w') (hb : b < B) : RdAt w' b s := (hg.block b hb).trans h

theorem new_any (s : ByteArray) (w : World) :
    Calls Tryz.prog 33 #[.string s] w fun e w' => e = .returned (.pointer (some ⟨w.heap.size, 0, none⟩)) ∧ w' = w.alloc (.cells #[.bool true, .string s] 110) := by
  go_enter Tryz.func33, Tryz.ntmps33
  go_wp2
  go_ret
  exact ⟨rfl, rfl⟩

theorem take_ok (b : Nat) (s : ByteArray) (n : Int) (w : World) (h : RdAt w b s) (h0 : 0 ≤ n) (h1 : n ≤ s.size) (hm : (s.size : Int) ≤ 9223372036854775807) :
    Calls Tryz.prog 36 #[.pointer (some ⟨b, 0, none⟩), .int .i64 n] w fun e w' => e = .returned (.tuple #[.string (s.extract 0 n.toNat), .bool true]) ∧ w' = w.setCell ⟨b, 1, none⟩ (.string (s.extract n.toNat s.size)) := by
  have c0 := h.c0
  have c1 := h.c1
  have f1 := h.fz 1
  clear h
  go_enter Tryz.func36, Tryz.ntmps36
  go_wp2
  go_ret2
  exact ⟨rfl, rfl⟩

theorem take_no (b : Nat) (s : ByteArray) (n : Int) (w : World) (h : RdAt w b s) (h1 : n < 0 ∨ s.size < n) (hm : (s.size : Int) ≤ 9223372036854775807) :
    Calls Tryz.prog 36 #[.pointer (some ⟨b, 0, none⟩), .int .i64 n] w fun e w' => e = .returned (.tuple #[.string ByteArray.empty, .bool false]) ∧ w' = w := by
  have c0 := h.c0
  have c1 := h.c1
  clear h
  rcases h1 with h1 | h1
  · go_enter Tryz.func36, Tryz.ntmps36
    go_wp2
    go_ret2
    exact ⟨rfl, rfl⟩
  · have h0 : ¬ n < 0 := by omega
    go_enter Tryz.func36, Tryz.ntmps36
    go_wp2
    go_ret2
    exact ⟨rfl, rfl⟩

theorem left_any (b : Nat) (s : ByteArray) (w : World) (h : RdAt w b s) :
    Calls Tryz.prog 34 #[.pointer (some ⟨b, 0, none⟩)] w fun e w' => e = .returned (.int .i64 s.size) ∧ w' = w := by
  have c1 := h.c1
  clear h
  go_enter Tryz.func34, Tryz.ntmps34
  go_wp2
  go_ret
  exact ⟨rfl, rfl⟩

end Go.Proofs.YtkcojblflebomaaGreat
set_option linter.unusedVariables false
set_option linter.unusedSimpArgs false
namespace Go.Proofs.YtkcojblflebomaaGreat
open Go.RowKit

/-- bytes as a number, the highest first -/
def beVal (l : List UInt8) : Nat := l.foldl (fun v b => v * 256 + b.toNat) 0
theorem beVal_snoc (l : List UInt8) (c : UInt8) : beVal (l ++ [c]) = beVal l * 256 + c.toNat := by simp [beVal]
theorem beVal_lt (l : List UInt8) : ∀ n, l.length = n → beVal l < 256 ^ n := by
  intro n
  induction n generalizing l with
  | zero =>
    intro h
    have : l = [] := List.eq_nil_of_length_eq_zero h
    subst this
    simp [beVal]
  | succ n ih =>
    intro h
    have hne : l ≠ [] := fun e => by subst e; simp at h
    rw [← List.dropLast_concat_getLast hne, beVal_snoc, Nat.pow_succ]
    have h1 := ih l.dropLast (by rw [List.length_dropLast]; omega)
    have h2 := (l.getLast hne).toNat_lt
    omega
theorem beVal_lt7 (l : List UInt8) (n : Nat) (h : l.length = n) (hn : n ≤ 7) : beVal l < 72057594037927936 := by
  have h1 := beVal_lt l n h
  have h2 : 256 ^ n ≤ 256 ^ 7 := Nat.pow_le_pow_right (by omega) hn
  have h3 : (256 : Nat) ^ 7 = 72057594037927936 := by decide
  omega

theorem or_join (v c : Int) (h0 : 0 ≤ v) (h1 : v < 72057594037927936) (c0 : 0 ≤ c) (c1 : c < 256) : bits .or .u64 (v * 256) c = v * 256 + c := by
  rw [u64_or _ _ (by omega) (by omega) (by omega) (by omega), nat_join 8 _ _ (by omega) (by omega)]
  omega

theorem more_any (g : Nat) (v c : Int) (w : World) (hc : w.cell? ⟨g, 0, none⟩ = some (.int .u64 v)) (hf : w.frozen? ⟨g, 0, none⟩ = false) (h0 : 0 ≤ v) (h1 : v < 72057594037927936) (c0 : 0 ≤ c) (c1 : c < 256) :
    Calls Tryz.prog 110 #[.int .u8 c, .pointer (some ⟨g, 0, none⟩)] w fun e w' => e = .returned (.tuple #[]) ∧ w' = w.setCell ⟨g, 0, none⟩ (.int .u64 (v * 256 + c)) := by
  go_enter Tryz.func110, Tryz.ntmps110
  go_wp2
  go_end0
  exact ⟨rfl, by rw [or_join v c h0 h1 c0 c1]⟩

theorem value_any (g : Nat) (v : Int) (w : World) (hc : w.cell? ⟨g, 0, none⟩ = some (.int .u64 v)) :
    Calls Tryz.prog 111 #[.pointer (some ⟨g, 0, none⟩)] w fun e w' => e = .returned (.int .u64 v) ∧ w' = w := by
  go_enter Tryz.func111, Tryz.ntmps111
  go_wp2
  go_ret
  exact ⟨rfl, rfl⟩

/-- a block of one number -/
def NumAt (w : World) (g : Nat) (v : Int) : Prop := w.heap[g]? = some (.cells #[.int .u64 v] 57 (0, 0))
theorem NumAt.c {w : World} {g : Nat} {v : Int} (h : NumAt w g v) : w.cell? ⟨g, 0, none⟩ = some (.int .u64 v) := (cell_of_row w g 0 _ _ _ h).trans rfl
theorem NumAt.fz {w : World} {g : Nat} {v : Int} (h : NumAt w g v) : w.frozen? ⟨g, 0, none⟩ = false := by
  unfold NumAt at h
  simp [World.frozen?, h]
theorem NumAt.set {w : World} {g : Nat} {v : Int} (h : NumAt w g v) (u : Int) : NumAt (w.setCell ⟨g, 0, none⟩ (.int .u64 u)) g u := by
  unfold NumAt at h ⊢
  simp [World.setCell, Array.getElem?_modify, h]
theorem NumAt.new (w : World) (v : Int) : NumAt (w.alloc (.cells #[.int .u64 v] 57)) w.heap.size v := heap_alloc_new w _

theorem sum_any (w : World) :
    Calls Tryz.prog 72 #[] w fun e w' => e = .returned (.tuple #[.func (.func 110) #[] #[.pointer (some ⟨w.heap.size, 0, none⟩)], .func (.func 111) #[] #[.pointer (some ⟨w.heap.size, 0, none⟩)]]) ∧
      w' = w.alloc (.cells #[.int .u64 0] 57) := by
  go_enter Tryz.func72, Tryz.ntmps72
  go_wp2
  go_ret2
  exact ⟨rfl, rfl⟩

theorem beVal_step (t : ByteArray) (k : Nat) (h : k < t.size) : ((beVal (t.data.toList.take (k + 1)) : Nat) : Int) = (beVal (t.data.toList.take k) : Nat) * 256 + (t[k].toNat : Int) := by
  have e : t.data.toList.take (k + 1) = t.data.toList.take k ++ [t[k]] := by
    rw [List.take_succ_eq_append_getElem (by simpa using h)]; rfl
  rw [e, beVal_snoc]
  omega
theorem beVal_at (t : ByteArray) (k : Nat) (h : k ≤ 7) : beVal (t.data.toList.take k) < 72057594037927936 :=
  beVal_lt7 _ _ rfl (Nat.le_trans (List.length_take_le _ _) h)

/-- what the loop of Number does: all bytes of t, one behind the other -/
theorem number_ok (b : Nat) (s : ByteArray) (n : Nat) (w : World) (h : RdAt w b s) (h0 : 1 ≤ n) (h1 : n ≤ 8) (hs : n ≤ s.size) (hm : (s.size : Int) ≤ 9223372036854775807) :
    Calls Tryz.prog 35 #[.pointer (some ⟨b, 0, none⟩), .int .i64 n] w fun e w' => e = .returned (.tuple #[.int .u64 (beVal (s.data.toList.take n) : Nat), .bool true]) ∧
      RdAt w' b (s.extract n s.size) ∧ w.grownBy w' (some b) := by
  have H := Lib.hid h
  have hlt : b < w.heap.size := h.lt
  clear h
  go_enter Tryz.func35, Tryz.ntmps35
  go_wp2_with fail
  refine (take_ok b s _ _ H.out (by omega) (by omega) hm).mono ?_
  rintro e w' ⟨rfl, rfl⟩
  rw [Int.toNat_natCast]
  obtain ⟨t, ht⟩ : ∃ t, t = s.extract 0 n := ⟨_, rfl⟩
  rw [← ht]
  have hsz : t.size = n := by rw [ht]; simp; omega
  have hsz1 : t.size ≤ 8 := by omega
  have HT : Hid (t = s.extract 0 n ∧ t.size = n) := ⟨ht, hsz⟩
  clear ht hsz
  have HR : Hid (RdAt (w.setCell ⟨b, 1, none⟩ (.string (s.extract n s.size))) b (s.extract n s.size)) := H.out.set _
  have HG : Hid (w.grownBy (w.setCell ⟨b, 1, none⟩ (.string (s.extract n s.size))) (some b)) :=
grown_setCell w _ _
  generalize hW : w.setCell ⟨b, 1, none⟩ (.string (s.extract n s.size)) = W at HR HG ⊢
  clear hW
  go_wp2_with fail
  refine (sum_any _).mono ?_
  rintro e w' ⟨rfl, rfl⟩
  go_wp2_with fail
  go_loopw [32] (fun i wr => ∃ k : Nat, k ≤ t.size ∧ i = .int .i64 k ∧ NumAt wr W.heap.size (beVal (t.data.toList.take k) : Nat) ∧ Below W.heap.size W wr) (fun i _ => t.size - (intOf i).toNat)
  case atStart => exact ⟨0, Nat.zero_le _, rfl, by simpa [beVal] using NumAt.new W 0, (Below.refl _ _).alloc (Nat.le_refl _) _⟩
  case round =>
    obtain ⟨k, hk, rfl, hn, hb⟩ := hrel
    have HN := Lib.hid hn
    have HB := Lib.hid hb
    clear hn hb
    by_cases hlt : k < t.size
    · have hst := beVal_step t k hlt
      have HS := Lib.hid hst
      clear hst
      have hv := beVal_at t k (by omega)
      have hc := t[k].toNat_lt
      go_wp2_with fail
      refine (more_any _ _ _ _ HN.out.c HN.out.fz (by omega) (by omega) (by omega) (by omega)).mono ?_
      rintro e w' ⟨rfl, rfl⟩
      go_wp2_with fail
      go_roundw
      case rel =>
        refine ⟨k + 1, by omega, by go_num, ?_, HB.out.setCell (Nat.le_refl _) _⟩
        rw [HS.out]
        exact HN.out.set _
      case measure => simp [intOf]; omega
    · go_wp2_with fail
      refine (value_any _ _ _ HN.out.c).mono ?_
      rintro e w' ⟨rfl, rfl⟩
      go_wp2_with fail
      go_ret2
      have hsz := HT.out.2
      have hkn : k = n := by omega
      have hl : RdAt W b (s.extract n s.size) := HR.out
      refine ⟨?_, (HB.out.block b hl.lt).trans hl, ?_⟩
      · refine ret2 (val_int ?_) rfl
        rw [HT.out.1, hkn]
        simp only [ByteArray.data_extract, Array.toList_extract, List.extract_eq_take_drop, List.drop_zero, Nat.sub_zero, List.take_take, Nat.min_self]
      · exact grown_below HG.out HB.out

theorem number_short (b : Nat) (s : ByteArray) (n : Nat) (w : World) (h : RdAt w b s) (h0 : 1 ≤ n) (h1 : n ≤ 8) (hs : s.size < n) (hm : (s.size : Int) ≤ 9223372036854775807) :
    Calls Tryz.prog 35 #[.pointer (some ⟨b, 0, none⟩), .int .i64 n] w fun e w' => e = .returned (.tuple #[.int .u64 0, .bool false]) ∧ RdAt w' b s ∧ w.grownBy w' (some b) := by
  have H := Lib.hid h
  clear h
  go_enter Tryz.func35, Tryz.ntmps35
  go_wp2_with fail
  refine (take_no b s _ _ H.out (by omega) hm).mono ?_
  rintro e w' ⟨rfl, rfl⟩
  go_wp2_with fail
  refine (sum_any _).mono ?_
  rintro e w1 ⟨rfl, rfl⟩
  go_wp2_with fail
  refine wp_loop_rounds 1 ?_
  rw [rounds_succ]
  go_wp2_with fail
  have hn := NumAt.new w' 0
  refine (value_any _ 0 _ hn.c).mono ?_
  rintro e w1 ⟨rfl, rfl⟩
  go_wp2_with fail
  go_ret2
  exact ⟨rfl, (Below.heap_alloc _ _ _ H.out.lt).trans H.out, World.grownBy_alloc _ _ _⟩

end Go.Proofs.YtkcojblflebomaaGreat
set_option linter.unusedVariables false
set_option linter.unusedSimpArgs false
namespace Go.Proofs.YtkcojblflebomaaGreat
open Go.RowKit

theorem infoU8 : (Tryz.prog.info? 5).map (fun i => (i.zero, i.size, i.bytes)) = some (some (.int .u8 0), 1, 1) := by kernel_rfl

/-- the first k of size bytes of v, the highest first -/
def beB (v size k : Nat) : List UInt8 := (List.range k).map fun j => UInt8.ofNat (v / 2 ^ (8 * (size - 1 - j)))
theorem beB_succ (v size k : Nat) : beB v size (k + 1) = beB v size k ++ [UInt8.ofNat (v / 2 ^ (8 * (size - 1 - k)))] := by simp [beB, List.range_succ]
theorem beB_length (v size k : Nat) : (beB v size k).length = k := by simp [beB]

theorem byte_of (v : Int) (n : Nat) (v0 : 0 ≤ v) : v / 2 ^ n % 256 = ((UInt8.ofNat (v.toNat / 2 ^ n)).toNat : Int) := by
  obtain ⟨u, rfl⟩ := Int.eq_ofNat_of_zero_le v0
  rw [Int.toNat_natCast]
  have h : ((2 : Int) ^ n) = ((2 ^ n : Nat) : Int) := by simp
  rw [h, ← Int.natCast_ediv]
  simp

theorem beB_vals (l : List UInt8) (v : Int) (size k : Nat) (v0 : 0 ≤ v) :
    byteVals (l ++ beB v.toNat size k) ++ [Value.int .u8 (v / 2 ^ (8 * (size - 1 - k)) % 256)] = byteVals (l ++ beB v.toNat size (k + 1)) := by
  rw [beB_succ, byte_of v _ v0, ← List.append_assoc, byteVals_append (l ++ _)]
  rfl

/-- the bytes so far -/
def putS (b : ByteArray) (v size k : Nat) : ByteArray := b ++ ⟨(beB v size k).toArray⟩
theorem putS_list (b : ByteArray) (v size k : Nat) : ByteArray.mk (b.data.toList ++ beB v size k).toArray = putS b v size k := by
  unfold putS
  apply ByteArray.ext
  apply Array.ext'
  simp

set_option maxRecDepth 100000 in
theorem put_ok (b : ByteArray) (v : Int) (size : Nat) (w : World) (hb : b.size + 8 ≤ 140737488355328) (v0 : 0 ≤ v) (v1 : v < 18446744073709551616) (s0 : 1 ≤ size) (s1 : size ≤ 8) (hfit : Lib.bitLen v.toNat ≤ 8 * size) :
    Calls Tryz.prog 97 #[.string b, .int .u64 v, .int .i64 size] w fun e w' => e = .returned (.tuple #[.string (putS b v.toNat size size), .int .i64 0]) ∧ Below w.heap.size w w' := by
  obtain ⟨i0, hi, hz0, hz1, hz2⟩ := info_parts infoU8
  have hconv := run_bytes_of_string (P := Tryz.prog) w 9 56 5 b Tryz.underlying9 Tryz.underlying56 Tryz.underlying5
  have hown := OwnM.of_bytes w 5 b w.heap.size (Nat.le_refl _) (by unfold maxLen; omega)
  generalize hW : w.drew.alloc (.cells (bytesRow b (grownCap w b.size 0 5)) 5 ((bytesRow b (grownCap w b.size 0 5)).size, (bytesRow b (grownCap w b.size 0 5)).size + 1)) = W at hconv hown
  have HB : Hid (Below w.heap.size w W) := by rw [← hW]; exact ((Below.refl _ _).drew).alloc (Nat.le_refl _) _
  clear hW
  generalize grownCap w b.size 0 5 = c at hconv hown
  have HO := Lib.hid hown
  clear hown
  go_enter Tryz.func97, Tryz.ntmps97
  go_wp2_with fail
  refine (Tryz.bits_Len64 v _ v0 (by omega)).mono ?_
  rintro e w' ⟨rfl, rfl⟩
  have hf : (Lib.bitLen v.toNat : Int) ≤ 8 * size := by omega
  go_wp2_with fail
  clear hconv
  go_loopw [8, 9] (fun o i wr => ∃ k : Nat, k ≤ size ∧ i = .int .i64 ((size : Int) - 1 - k) ∧ OwnM wr w'.heap.size 5 1 o (b.size + k) (byteVals (b.data.toList ++ beB v.toNat size k)) ∧ Below w'.heap.size w' wr) (fun _ i _ => (intOf i + 1).toNat)
  case atStart => exact ⟨0, Nat.zero_le _, by go_num, by simpa [beB] using HO.out, HB.out⟩
  case round =>
    obtain ⟨k, hk, rfl, hn, hb2⟩ := hrel
    have HN := Lib.hid hn
    have HB2 := Lib.hid hb2
    clear hn hb2
    by_cases hlt : k < size
    · have q0 : 0 ≤ (size : Int) - 1 - k := by omega
      have hstep := Lib.hid (beB_vals b.data.toList v size k v0)
      go_wp2_with (at_builtin; refine wpList_append_m rfl (.tmp 31) (.tmp 37) 56 56 rfl w'.heap.size 5 i0 _ 1 1 Tryz.underlying56 hi hz0 hz1 hz2 rfl (by omega) u8 (b.size + k) _ rfl (HN.out.alloc _) _ 1 _ rfl (Src.one_new _ _ Tryz.underlying56 rfl) (by unfold maxLen; omega) (by omega) (by simp; have := HB2.out.size; omega) ?_; intro o' w1 hown1 hg1 hat1)
      rw [hstep.out] at hown1
      have hbw := (HN.out.alloc (.cells #[Value.int .u8 (v / 2 ^ (8 * (size - 1 - k)) % 256)] 5)).below_grown hg1 (HB2.out.alloc HB2.out.size _) (by simp; have := HB2.out.size; omega) (Nat.le_refl _)
      exact ⟨⟨k + 1, by omega, by go_num, hown1, hbw⟩, by simp [intOf]; omega⟩
    · obtain rfl : size = k := by omega
      have hstr := run_string_m (P := Tryz.prog) wr 56 9 5 _ _ _ _ Tryz.underlying56 Tryz.underlying5 Tryz.underlying9 HN.out
      go_wp2_with fail
      go_ret2
      exact ⟨ret2 (val_str (putS_list _ _ _ _)) rfl, HB2.out⟩

end Go.Proofs.YtkcojblflebomaaGreat
set_option linter.unusedVariables false
set_option linter.unusedSimpArgs false
namespace Go.Proofs.YtkcojblflebomaaGreat
open Go.RowKit Go.MapKept Go.Shelf
open Go.ChangeShapes Go.WideShapes Go.ChangeAt Go.Deep
open Go.Lib hiding intOf

theorem flat_len {α : Type} {F : α → List Value} {C : Nat} (hF : ∀ a, (F a).length = C) : ∀ xs : List α, (xs.flatMap F).length = xs.length * C
  | [] => by simp
  | a :: r => by
    rw [List.flatMap_cons, List.length_append, flat_len hF r, hF, List.length_cons, Nat.succ_mul]
    omega
theorem flat_at {α : Type} {F : α → List Value} {C : Nat} (hF : ∀ a, (F a).length = C) : ∀ (xs : List α) (i : Nat) (x : α) (j : Nat) (u : Value), xs[i]? = some x → (F x)[j]? = some u → (xs.flatMap F)[i * C + j]? = some u
  | [], i, x, j, u, h, _ => by simp at h
  | a :: r, 0, x, j, u, h, hu => by
    simp only [List.getElem?_cons_zero, Option.some.injEq] at h
    subst h
    rw [List.flatMap_cons, Nat.zero_mul, Nat.zero_add, List.getElem?_append_left (List.getElem?_eq_some_iff.1 hu).1]
    exact hu
  | a :: r, i + 1, x, j, u, h, hu => by
    rw [List.getElem?_cons_succ] at h
    rw [List.flatMap_cons, List.getElem?_append_right (by rw [hF, Nat.succ_mul]; omega), hF, show (i + 1) * C + j - C = i * C + j by rw [Nat.succ_mul]; omega]
    exact flat_at hF r i x j u h hu
/-- a slice that a call made: these things -/
def OwnL {α : Type} (w : World) (base : Nat) (e : TypeId) (C : Nat) (F : α → List Value) (v : Value) (xs : List α) : Prop := OwnM w base e C v xs.length (xs.flatMap F)
section
variable {α : Type} {w w' : World} {base : Nat} {e : TypeId} {C : Nat} {F : α → List Value} {v : Value} {xs : List α}
theorem OwnL.nil (w : World) (base : Nat) (e : TypeId) (C : Nat) (F : α → List Value) : OwnL w base e C F (.slice none 0 0) [] := OwnM.nil w base e C
theorem OwnL.form (h : OwnL w base e C F v xs) : ∃ A c, v = .slice A xs.length c := OwnM.form h
theorem OwnL.alloc (h : OwnL w base e C F v xs) (o : Obj) : OwnL (w.alloc o) base e C F v xs := OwnM.alloc h o
theorem OwnL.drewN (h : OwnL w base e C F v xs) (n : Nat) : OwnL (w.drewN n) base e C F v xs := h
theorem OwnL.below {B : Nat} (h : OwnL w base e C F v xs) (hg : Below B w w') (hB : w.heap.size ≤ B) : OwnL w' base e C F v xs := OwnM.below h hg hB
theorem OwnL.snoc {x : α} (h : OwnM w base e C v (xs.length + 1) (xs.flatMap F ++ F x)) : OwnL w base e C F v (xs ++ [x]) := by
  show OwnM _ _ _ _ _ _ _
  rw [List.length_append, List.flatMap_append, List.flatMap_cons, List.flatMap_nil, List.append_nil]
  exact h
/-- read again -/
theorem OwnL.rd (hF : ∀ a, (F a).length = C) (h : OwnL w base e C F v xs) : ∃ A c, v = .slice A xs.length c ∧ Rd w A C (xs.map F) ∧ xs.length ≤ c ∧ c ≤ maxLen := by
  rcases Nat.eq_zero_or_pos xs.length with h0 | h0
  · obtain rfl : xs = [] := List.eq_nil_of_length_eq_zero h0
    rcases h.2 with ⟨h2, _⟩ | ⟨g, cap, cur, fr, h2, _, _, _, h4, h5, _⟩
    · exact ⟨none, 0, h2, fun hl => absurd hl (by simp), Nat.le_refl _, Nat.zero_le _⟩
    · exact ⟨_, cap, h2, fun hl => absurd hl (by simp), h4, h5⟩
  · obtain ⟨g, cap, hv, hb, hg, hn, hc, hcell, _⟩ := OwnM.cells h h0
    refine ⟨_, cap, hv, fun _ => ⟨g, 0, rfl, hg, fun i cs hi j u hu => ?_⟩, hn, hc⟩
    rw [List.getElem?_map] at hi
    cases hx : xs[i]? with
    | none => rw [hx] at hi; cases hi
    | some x =>
      rw [hx] at hi
      obtain rfl : F x = cs := Option.some.inj hi
      rw [Nat.zero_add]
      exact hcell _ u (flat_at hF xs i x j u hx hu)
end
/-- what a new block holds, as so many elements -/
theorem Src.block {P : Program} {w : World} {t2 e T : TypeId} {size m b c : Nat} {cs : Array Value} (ht : P.underlying t2 = some (.slice e)) (h : CellsAt w b cs T) (hs : cs.size = m * size) (h1 : ∀ u ∈ cs.toList, u.oneCell' = true) :
    Src P w t2 size (.slice (some ⟨b, 0, none⟩) m c) m cs.toList :=
  Src.slice ht (by rw [Array.length_toList, hs]) (fun j x hx => by
    rw [add_flat, h.c j]
    simpa using hx) h1
/-- a raw attribute -/
structure Rw where
  f : UInt8
  t : UInt8
  v : ByteArray
def Rw.cs (r : Rw) : List Value := [.int .u8 r.f.toNat, .int .u8 r.t.toNat, .string r.v]
theorem Rw.cs_len (r : Rw) : r.cs.length = 3 := rfl
structure RwsOk (w : World) (A : Option Addr) (cap : Nat) (L : List Rw) : Prop where
  rd : Rd w A 3 (L.map Rw.cs)
  len : L.length ≤ cap
  cap : cap ≤ 9223372036854775807
  fits : ∀ r ∈ L, r.v.size ≤ 9223372036854775807
theorem RwsOk.below {w w' : World} {A : Option Addr} {cap : Nat} {L : List Rw} {B : Nat} (h : RwsOk w A cap L) (hb : Below B w w') (hB : w.heap.size ≤ B) : RwsOk w' A cap L := ⟨h.rd.below hb hB, h.len, h.cap, h.fits⟩
theorem rw_at {w : World} {A : Option Addr} {L : List Rw} {i : Nat} {x : Rw} (h : Rd w A 3 (L.map Rw.cs)) (hi : L[i]? = some x) : ∃ b off, A = some ⟨b, off, none⟩ ∧ b < w.heap.size ∧ w.cell? ⟨b, off + i * 3, none⟩ = some (.int .u8 x.f.toNat) ∧ w.cell? ⟨b, off + i * 3 + 1, none⟩ = some (.int .u8 x.t.toNat) ∧ w.cell? ⟨b, off + i * 3 + 2, none⟩ = some (.string x.v) := by
  obtain ⟨b, off, hA, hb, hc⟩ := h.at_ (i := i) (cs := x.cs) (by rw [List.getElem?_map, hi]; rfl)
  exact ⟨b, off, hA, hb, hc 0 _ rfl, hc 1 _ rfl, hc 2 _ rfl⟩
theorem u8_of {n : Int} (h0 : 0 ≤ n) (h1 : n < 256) : ∃ c : UInt8, n = c.toNat := by
  refine ⟨UInt8.ofNat n.toNat, ?_⟩
  rw [UInt8.toNat_ofNat']
  omega
section
variable {H : Type} {enc : TypeId × Value → H} {w : World} {held : Bool}
end
end Go.Proofs.YtkcojblflebomaaGreat
