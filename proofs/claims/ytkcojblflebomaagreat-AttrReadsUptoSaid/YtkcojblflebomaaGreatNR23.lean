/-
  Several texts in one.
-/
import Derived.Test.YtkcojblflebomaaGreatNR22
import Derived.Test.YtkcojblflebomaaGreatNR17
import Derived.Test.YtkcojblflebomaaGreatNR21
set_option linter.unusedVariables false
set_option linter.unusedSimpArgs false
namespace Go.Proofs.YtkcojblflebomaaGreat
open Go.RowKit Go.MapKept Go.Shelf
open Go.Lib hiding intOf

def mRd (w : World) (b : Nat) : Nat := match w.heap[b]? with
  | some (.cells cs _ _) => match cs[1]? with
    | some (Value.string s) => s.size
    | _ => 0
  | _ => 0
theorem mRd_at {w : World} {b : Nat} {s : ByteArray} (h : RdAt w b s) : mRd w b = s.size := by
  unfold RdAt at h
  unfold mRd
  rw [h]
  rfl
theorem asN_fit (v : ByteArray) : ∀ k, ∀ n ∈ asN 4 k v, n < 4294967296
  | 0, n, h => by cases h
  | k + 1, n, h => by
    rw [asN_succ] at h
    rcases List.mem_append.1 h with h | h
    · exact asN_fit v k n h
    · rw [List.mem_singleton.1 h]
      exact hd_u32 _
def take10 (v : ByteArray) (c : AtC) : AtC × Bool := if v.size = 0 ∨ v.size % 4 ≠ 0 ∨ 128 < v.size then (c, false) else ({ c with clus := asN 4 (v.size / 4) v }, true)
set_option maxRecDepth 100000 in
set_option maxHeartbeats 8000000 in
theorem take10s : Takes0 85 (fun v _ c => take10 v c) := by
  intro b c v four w hcl h hm
  obtain ⟨a, hc, ho, hac⟩ := h.x
  have HH := Lib.hid h
  have HC := Lib.hid hc
  have HO := Lib.hid ho
  have HAC := Lib.hid hac
  have hlt := hc.lt
  have HLT := Lib.hid hlt
  have hac0 : a.clus = [] := by
    have h1 : a.c.clus = a.clus := rfl
    rw [← h1, hac.1]
    exact hcl
  obtain ⟨hka, hkc⟩ := hac.2 hac0
  have HKA : Hid (a.kA = none ∧ a.clus = [] ∧ a.kC = 0) := ⟨hka, hac0, hkc⟩
  have HNEW := Lib.hid new_any
  have HNU := Lib.hid number_nx
  have HLE := Lib.hid left_any
  obtain ⟨i0, hi, hz0, hz1, hz2⟩ := info_parts infoU32
  have HI := Lib.hid hi
  have HZ0 := Lib.hid hz0
  have HZ1 := Lib.hid hz1
  have HZ2 := Lib.hid hz2
  have z0 := bytes_none v
  obtain ⟨q0, hq0⟩ : ∃ q, q = (v.size == 0) := ⟨_, rfl⟩
  rw [← hq0] at z0
  clear h hc ho hac hlt hcl hka hkc hac0 hi hz0 hz1 hz2
  by_cases hb0 : v.size = 0
  · have HT : Hid (take10 v c = (c, false)) := if_pos (.inl hb0)
    obtain rfl : q0 = true := by rw [hq0, hb0]; rfl
    clear hq0 hb0
    go_enter Tryz.func85, Tryz.ntmps85
    go_wp2_with fail
    go_ret
    refine ⟨by rw [HT.out]; rfl, ?_, Tk.refl _ _⟩
    rw [HT.out]
    exact HH.out
  obtain rfl : q0 = false := by rw [hq0]; exact beq_eq_false_iff_ne.2 hb0
  clear hq0
  by_cases hb1 : v.size % 4 = 0
  case neg =>
    have HT : Hid (take10 v c = (c, false)) := if_pos (.inr (.inl hb1))
    have z1 : ((v.size : Int) % 4 != 0) = true := bne_iff_ne.2 (by omega)
    have z1' : ((v.size : Int) % 4 == 0) = false := beq_eq_false_iff_ne.2 (by omega)
    have z2 : ((v.size : Int).tmod 4 != 0) = true := by rw [Int.tmod_eq_emod_of_nonneg (by omega)]; exact z1
    have z2' : ((v.size : Int).tmod 4 == 0) = false := by rw [Int.tmod_eq_emod_of_nonneg (by omega)]; exact z1'
    clear hb1
    go_enter Tryz.func85, Tryz.ntmps85
    go_wp2_with fail
    go_ret
    refine ⟨by rw [HT.out]; rfl, ?_, Tk.refl _ _⟩
    rw [HT.out]
    exact HH.out
  have z1 : ((v.size : Int) % 4 != 0) = false := by
    have : (v.size : Int) % 4 = 0 := by omega
    rw [this]
    rfl
  have z1' : ((v.size : Int) % 4 == 0) = true := beq_iff_eq.2 (by omega)
  have z2 : ((v.size : Int).tmod 4 != 0) = false := by rw [Int.tmod_eq_emod_of_nonneg (by omega)]; exact z1
  have z2' : ((v.size : Int).tmod 4 == 0) = true := by rw [Int.tmod_eq_emod_of_nonneg (by omega)]; exact z1'
  have HB1 := Lib.hid hb1
  by_cases hb2 : 128 < v.size
  · have HT : Hid (take10 v c = (c, false)) := if_pos (.inr (.inr hb2))
    clear hb1
    go_enter Tryz.func85, Tryz.ntmps85
    go_wp2_with fail
    go_ret
    refine ⟨by rw [HT.out]; rfl, ?_, Tk.refl _ _⟩
    rw [HT.out]
    exact HH.out
  have HT : Hid (take10 v c = ({ c with clus := asN 4 (v.size / 4) v }, true)) := if_neg (by omega)
  clear hb1
  go_enter Tryz.func85, Tryz.ntmps85
  go_wp2_with fail
  refine (HNEW.out v w).mono ?_
  rintro e w1 ⟨rfl, hw1⟩
  have HR1 : Hid (RdAt w1 w.heap.size v) := by
    show RdAt _ _ _
    rw [hw1]
    exact heap_alloc_new w _
  have HBL1 : Hid (Below w.heap.size w w1) := by
    rw [hw1]
    exact (Below.refl _ _).alloc (Nat.le_refl _) _
  have HC1 : Hid (CellsAt w1 b (a.ar.setIfInBounds 15 (.slice none 0 0)) 40) := by
    have h := HC.out.below HBL1.out HLT.out
    have e : a.ar.setIfInBounds 15 (.slice none 0 0) = a.ar := by
      have h1 : a.ar = a.ar.setIfInBounds 15 (.slice a.kA a.clus.length a.kC) := rfl
      rw [h1, HKA.out.1, HKA.out.2.1, HKA.out.2.2]
      rfl
    show CellsAt _ _ _ _
    rw [e]
    exact h
  clear hw1
  go_wp2_with fail
  go_loopw [8] (fun _x wr => ∃ (k : Nat) (A : Option Addr) (cK : Nat), k * 4 ≤ v.size ∧ Hid (RdAt wr w.heap.size (nxN 4 k v)) ∧ Hid (CellsAt wr b (a.ar.setIfInBounds 15 (.slice A k cK)) 40) ∧ Hid (OwnL wr w.heap.size 35 1 u1 (.slice A k cK) (asN 4 k v)) ∧ Hid (∀ i, i < w.heap.size → i ≠ b → wr.heap[i]? = w.heap[i]?) ∧ Hid (Below b w wr)) (fun _x wr => mRd wr w.heap.size)
  case atStart => exact ⟨0, none, 0, by omega, HR1.out, HC1.out, OwnL.nil _ _ _ _ _, fun i h1 _ => HBL1.out.block i h1, HBL1.out.mono (Nat.le_of_lt HLT.out)⟩
  case round =>
    clear HR1 HBL1 HC1
    obtain ⟨k, A, cK, hk, HR, HC2, HOW, HKP, HBB⟩ := hrel
    have hrl := HR.out.lt
    have hts : (nxN 4 k v).size = v.size - k * 4 := nxN_size 4 k v
    have HNX := Lib.hid (nxN_succ 4 k v)
    have HAS := Lib.hid (asN_succ 4 k v)
    have HMR := Lib.hid (mRd_at HR.out)
    obtain ⟨t, ht⟩ : ∃ t, t = nxN 4 k v := ⟨_, rfl⟩
    rw [← ht] at HR hts HNX HAS HMR
    clear ht
    go_wp2_with fail
    refine (HLE.out w.heap.size t _ HR.out).mono ?_
    rintro e w2 ⟨rfl, rfl⟩
    by_cases hlt : k * 4 < v.size
    · have h4 : 4 ≤ t.size := by have := HB1.out; omega
      have h0 : 0 < t.size := by omega
      go_wp2_with fail
      refine (HNU.out w.heap.size t 4 _ HR.out (by decide) (by decide) h4 (by omega)).mono ?_
      rintro e w3 ⟨rfl, hr3, hg3⟩
      have HR3 : Hid (RdAt w3 w.heap.size (nx t 4)) := hr3
      have HC3 : Hid (CellsAt w3 b (a.ar.setIfInBounds 15 (.slice A k cK)) 40) := HC2.out.row hg3 (by have := HLT.out; omega)
      have HOW3 : Hid (OwnL w3 w.heap.size 35 1 u1 (.slice A k cK) (asN 4 k v)) := HOW.out.off hg3 (show CellsAt w2 w.heap.size #[.bool true, .string t] 110 from HR.out) (by decide)
      have HKP3 : Hid (∀ i, i < w.heap.size → i ≠ b → w3.heap[i]? = w.heap[i]?) := fun i h1 h2 => (hg3.block i (by omega) (fun e => by injection e with e; omega)).trans (HKP.out i h1 h2)
      have HBB3 : Hid (Below b w w3) := HBB.out.grown hg3 (by have := HLT.out; omega) (fun q hq => by cases hq; exact Nat.le_of_lt HLT.out)
      have hrl3 : w.heap.size < w3.heap.size := Nat.lt_of_lt_of_le hrl hg3.size
      have HTS : Hid ((nx t 4).size = t.size - 4) := nx_size t 4
      have HMEAS : Hid (mRd w2 w.heap.size = t.size) := HMR.out
      obtain ⟨n, hn⟩ : ∃ n, n = hd t 4 := ⟨_, rfl⟩
      have hn4 : n < 4294967296 := by rw [hn]; exact hd_u32 t
      rw [← hn] at HAS ⊢
      clear hr3 hg3 hn HR HC2 HOW HKP HBB HMR
      have zw : IntKind.u32.wrap ((n : Nat) : Int) = ((n : Nat) : Int) := by rw [IntKind.wrap_u32]; omega
      have c15 := (HC3.out.c 15).trans (show (a.ar.setIfInBounds 15 (Value.slice A k cK))[15]? = some (.slice A k cK) from rfl)
      have f15 := HC3.out.unfrozen 15
      have HCB : Hid (CellsAt (w3.alloc (.cells #[.int .u32 (n : Nat)] 35)) w3.heap.size #[.int .u32 (n : Nat)] 35) := CellsAt.new _ _ _
      have HS := Lib.hid (Src.block (P := Tryz.prog) (t2 := 36) (size := 1) (m := 1) (c := 1) Tryz.underlying36 HCB.out rfl (by simp [Value.oneCell']))
      have HOa := Lib.hid (HOW3.out.alloc (.cells #[.int .u32 (n : Nat)] 35))
      have HBS : Hid (w.heap.size ≤ (w3.alloc (.cells #[.int .u32 (n : Nat)] 35)).heap.size) := by show _ ≤ _; simp; omega
      have HM : Hid (k + 1 ≤ maxLen) := by show _ ≤ _; unfold maxLen; omega
      have HY : Hid ((k + 1) * 4 ≤ 140737488355328) := by show _ ≤ _; omega
      have HOB : Hid (OwnM (w3.alloc (.cells #[.int .u32 (n : Nat)] 35)) w.heap.size 35 1 (.slice A k cK) k ((asN 4 k v).flatMap u1)) := by
        have h := HOa.out
        unfold OwnL at h
        rwa [asN_len] at h
      have HCa : Hid (CellsAt (w3.alloc (.cells #[.int .u32 (n : Nat)] 35)) b (a.ar.setIfInBounds 15 (.slice A k cK)) 40) := HC3.out.alloc _
      have HRa : Hid (RdAt (w3.alloc (.cells #[.int .u32 (n : Nat)] 35)) w.heap.size (nx t 4)) := (Below.heap_alloc _ _ _ HR3.out.lt).trans HR3.out
      have HBa : Hid (Below b w (w3.alloc (.cells #[.int .u32 (n : Nat)] 35))) := HBB3.out.alloc (by have := HLT.out; omega) _
      go_wp2_with (at_builtin; refine wpList_append_m rfl (.tmp 37) (.tmp 40) 36 36 rfl w.heap.size 35 i0 _ 1 4 Tryz.underlying36 HI.out HZ0.out HZ1.out HZ2.out rfl (by decide) (.slice A k cK) k ((asN 4 k v).flatMap u1) rfl HOB.out _ 1 _ rfl HS.out HM.out HY.out HBS.out ?_)
      intro v' w5 hown hgr hat
      obtain ⟨A6, c6, rfl⟩ := hown.form
      have hob : ∀ q, (Value.slice A k cK).ownBlock = some q → w.heap.size ≤ q := fun q hq => (OwnM.lt HOB.out q hq).1
      have HN5 : Hid (OwnL w5 w.heap.size 35 1 u1 (.slice A6 (k + 1) c6) (asN 4 (k + 1) v)) := by
        show OwnL _ _ _ _ _ _ _
        rw [HAS.out]
        refine OwnL.snoc ?_
        rw [asN_len]
        exact hown
      have HC5 : Hid (CellsAt w5 b (a.ar.setIfInBounds 15 (.slice A k cK)) 40) := HCa.out.own hgr (fun e => by have h1 := hob _ e.symm; have h2 := HLT.out; omega)
      have HR5 : Hid (RdAt w5 w.heap.size (nx t 4)) := (hgr.block _ HRa.out.lt (fun e => by
        rcases HOB.out.2 with ⟨h1, _⟩ | ⟨g, cap, cur, fr, h1, _, hg, _⟩
        · rw [h1] at e
          simp [Value.ownBlock] at e
        · rw [h1] at e
          simp [Value.ownBlock] at e
          rw [← e] at hg
          have h2 : (w3.alloc (.cells #[.int .u32 (n : Nat)] 35)).heap[w.heap.size]? = some (.cells #[.bool true, .string (nx t 4)] 110 (0, 0)) := HRa.out
          rw [h2] at hg
          injection hg with hg
          injection hg with _ hg
          exact absurd hg (by decide))).trans HRa.out
      have hs5 : w3.heap.size ≤ w5.heap.size := by have := hgr.size; simp at this; omega
      have HKP5 : Hid (∀ i, i < w.heap.size → i ≠ b → w5.heap[i]? = w.heap[i]?) := fun i h1 h2 => (hgr.block i (by simp; omega) (fun e => by have := hob _ e.symm; omega)).trans ((Below.heap_alloc _ _ _ (by omega)).trans (HKP3.out i h1 h2))
      have HBB5 : Hid (Below b w w5) := HBa.out.grown hgr (by simp; have := HLT.out; omega) (fun q hq => by have := hob _ hq; have := HLT.out; omega)
      have d15 := (HC5.out.c 15).trans (show (a.ar.setIfInBounds 15 (Value.slice A k cK))[15]? = some (.slice A k cK) from rfl)
      have g15 := HC5.out.unfrozen 15
      clear hown hgr hat c15 f15 hob HOB HOa HCa HRa HBa
      go_wp2_with fail
      have HCF : Hid (CellsAt (w5.setCell ⟨b, 15, none⟩ (.slice A6 (k + 1) c6)) b (a.ar.setIfInBounds 15 (.slice A6 (k + 1) c6)) 40) := HC5.out.setAt 15 _
      have HRF : Hid (RdAt (w5.setCell ⟨b, 15, none⟩ (.slice A6 (k + 1) c6)) w.heap.size (nxN 4 (k + 1) v)) := by
        show RdAt _ _ _
        rw [HNX.out]
        exact HR5.out.setOther (by have := HLT.out; omega)
      refine ⟨⟨k + 1, A6, c6, by omega, HRF.out, HCF.out, OwnM.setCell HN5.out (p := ⟨b, 15, none⟩) (fun q hq => by have h1 := (OwnM.lt HN5.out q hq).1; have h2 := HLT.out; show q ≠ b; omega) _, fun i h1 h2 => (Below.heap_setCell w5 _ _ i (by show i ≠ b; exact h2)).trans (HKP5.out i h1 h2), HBB5.out.setCell (Nat.le_refl b) _⟩, ?_⟩
      show mRd _ _ < mRd _ _
      rw [mRd_at HRF.out, HMEAS.out, HNX.out, HTS.out]
      omega
    · have hke : v.size / 4 = k := by have := HB1.out; omega
      have ht0 : ¬ 0 < t.size := by omega
      have HKE := Lib.hid hke
      clear hke
      go_wp2_with fail
      go_ret
      refine ⟨by rw [HT.out]; rfl, ?_, HBB.out, fun i h1 h2 _ => HKP.out i h1 h2⟩
      rw [HT.out, HKE.out]
      have hcf : CellsAt w2 b ({ a with kA := A, clus := asN 4 k v, kC := cK } : Atr).ar 40 := by
        show CellsAt _ _ #[_, _, _, _, _, _, _, _, _, _, _, _, _, _, _, .slice A (asN 4 k v).length cK] _
        rw [asN_len]
        exact HC2.out
      have hkl : OwnL w2 (b + 1) 35 1 u1 (.slice A (asN 4 k v).length cK) (asN 4 k v) := by
        rw [asN_len]
        exact OwnM.lower HOW.out (by have := HLT.out; omega)
      exact ⟨⟨{ a with kA := A, clus := asN 4 k v, kC := cK }, hcf, { HO.out.keep (fun i h1 h2 => HKP.out i h2 (by omega)) with clus := hkl, kfit := asN_fit v k }, by rw [← HAC.out.1]; rfl, fun h => by
        have h1 := congrArg List.length h
        rw [asN_len] at h1
        have : k = 0 := h1
        omega⟩⟩
end Go.Proofs.YtkcojblflebomaaGreat
set_option linter.unusedVariables false
set_option linter.unusedSimpArgs false
namespace Go.Proofs.YtkcojblflebomaaGreat
open Go.RowKit Go.MapKept Go.Shelf
open Go.Lib hiding intOf
open Go.Sort hiding Below

/-- things of so many bytes each, one behind the other -/
def oneN {α : Type} (S : Nat) (one : ByteArray → α) : Nat → ByteArray → List α
  | 0, _ => []
  | k + 1, s => one s :: oneN S one k (nx s S)
theorem oneN_succ {α : Type} (S : Nat) (one : ByteArray → α) : ∀ (k : Nat) (s : ByteArray), oneN S one (k + 1) s = oneN S one k s ++ [one (nxN S k s)]
  | 0, s => rfl
  | k + 1, s => by
    show one s :: oneN S one (k + 1) (nx s S) = _
    rw [oneN_succ S one k]
    rfl
theorem oneN_len {α : Type} (S : Nat) (one : ByteArray → α) : ∀ (k : Nat) (s : ByteArray), (oneN S one k s).length = k
  | 0, s => rfl
  | k + 1, s => by
    show (oneN S one k (nx s S)).length + 1 = _
    rw [oneN_len S one k]
theorem oneN_all {α : Type} {S : Nat} {one : ByteArray → α} {p : α → Prop} (h : ∀ s, p (one s)) : ∀ (k : Nat) (s : ByteArray), ∀ x ∈ oneN S one k s, p x
  | 0, s, x, hx => by cases hx
  | k + 1, s, x, hx => by
    rcases List.mem_cons.1 hx with rfl | hx
    · exact h s
    · exact oneN_all h k _ x hx
/-- what is read of bytes: none where they are wrong -/
def readC {α : Type} [DecidableEq α] (S : Nat) (one : ByteArray → α) (lt : α → α → Bool) (v : ByteArray) : Option (List α) :=
  if v.size = 0 ∨ v.size % S ≠ 0 then none
  else if 64 < (dd (srt lt (oneN S one (v.size / S) v))).length then none
  else some (dd (srt lt (oneN S one (v.size / S) v)))
theorem srt_rise {α : Type} {lt : α → α → Bool} (hS : SWO lt) (l : List α) : ∀ i a b, (srt lt l)[i]? = some a → (srt lt l)[i + 1]? = some b → lt b a = false := by
  have h := List.pairwise_mergeSort (le := fun x y => !lt y x) (by
    intro a b c h1 h2
    simp only [Bool.not_eq_true'] at h1 h2 ⊢
    exact hS.ntrans c b a h2 h1) (by
    intro a b
    cases h : lt b a with
    | false => simp
    | true => simp [hS.asymmA h]) l
  intro i a b ha hb
  rw [List.pairwise_iff_getElem] at h
  obtain ⟨h1, e1⟩ := List.getElem?_eq_some_iff.1 ha
  obtain ⟨h2, e2⟩ := List.getElem?_eq_some_iff.1 hb
  have h3 := h i (i + 1) h1 h2 (Nat.lt_succ_self i)
  subst e1
  subst e2
  simp only [Bool.not_eq_true'] at h3
  exact h3
theorem readC_ok {α : Type} [DecidableEq α] {S : Nat} {one : ByteArray → α} {lt : α → α → Bool} {v : ByteArray} {l : List α} (hS : SWO lt) (ht : ∀ a b, lt b a = false → a = b ∨ lt a b = true) (h : readC S one lt v = some l) : riseB lt l = true ∧ l.length ≤ 64 := by
  unfold readC at h
  split at h
  · cases h
  · split at h
    · cases h
    · injection h with h
      subst h
      exact ⟨dd_rise lt ht _ (srt_rise hS _), by omega⟩
theorem srt_mem {α : Type} {lt : α → α → Bool} {l : List α} {x : α} : x ∈ srt lt l ↔ x ∈ l := List.mem_mergeSort
theorem readC_all {α : Type} [DecidableEq α] {S : Nat} {one : ByteArray → α} {lt : α → α → Bool} {v : ByteArray} {l : List α} {p : α → Prop} (hp : ∀ s, p (one s)) (h : readC S one lt v = some l) : ∀ x ∈ l, p x := by
  unfold readC at h
  split at h
  · cases h
  · split at h
    · cases h
    · injection h with h
      subst h
      exact fun x hx => oneN_all hp _ _ x (srt_mem.1 ((dd_mem _).1 hx))
def lg12 (s : ByteArray) : Lg := ⟨hd s 4, hd (nx s 4) 4, hd (nx s 8) 4⟩
def take8 (v : ByteArray) (c : AtC) : AtC × Bool := match readC 4 (fun s => hd s 4) ltN v with
  | none => ({ c with comms := [] }, false)
  | some l => ({ c with comms := l }, true)
def take16 (v : ByteArray) (c : AtC) : AtC × Bool := match readC 8 (fun s => hd s 8) ltN v with
  | none => ({ c with exts := [] }, false)
  | some l => ({ c with exts := l }, true)
def take32 (v : ByteArray) (c : AtC) : AtC × Bool := match readC 12 lg12 ltL v with
  | none => ({ c with larges := [] }, false)
  | some l => ({ c with larges := l }, true)
/-- what takes each type -/
def tab (n : Nat) (v : ByteArray) (four : Bool) (c : AtC) : AtC × Bool :=
  if n = 1 then take1 v c else
  if n = 2 then take2 v four c else
  if n = 3 then take3 v c else
  if n = 4 then take4 v c else
  if n = 5 then take5 v c else
  if n = 6 then take6 v c else
  if n = 7 then take7 v four c else
  if n = 8 then take8 v c else
  if n = 9 then take9 v c else
  if n = 10 then take10 v c else
  if n = 16 then take16 v c else take32 v c
/-- the types that are known -/
theorem row_known {t : Nat} {b wr : Int} {i : Bool} {f : FuncId} (h : rowF t = some (b, wr, i, f)) : t = 1 ∨ t = 2 ∨ t = 3 ∨ t = 4 ∨ t = 5 ∨ t = 6 ∨ t = 7 ∨ t = 8 ∨ t = 9 ∨ t = 10 ∨ t = 16 ∨ t = 32 := by
  unfold rowF at h
  by_cases h1 : t = 1
  · omega
  by_cases h2 : t = 2
  · omega
  by_cases h3 : t = 3
  · omega
  by_cases h4 : t = 4
  · omega
  by_cases h5 : t = 5
  · omega
  by_cases h6 : t = 6
  · omega
  by_cases h7 : t = 7
  · omega
  by_cases h8 : t = 8
  · omega
  by_cases h9 : t = 9
  · omega
  by_cases h10 : t = 10
  · omega
  by_cases h16 : t = 16
  · omega
  by_cases h32 : t = 32
  · omega
  rw [if_neg h1, if_neg h2, if_neg h3, if_neg h4, if_neg h5, if_neg h6, if_neg h7, if_neg h8, if_neg h9, if_neg h10, if_neg h16, if_neg h32] at h
  cases h
end Go.Proofs.YtkcojblflebomaaGreat
