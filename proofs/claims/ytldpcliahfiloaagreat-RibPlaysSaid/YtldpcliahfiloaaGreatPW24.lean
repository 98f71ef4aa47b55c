/-
  Several texts in one.
-/
import Derived.Test.YtldpcliahfiloaaGreatPW22
set_option linter.unusedVariables false
set_option linter.unusedSimpArgs false
namespace Go.Proofs.YtldpcliahfiloaaGreat
open Go.RowKit Go.MapKept
open Go.Lib hiding intOf

/-- what was told at a place, its content -/
structure TdC where
  k : Pk
  label : Nat
  c : AtC
  stale : Bool
def Td.c (t : Td) : TdC := ⟨t.k, t.label, t.a.c, t.stale⟩
def getC (M : List TdC) (k : Pk) : Option TdC := M.find? fun t => decide (t.k = k)
def setC : List TdC → TdC → List TdC
  | [], t => [t]
  | x :: r, t => if x.k = t.k then t :: r else x :: setC r t
def delC (M : List TdC) (k : Pk) : List TdC := M.filter fun t => !decide (t.k = k)
def KeysC (M : List TdC) : Prop := M.Pairwise fun p q => p.k ≠ q.k
theorem getC_some {M : List TdC} {k : Pk} {t : TdC} (h : getC M k = some t) : t ∈ M ∧ t.k = k :=
  ⟨List.mem_of_find?_eq_some h, by have := List.find?_some h; simpa using this⟩
theorem getC_none {M : List TdC} {k : Pk} (h : getC M k = none) : ∀ t ∈ M, t.k ≠ k := fun t ht e => by
  have := List.find?_eq_none.1 h t ht
  simp [e] at this
theorem getC_mem {M : List TdC} (hk : KeysC M) {t : TdC} (ht : t ∈ M) : getC M t.k = some t := by
  induction M with
  | nil => cases ht
  | cons x r ih =>
    unfold getC at ih ⊢
    rw [List.find?_cons]
    rcases List.mem_cons.1 ht with rfl | h
    · simp
    · have hne : x.k ≠ t.k := (List.pairwise_cons.1 hk).1 t h
      simp only [hne, decide_false]
      exact ih (List.pairwise_cons.1 hk).2 h
theorem setC_mem {t y : TdC} : ∀ {M : List TdC}, y ∈ setC M t → y = t ∨ (y ∈ M ∧ (KeysC M → y.k ≠ t.k))
  | [], h => .inl (List.mem_singleton.1 h)
  | x :: r, h => by
    unfold setC at h
    split at h
    · rename_i e
      rcases List.mem_cons.1 h with rfl | h
      · exact .inl rfl
      · exact .inr ⟨List.mem_cons_of_mem _ h, fun hk e2 => (List.pairwise_cons.1 hk).1 y h (e.trans e2.symm)⟩
    · rename_i e
      rcases List.mem_cons.1 h with rfl | h
      · exact .inr ⟨List.mem_cons_self .., fun _ => e⟩
      · rcases setC_mem h with h2 | ⟨h2, h3⟩
        · exact .inl h2
        · exact .inr ⟨List.mem_cons_of_mem _ h2, fun hk => h3 (List.pairwise_cons.1 hk).2⟩
theorem setC_get (M : List TdC) (t : TdC) (k : Pk) : getC (setC M t) k = if t.k = k then some t else getC M k := by
  induction M with
  | nil =>
    unfold setC getC
    by_cases h : t.k = k
    · simp [h]
    · simp [h]
  | cons x r ih =>
    unfold setC
    by_cases h : x.k = t.k
    · rw [if_pos h]
      unfold getC
      rw [List.find?_cons, List.find?_cons]
      by_cases h2 : t.k = k
      · simp [h2]
      · have h3 : x.k ≠ k := fun e => h2 (h.symm.trans e)
        simp [h2, h3]
    · rw [if_neg h]
      unfold getC at ih ⊢
      rw [List.find?_cons, List.find?_cons, ih]
      by_cases h2 : x.k = k
      · have h3 : t.k ≠ k := fun e => h (h2.trans e.symm)
        simp [h2, h3]
      · simp [h2]
theorem setC_keys {M : List TdC} (hk : KeysC M) (t : TdC) : KeysC (setC M t) := by
  induction M with
  | nil => exact List.pairwise_singleton _ _
  | cons x r ih =>
    have hr := List.pairwise_cons.1 hk
    unfold setC
    split
    · rename_i e
      exact List.pairwise_cons.2 ⟨fun y hy e2 => hr.1 y hy (e.trans e2), hr.2⟩
    · rename_i e
      refine List.pairwise_cons.2 ⟨fun y hy e2 => ?_, ih hr.2⟩
      rcases setC_mem hy with rfl | ⟨h2, _⟩
      · exact e e2
      · exact hr.1 y h2 e2
theorem setC_len (M : List TdC) (t : TdC) : (setC M t).length = if (getC M t.k).isSome = true then M.length else M.length + 1 := by
  induction M with
  | nil => rfl
  | cons x r ih =>
    unfold setC
    unfold getC at ih ⊢
    rw [List.find?_cons]
    by_cases h : x.k = t.k
    · rw [if_pos h]; simp [h]
    · rw [if_neg h]
      simp only [h, decide_false, List.length_cons, ih]
      split <;> rfl
theorem delC_keys {M : List TdC} (hk : KeysC M) (k : Pk) : KeysC (delC M k) := hk.filter _
theorem delC_none {M : List TdC} {k : Pk} (h : getC M k = none) : delC M k = M :=
  List.filter_eq_self.2 fun t ht => by simp [getC_none h t ht]
theorem delC_len {M : List TdC} {k : Pk} : (delC M k).length ≤ M.length := List.length_filter_le ..
/-- a list in memory: what is put in its place -/
theorem map_set {S : List Td} (hk : S.Pairwise fun p q => p.k ≠ q.k) {j : Nat} {p t : Td} (hj : S[j]? = some p) (he : p.k = t.k) : (S.set j t).map Td.c = setC (S.map Td.c) t.c := by
  induction S generalizing j with
  | nil => cases hj
  | cons x r ih =>
    have hr := List.pairwise_cons.1 hk
    cases j with
    | zero =>
      simp only [List.getElem?_cons_zero, Option.some.injEq] at hj
      subst hj
      show (t :: r).map Td.c = setC (x.c :: r.map Td.c) t.c
      unfold setC
      rw [if_pos (show x.c.k = t.c.k from he)]
      rfl
    | succ j =>
      rw [List.getElem?_cons_succ] at hj
      have hne : x.c.k ≠ t.c.k := fun e => hr.1 p (List.mem_of_getElem? hj) (e.trans he.symm)
      show x.c :: (r.set j t).map Td.c = setC (x.c :: r.map Td.c) t.c
      unfold setC
      rw [if_neg hne, ih hr.2 hj]
theorem map_snoc {S : List Td} {t : Td} (h : ∀ p ∈ S, p.k ≠ t.k) : (S ++ [t]).map Td.c = setC (S.map Td.c) t.c := by
  induction S with
  | nil => rfl
  | cons x r ih =>
    show x.c :: (r ++ [t]).map Td.c = setC (x.c :: r.map Td.c) t.c
    unfold setC
    rw [if_neg (show ¬ x.c.k = t.c.k from h x (List.mem_cons_self ..)), ih (fun p hp => h p (List.mem_cons_of_mem _ hp))]
theorem map_erase {S : List Td} (hk : S.Pairwise fun p q => p.k ≠ q.k) {j : Nat} {p : Td} {k : Pk} (hj : S[j]? = some p) (he : p.k = k) : (S.eraseIdx j).map Td.c = delC (S.map Td.c) k := by
  induction S generalizing j with
  | nil => cases hj
  | cons x r ih =>
    have hr := List.pairwise_cons.1 hk
    unfold delC at *
    cases j with
    | zero =>
      simp only [List.getElem?_cons_zero, Option.some.injEq] at hj
      subst hj
      rw [List.eraseIdx_cons_zero, List.map_cons, List.filter_cons, if_neg (by show ¬ (!decide (x.k = k)) = true; simp [he])]
      symm
      refine List.filter_eq_self.2 fun t ht => ?_
      obtain ⟨y, hy, rfl⟩ := List.mem_map.1 ht
      have : y.c.k ≠ k := fun e => hr.1 y hy (he.trans e.symm)
      simp [this]
    | succ j =>
      rw [List.getElem?_cons_succ] at hj
      have hne : x.c.k ≠ k := fun e => hr.1 p (List.mem_of_getElem? hj) (e.trans he.symm)
      rw [List.eraseIdx_cons_succ, List.map_cons, List.map_cons, List.filter_cons, if_pos (by simp [hne]), ih hr.2 hj]
theorem keys_c {S : List Td} (hk : S.Pairwise fun p q => p.k ≠ q.k) : KeysC (S.map Td.c) := by
  unfold KeysC
  rw [List.pairwise_map]
  exact hk
theorem get_at {S : List Td} (hk : S.Pairwise fun p q => p.k ≠ q.k) {j : Nat} {p : Td} (hj : S[j]? = some p) : getC (S.map Td.c) p.k = some p.c :=
  getC_mem (keys_c hk) (t := p.c) (List.mem_map.2 ⟨p, List.mem_of_getElem? hj, rfl⟩)
theorem get_no {S : List Td} {k : Pk} (h : ∀ p ∈ S, p.k ≠ k) : getC (S.map Td.c) k = none := by
  unfold getC
  rw [List.find?_eq_none]
  intro t ht
  obtain ⟨p, hp, rfl⟩ := List.mem_map.1 ht
  have h2 : p.c.k ≠ k := h p hp
  simp [h2]
/-- how many are of a family -/
def cntC (M : List TdC) (fam : Int) : Nat := (M.filter fun t => decide (t.k.fam = fam)).length
end Go.Proofs.YtldpcliahfiloaaGreat
set_option linter.unusedVariables false
set_option linter.unusedSimpArgs false
namespace Go.Proofs.YtldpcliahfiloaaGreat
open Go.RowKit Go.MapKept
open Go.Lib hiding intOf

/-- a told prefix's place -/
def Nl.k (n : Nl) : Pk := ⟨n.fam, n.rd, n.addr, n.len, n.id.toNat⟩
/-- attributes of a MED alone -/
def medC (m : Nat) : AtC := ⟨0, [], ⟨#[]⟩, true, m, false, 0, false, 0, 0, [], [], [], false, 0, []⟩
theorem nodup_sub {α : Type} [DecidableEq α] : ∀ (D M : List α), D.Nodup → (∀ d ∈ D, d ∈ M) → D.length ≤ M.length
  | [], _, _, _ => Nat.zero_le _
  | d :: r, M, hn, hs => by
    have hd := hs d (List.mem_cons_self ..)
    obtain ⟨h1, h2⟩ := List.nodup_cons.1 hn
    have ih := nodup_sub r (M.erase d) h2 (fun x hx => (List.mem_erase_of_ne (fun e => h1 (by rw [← e]; exact hx))).2 (hs x (List.mem_cons_of_mem _ hx)))
    rw [List.length_erase_of_mem hd] at ih
    have := List.length_pos_of_mem hd
    rw [List.length_cons]
    omega
end Go.Proofs.YtldpcliahfiloaaGreat
set_option linter.unusedVariables false
set_option linter.unusedSimpArgs false
namespace Go.Proofs.YtldpcliahfiloaaGreat
open Go.RowKit Go.MapKept
open Go.Lib hiding intOf

/-- a path that a rib hands out -/
def pathAr (k : Pk) (label : Nat) (a : Atr) (stale : Bool) : Array Value := #[.int .i64 k.fam, .int .u64 k.rd, .string k.addr, .int .i64 k.len, .int .u32 (k.id : Nat), .int .u32 (label : Nat), .int .i64 a.origin, .slice a.pA a.segs.length a.pC, .string a.next, .bool a.hasMed, .int .u32 (a.med : Nat), .bool a.hasPref, .int .u32 (a.pref : Nat), .bool a.atomic, .int .u32 (a.aggAs : Nat), .int .u32 (a.aggId : Nat), .slice a.mA a.comms.length a.mC, .slice a.xA a.exts.length a.xC, .slice a.lA a.larges.length a.lC, .bool a.hasOrig, .int .u32 (a.orig : Nat), .slice a.kA a.clus.length a.kC, .int .i64 0, .string ⟨#[]⟩, .int .u32 0, .int .u32 0, .string ⟨#[]⟩, .string ⟨#[]⟩, .bool stale]
def noPk : Pk := ⟨0, 0, ⟨#[]⟩, 0, 0⟩
/-- Get -/
def GetPost (base : Nat) (M : List TdC) (k : Pk) (w' : World) (e : Ending) : Prop :=
  match getC M k with
  | some t => ∃ a : Atr, e = .returned (.tuple #[.agg (pathAr k t.label a t.stale), .bool true]) ∧ AtO w' base a ∧ a.c = t.c
  | none => e = .returned (.tuple #[.agg (pathAr noPk 0 noAtr false), .bool false])
/-- Put: what it answers and what the rib is behind it -/
def putC (most : Int) (M : List TdC) (n : Nl) (c : AtC) : Bool × Int × List TdC :=
  if ¬ (nlMay n ∧ atOk c = true) then (false, 2, M)
  else if getC M n.k = none ∧ 0 < most ∧ most ≤ M.length then (true, 0, M)
  else (false, 0, setC M ⟨n.k, n.label.toNat, c, false⟩)
theorem putC_bad {most : Int} {M : List TdC} {n : Nl} {c : AtC} (h : ¬ (nlMay n ∧ atOk c = true)) : putC most M n c = (false, 2, M) := if_pos h
theorem putC_over {most : Int} {M : List TdC} {n : Nl} {c : AtC} (h : nlMay n ∧ atOk c = true) (h2 : getC M n.k = none ∧ 0 < most ∧ most ≤ M.length) : putC most M n c = (true, 0, M) := by
  unfold putC
  rw [if_neg (fun h3 => h3 h), if_pos h2]
theorem putC_set {most : Int} {M : List TdC} {n : Nl} {c : AtC} (h : nlMay n ∧ atOk c = true) (h2 : ¬ (getC M n.k = none ∧ 0 < most ∧ most ≤ M.length)) : putC most M n c = (false, 0, setC M ⟨n.k, n.label.toNat, c, false⟩) := by
  unfold putC
  rw [if_neg (fun h3 => h3 h), if_neg h2]
/-- a rib whose contents are M -/
def RibM (w : World) (base b m : Nat) (most : Int) (M : List TdC) : Prop := ∃ S, RibAt w base b m most S ∧ S.map Td.c = M
def PutPost (base b m : Nat) (most : Int) (M : List TdC) (n : Nl) (c : AtC) (w' : World) (e : Ending) : Prop :=
  e = .returned (.tuple #[.bool (putC most M n c).1, .int .i64 (putC most M n c).2.1]) ∧ RibM w' base b m most (putC most M n c).2.2
theorem RibM.below {w w' : World} {base b m : Nat} {most : Int} {M : List TdC} (h : RibM w base b m most M) (hb : Below w.heap.size w w') : RibM w' base b m most M := by
  obtain ⟨S, h1, h2⟩ := h
  exact ⟨S, h1.below hb, h2⟩
theorem RibM.keys {w : World} {base b m : Nat} {most : Int} {M : List TdC} (h : RibM w base b m most M) : KeysC M := by
  obtain ⟨S, h1, rfl⟩ := h
  exact keys_c h1.keys
theorem RibM.lt {w : World} {base b m : Nat} {most : Int} {M : List TdC} (h : RibM w base b m most M) : b < w.heap.size ∧ m < w.heap.size ∧ base ≤ b ∧ base ≤ m ∧ b ≠ m := by
  obtain ⟨S, h1, h2⟩ := h
  exact ⟨h1.lt.1, h1.lt.2, h1.low.1, h1.low.2, h1.ne⟩
/-- attributes of a MED alone, in memory -/
def medA (m : Nat) : Atr := { noAtr with hasMed := true, med := m }
theorem medA_c (m : Nat) : (medA m).c = medC m := rfl
theorem medA_own (w : World) (base : Nat) {m : Nat} (hm : m < 4294967296) : AtO w base (medA m) :=
  { noAtr_own w base with nfit := ⟨hm, (by show (0 : Nat) < 4294967296; decide), (by show (0 : Nat) < 4294967296; decide), (by show (0 : Nat) < 4294967296; decide), (by show (0 : Nat) < 4294967296; decide)⟩ }
theorem medC_sz (m : Nat) : AtrSz (medC m) := ⟨(by show (0 : Nat) * 32 ≤ 140737488351232; decide), (fun x hx => by cases hx), by show (0 : Nat) ≤ _; omega, (by show (0 : Nat) * 4 ≤ 140737488351232; decide), (by show (0 : Nat) * 8 ≤ 140737488351232; decide), (by show (0 : Nat) * 12 ≤ 140737488351232; decide), (by show (0 : Nat) * 4 ≤ 140737488351232; decide)⟩
theorem medC_ok (m : Nat) : atOk (medC m) = true := by rfl
end Go.Proofs.YtldpcliahfiloaaGreat
