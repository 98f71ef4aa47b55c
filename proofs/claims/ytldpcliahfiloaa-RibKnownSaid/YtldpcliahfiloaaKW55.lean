/-
  RibKnown: the examples answer true. Conditions: none.
-/
import Derived.Test.YtldpcliahfiloaaKW54
set_option linter.unusedVariables false
set_option linter.unusedSimpArgs false
namespace Go.Proofs.Ytldpcliahfiloaa
open Go.RowKit Go.MapKept Go.Shelf
open Go.ChangeShapes Go.WideShapes Go.ChangeAt
open Go.ChangeMaps (open_string shut_string)
open Go.Lib hiding intOf
open Go.Sort hiding Below

def wt3 : TdC := ⟨atK 10 0, 0, medC 3, false⟩
def wt2s : TdC := ⟨atK 10 1, 0, medC 2, true⟩
def wt4 : TdC := ⟨atK 12 0, 0, medC 1, false⟩
def atr9 : Atr := { noAtr with origin := 9 }
theorem atr9_own (w : World) (base : Nat) : AtO w base atr9 := { noAtr_own w base with ofit := by decide }
theorem atr9_sz : AtrSz atr9.c := medC_sz 0 |> fun h => ⟨h.1, h.2, h.3, h.4, h.5, h.6, h.7⟩
theorem no_ok : noPk.Ok := ⟨by decide, by decide, by decide, by decide, by decide⟩
theorem kput4 : putC 2 [wt1, wt2] (nlk (atK 10 0) 0) (medC 3) = (false, 0, [wt3, wt2]) := by kernel_rfl
theorem kput5 : putC 2 [wt2s] (nlk (atK 12 0) 0) (medC 1) = (false, 0, [wt2s, wt4]) := by kernel_rfl
theorem kput6 : putC 2 [] (nlk noPk 0) (medC 1) = (false, 2, []) := by kernel_rfl
theorem kput7 : putC 2 [] (nlk (atK 10 0) 0) atr9.c = (false, 2, []) := by kernel_rfl
theorem kget3 : getC [wt3, wt2] (atK 10 0) = some wt3 := by kernel_rfl
theorem kgone1 : (getC [wt3, wt2] (atK 11 0)).isSome = false := by kernel_rfl
theorem kdel1 : delC [wt3, wt2] (atK 11 0) = [wt3, wt2] := by kernel_rfl
theorem kgone2 : (getC [wt3, wt2] (atK 10 0)).isSome = true := by kernel_rfl
theorem kdel2 : delC [wt3, wt2] (atK 10 0) = [wt2] := by kernel_rfl
theorem kmark : markC 1 [wt2] = [wt2s] := by kernel_rfl
theorem kcnt : cntC [wt2] 1 = 1 := by kernel_rfl
theorem kfil : ([wt2s, wt4].filter fun t => decide (t.k.fam = 1) && t.stale).map (·.k) = [atK 10 1] := by kernel_rfl
theorem kfil2 : ([wt4].filter fun t => decide (t.k.fam = 1) && true).map (·.k) = [atK 12 0] := by kernel_rfl
theorem kdell : delL [atK 10 1] [wt2s, wt4] = [wt4] := by kernel_rfl
theorem kdell2 : delL [atK 12 0] [wt4] = [] := by kernel_rfl
theorem cells_keep {w w' : World} {g j : Nat} {v : Value} (h : w.cell? ⟨g, j, none⟩ = some v) (hb : w'.heap[g]? = w.heap[g]?) : w'.cell? ⟨g, j, none⟩ = some v := by
  rw [← h]
  unfold World.cell?
  rw [hb]
theorem RibM.drew_ {w : World} {base b m : Nat} {most : Int} {M : List TdC} (h : RibM w base b m most M) : RibM w.drew base b m most M := by
  obtain ⟨S, h1, h2⟩ := h
  exact ⟨S, h1.drew 1, h2⟩
def At6 (w : World) (g : Nat) (k : Pk) (label : Nat) : Prop := w.cell? ⟨g, 0, none⟩ = some (.int .i64 k.fam) ∧ w.cell? ⟨g, 1, none⟩ = some (.int .u64 k.rd) ∧ w.cell? ⟨g, 2, none⟩ = some (.string k.addr) ∧ w.cell? ⟨g, 3, none⟩ = some (.int .i64 k.len) ∧ w.cell? ⟨g, 4, none⟩ = some (.int .u32 (k.id : Nat)) ∧ w.cell? ⟨g, 5, none⟩ = some (.int .u32 (label : Nat))
def At4 (w : World) (g : Nat) (k : Pk) : Prop := w.cell? ⟨g, 0, none⟩ = some (.int .i64 k.fam) ∧ w.cell? ⟨g, 1, none⟩ = some (.int .u64 k.rd) ∧ w.cell? ⟨g, 2, none⟩ = some (.string k.addr) ∧ w.cell? ⟨g, 3, none⟩ = some (.int .i64 k.len)
theorem At6.keep {w w' : World} {g : Nat} {k : Pk} {label : Nat} (h : At6 w g k label) (hb : w'.heap[g]? = w.heap[g]?) : At6 w' g k label :=
  ⟨cells_keep h.1 hb, cells_keep h.2.1 hb, cells_keep h.2.2.1 hb, cells_keep h.2.2.2.1 hb, cells_keep h.2.2.2.2.1 hb, cells_keep h.2.2.2.2.2 hb⟩
theorem At4.keep {w w' : World} {g : Nat} {k : Pk} (h : At4 w g k) (hb : w'.heap[g]? = w.heap[g]?) : At4 w' g k :=
  ⟨cells_keep h.1 hb, cells_keep h.2.1 hb, cells_keep h.2.2.1 hb, cells_keep h.2.2.2 hb⟩
theorem ksweep {W : World} {base b m : Nat} (h : RibM W base b m 2 [wt2s, wt4]) : Calls Try.prog 18 #[.pointer (some ⟨b, 0, none⟩), .int .i64 1] W fun e w' => ((∃ g c, e = .returned (.slice (some ⟨g, 0, none⟩) 1 c) ∧ 1 ≤ c ∧ c ≤ maxLen ∧ W.heap.size ≤ g ∧ g < w'.heap.size ∧ At6 w' g (atK 10 1) 0) ∧ RibM w' base b m 2 [wt4]) ∧ GrownX (fun i => i = m) W w' := by
  refine (rsweep_any h 1).mono ?_
  rintro e w' ⟨⟨ov, T, O, rfl, hnl, hord, hperm, htk, hr⟩, hg⟩
  rw [kfil] at hperm
  have hO : O = [atK 10 1] := List.perm_singleton.1 hperm
  subst hO
  rw [kdell] at hr
  obtain ⟨hk, hl⟩ := htk
  obtain ⟨x, rfl⟩ : ∃ x, T = [x] := List.length_eq_one_iff.1 (by rw [← List.length_map (f := fun x : Nr => x.k), hk]; rfl)
  · have hx : x.k = atK 10 1 := by simpa using hk
    obtain ⟨t, ht, e1, e2⟩ := hl x (List.mem_singleton.2 rfl)
    have hlab : x.label = 0 := by
      rw [← e2]
      rcases List.mem_cons.1 ht with rfl | ht
      · rfl
      · rw [List.mem_singleton] at ht
        subst ht
        rfl
    obtain ⟨g, cap, hv, hb, hgs, hn, hc, hcell, _⟩ := OwnM.cells hnl (by show 0 < 1; decide)
    obtain ⟨xk, xl⟩ := x
    dsimp only at hx hlab
    subst hx
    subst hlab
    exact ⟨⟨⟨g, cap, by rw [hv]; rfl, hn, hc, hb, hgs, hcell 0 _ rfl, hcell 1 _ rfl, hcell 2 _ rfl, hcell 3 _ rfl, hcell 4 _ rfl, hcell 5 _ rfl⟩, hr⟩, hg⟩
theorem kall {W : World} {base b m : Nat} (h : RibM W base b m 2 [wt4]) : Calls Try.prog 20 #[.pointer (some ⟨b, 0, none⟩), .int .i64 1] W fun e w' => (∃ g c, e = .returned (.slice (some ⟨g, 0, none⟩) 1 c) ∧ 1 ≤ c ∧ c ≤ maxLen ∧ W.heap.size ≤ g ∧ g < w'.heap.size ∧ At4 w' g (atK 12 0)) ∧ Below W.heap.size W w' := by
  refine (rall_any h 1).mono ?_
  rintro e w' ⟨⟨ov, L, O, rfl, hph, hord, hperm, hall⟩, hg⟩
  rw [kfil2] at hperm
  have hO : O = [atK 12 0] := List.perm_singleton.1 hperm
  subst hO
  obtain ⟨hk, hl⟩ := hall
  obtain ⟨t, rfl⟩ : ∃ x, L = [x] := List.length_eq_one_iff.1 (by rw [← List.length_map (f := fun x : Td => x.k), hk]; rfl)
  · have hx : t.k = atK 12 0 := by simpa using hk
    obtain ⟨g, cap, hv, hb, hgs, hn, hc, hcell, _⟩ := OwnM.cells hph.own (by show 0 < 1; decide)
    rw [show flatPh [t] = t.pa.toList from by unfold flatPh; rw [List.flatMap_cons, List.flatMap_nil, List.append_nil]] at hcell
    rw [← hx]
    exact ⟨⟨g, cap, by rw [hv]; rfl, hn, hc, hb, hgs, hcell 0 _ rfl, hcell 1 _ rfl, hcell 2 _ rfl, hcell 3 _ rfl⟩, hg⟩
theorem kclear1 {W : World} {base b m : Nat} (h : RibM W base b m 2 [wt4]) : Calls Try.prog 22 #[.pointer (some ⟨b, 0, none⟩), .int .i64 1] W fun e w' => ((∃ A c, e = .returned (.slice A 1 c)) ∧ RibM w' base b m 2 []) ∧ GrownX (fun i => i = m) W w' := by
  refine (rclear_any h 1).mono ?_
  rintro e w' ⟨⟨ov, T, O, rfl, hnl, hord, hperm, htk, hr⟩, hg⟩
  rw [kfil2] at hperm
  have hO : O = [atK 12 0] := List.perm_singleton.1 hperm
  subst hO
  rw [kdell2] at hr
  obtain ⟨A, c, e⟩ := OwnM.form hnl
  exact ⟨⟨⟨A, c, by rw [e, htk.len]; rfl⟩, hr⟩, hg⟩
theorem kclear2 {W : World} {base b m : Nat} (h : RibM W base b m 2 []) : Calls Try.prog 22 #[.pointer (some ⟨b, 0, none⟩), .int .i64 1] W fun e w' => ((∃ A c, e = .returned (.slice A 0 c)) ∧ RibM w' base b m 2 []) ∧ GrownX (fun i => i = m) W w' := by
  refine (rclear_any h 1).mono ?_
  rintro e w' ⟨⟨ov, T, O, rfl, hnl, hord, hperm, htk, hr⟩, hg⟩
  have hO : O = [] := List.perm_nil.1 hperm
  subst hO
  obtain ⟨A, c, e⟩ := OwnM.form hnl
  exact ⟨⟨⟨A, c, by rw [e, htk.len]; rfl⟩, hr⟩, hg⟩
set_option maxRecDepth 100000 in
set_option maxHeartbeats 16000000 in
theorem known_walk (w : World) : Calls Try.prog 6 #[] w fun e w' => e = .returned (.bool true) ∧ Below w.heap.size w w' := by
  have HNEW := Lib.hid (fun w => rnewM_any 2 w)
  have HA0 : Hid (∀ W, Calls Try.prog 21 #[.int .u8 10, .int .u32 0] W fun e w' => e = .returned (.agg (nlA (atK 10 0) 0)) ∧ Below W.heap.size W w') := fun W => at_any 10 0 W
  have HA1 : Hid (∀ W, Calls Try.prog 21 #[.int .u8 10, .int .u32 1] W fun e w' => e = .returned (.agg (nlA (atK 10 1) 0)) ∧ Below W.heap.size W w') := fun W => at_any 10 1 W
  have HA2 : Hid (∀ W, Calls Try.prog 21 #[.int .u8 11, .int .u32 0] W fun e w' => e = .returned (.agg (nlA (atK 11 0) 0)) ∧ Below W.heap.size W w') := fun W => at_any 11 0 W
  have HO1 : Hid (∀ W, Calls Try.prog 11 #[.int .u32 1] W fun e w' => e = .returned (.agg (medA 1).ar) ∧ Below W.heap.size W w') := fun W => of_any 1 W
  have HO2 : Hid (∀ W, Calls Try.prog 11 #[.int .u32 2] W fun e w' => e = .returned (.agg (medA 2).ar) ∧ Below W.heap.size W w') := fun W => of_any 2 W
  have HO3 : Hid (∀ W, Calls Try.prog 11 #[.int .u32 3] W fun e w' => e = .returned (.agg (medA 3).ar) ∧ Below W.heap.size W w') := fun W => of_any 3 W
  have HP1 : Hid (∀ W base b m, RibM W base b m 2 [] → Calls Try.prog 10 #[.pointer (some ⟨b, 0, none⟩), .agg (nlA (atK 10 0) 0), .agg (medA 1).ar] W fun e w' => (e = .returned (.tuple #[.bool false, .int .i64 0]) ∧ RibM w' base b m 2 [wt1]) ∧ GrownX (fun i => i = m) W w') := fun W base b m h => (rputM_any h (atK 10 0) 0 (at_ok 10 0 (by decide)) (by decide) (medA 1) (medA_own W 0 (by decide)).ok (medC_sz 1) (by decide)).mono fun e w' h2 => by
    have h3 := h2.1
    unfold PutPost at h3
    rw [medA_c, wput1] at h3
    exact ⟨h3, h2.2⟩
  have HP2 : Hid (∀ W base b m, RibM W base b m 2 [wt1] → Calls Try.prog 10 #[.pointer (some ⟨b, 0, none⟩), .agg (nlA (atK 10 1) 0), .agg (medA 2).ar] W fun e w' => (e = .returned (.tuple #[.bool false, .int .i64 0]) ∧ RibM w' base b m 2 [wt1, wt2]) ∧ GrownX (fun i => i = m) W w') := fun W base b m h => (rputM_any h (atK 10 1) 0 (at_ok 10 1 (by decide)) (by decide) (medA 2) (medA_own W 0 (by decide)).ok (medC_sz 2) (by decide)).mono fun e w' h2 => by
    have h3 := h2.1
    unfold PutPost at h3
    rw [medA_c, wput2] at h3
    exact ⟨h3, h2.2⟩
  have HP3 : Hid (∀ W base b m, RibM W base b m 2 [wt1, wt2] → Calls Try.prog 10 #[.pointer (some ⟨b, 0, none⟩), .agg (nlA (atK 11 0) 0), .agg (medA 3).ar] W fun e w' => (e = .returned (.tuple #[.bool true, .int .i64 0]) ∧ RibM w' base b m 2 [wt1, wt2]) ∧ GrownX (fun i => i = m) W w') := fun W base b m h => (rputM_any h (atK 11 0) 0 (at_ok 11 0 (by decide)) (by decide) (medA 3) (medA_own W 0 (by decide)).ok (medC_sz 3) (by decide)).mono fun e w' h2 => by
    have h3 := h2.1
    unfold PutPost at h3
    rw [medA_c, wput3] at h3
    exact ⟨h3, h2.2⟩
  have HA4 : Hid (∀ W, Calls Try.prog 21 #[.int .u8 12, .int .u32 0] W fun e w' => e = .returned (.agg (nlA (atK 12 0) 0)) ∧ Below W.heap.size W w') := fun W => at_any 12 0 W
  have HA1L : Hid (∀ W, Calls Try.prog 21 #[.int .u8 10, .int .u32 1] W fun e w' => e = .returned (.agg #[.int .i64 1, .int .u64 0, .string ⟨#[10, 0, 0, 0]⟩, .int .i64 8, .int .u32 1, .int .u32 0]) ∧ Below W.heap.size W w') := fun W => at_any 10 1 W
  have HA4L : Hid (∀ W, Calls Try.prog 21 #[.int .u8 12, .int .u32 0] W fun e w' => e = .returned (.agg #[.int .i64 1, .int .u64 0, .string ⟨#[12, 0, 0, 0]⟩, .int .i64 8, .int .u32 0, .int .u32 0]) ∧ Below W.heap.size W w') := fun W => at_any 12 0 W
  have HP4 : Hid (∀ W base b m, RibM W base b m 2 [wt1, wt2] → Calls Try.prog 10 #[.pointer (some ⟨b, 0, none⟩), .agg (nlA (atK 10 0) 0), .agg (medA 3).ar] W fun e w' => (e = .returned (.tuple #[.bool false, .int .i64 0]) ∧ RibM w' base b m 2 [wt3, wt2]) ∧ GrownX (fun i => i = m) W w') := fun W base b m h => (rputM_any h (atK 10 0) 0 (at_ok 10 0 (by decide)) (by decide) (medA 3) (medA_own W 0 (by decide)).ok (medC_sz 3) (by decide)).mono fun e w' h2 => by
    have h3 := h2.1
    unfold PutPost at h3
    rw [medA_c, kput4] at h3
    exact ⟨h3, h2.2⟩
  have HP5 : Hid (∀ W base b m, RibM W base b m 2 [wt2s] → Calls Try.prog 10 #[.pointer (some ⟨b, 0, none⟩), .agg (nlA (atK 12 0) 0), .agg (medA 1).ar] W fun e w' => (e = .returned (.tuple #[.bool false, .int .i64 0]) ∧ RibM w' base b m 2 [wt2s, wt4]) ∧ GrownX (fun i => i = m) W w') := fun W base b m h => (rputM_any h (atK 12 0) 0 (at_ok 12 0 (by decide)) (by decide) (medA 1) (medA_own W 0 (by decide)).ok (medC_sz 1) (by decide)).mono fun e w' h2 => by
    have h3 := h2.1
    unfold PutPost at h3
    rw [medA_c, kput5] at h3
    exact ⟨h3, h2.2⟩
  have HP6 : Hid (∀ W base b m, RibM W base b m 2 [] → Calls Try.prog 10 #[.pointer (some ⟨b, 0, none⟩), .agg #[.int .i64 0, .int .u64 0, .string ⟨#[]⟩, .int .i64 0, .int .u32 0, .int .u32 0], .agg (medA 1).ar] W fun e w' => (e = .returned (.tuple #[.bool false, .int .i64 2]) ∧ RibM w' base b m 2 []) ∧ GrownX (fun i => i = m) W w') := fun W base b m h => (rputM_any h noPk 0 no_ok (by decide) (medA 1) (medA_own W 0 (by decide)).ok (medC_sz 1) (by decide)).mono fun e w' h2 => by
    have h3 := h2.1
    unfold PutPost at h3
    rw [medA_c, kput6] at h3
    exact ⟨h3, h2.2⟩
  have HP7 : Hid (∀ W base b m, RibM W base b m 2 [] → Calls Try.prog 10 #[.pointer (some ⟨b, 0, none⟩), .agg (nlA (atK 10 0) 0), .agg #[.int .i64 9, .slice none 0 0, .string ⟨#[]⟩, .bool false, .int .u32 0, .bool false, .int .u32 0, .bool false, .int .u32 0, .int .u32 0, .slice none 0 0, .slice none 0 0, .slice none 0 0, .bool false, .int .u32 0, .slice none 0 0]] W fun e w' => (e = .returned (.tuple #[.bool false, .int .i64 2]) ∧ RibM w' base b m 2 []) ∧ GrownX (fun i => i = m) W w') := fun W base b m h => (rputM_any h (atK 10 0) 0 (at_ok 10 0 (by decide)) (by decide) atr9 (atr9_own W 0).ok atr9_sz (by decide)).mono fun e w' h2 => by
    have h3 := h2.1
    unfold PutPost at h3
    rw [kput7] at h3
    exact ⟨h3, h2.2⟩
  have HG3 : Hid (∀ W base b m, RibM W base b m 2 [wt3, wt2] → Calls Try.prog 13 #[.pointer (some ⟨b, 0, none⟩), .agg (atK 10 0).pf, .int .u32 0] W fun e w' => (∃ a : Atr, e = .returned (.tuple #[.agg (pathAr (atK 10 0) 0 a false), .bool true]) ∧ a.med = 3) ∧ Below W.heap.size W w') := fun W base b m h => (rgetM_any h (atK 10 0) (at_ok 10 0 (by decide))).mono fun e w' h2 => by
    have h3 := h2.1
    unfold GetPost at h3
    rw [kget3] at h3
    obtain ⟨a, g1, g2, g3⟩ := h3
    exact ⟨⟨a, g1, congrArg AtC.med g3⟩, h2.2⟩
  have HN1 : Hid (∀ W base b m, RibM W base b m 2 [wt3, wt2] → Calls Try.prog 9 #[.pointer (some ⟨b, 0, none⟩), .agg (nlA (atK 11 0) 0)] W fun e w' => (e = .returned (.bool false) ∧ RibM w' base b m 2 [wt3, wt2]) ∧ GrownX (fun i => i = m) W w') := fun W base b m h => (rgoneM_any h (atK 11 0) 0 (at_ok 11 0 (by decide))).mono fun e w' h2 => by
    rw [kgone1, kdel1] at h2
    exact ⟨⟨h2.1, h2.2.1⟩, h2.2.2⟩
  have HN2 : Hid (∀ W base b m, RibM W base b m 2 [wt3, wt2] → Calls Try.prog 9 #[.pointer (some ⟨b, 0, none⟩), .agg (nlA (atK 10 0) 0)] W fun e w' => (e = .returned (.bool true) ∧ RibM w' base b m 2 [wt2]) ∧ GrownX (fun i => i = m) W w') := fun W base b m h => (rgoneM_any h (atK 10 0) 0 (at_ok 10 0 (by decide))).mono fun e w' h2 => by
    rw [kgone2, kdel2] at h2
    exact ⟨⟨h2.1, h2.2.1⟩, h2.2.2⟩
  have HMK : Hid (∀ W base b m, RibM W base b m 2 [wt2] → Calls Try.prog 16 #[.pointer (some ⟨b, 0, none⟩), .int .i64 1] W fun e w' => (e = .returned (.int .i64 1) ∧ RibM w' base b m 2 [wt2s]) ∧ GrownX (fun i => i = m) W w') := fun W base b m h => (rmarkM_any h 1).mono fun e w' h2 => by
    rw [kcnt, kmark] at h2
    exact h2
  have HC0 : Hid (∀ W base b m, RibM W base b m 2 [] → Calls Try.prog 14 #[.pointer (some ⟨b, 0, none⟩), .int .i64 0] W fun e w' => e = .returned (.int .i64 0) ∧ Below W.heap.size W w') := fun W base b m h => rcountM_any h 0
  have hfd : ∀ W : World, (Instr.field 32 (.agg (nlA (atK 10 0) 0)) 0).run Try.prog W = .ok (.agg (atK 10 0).pf) W := fun W => by kernel_rfl
  have hfd4 : ∀ W : World, (Instr.field 32 (.agg #[.int .i64 1, .int .u64 0, .string ⟨#[12, 0, 0, 0]⟩, .int .i64 8, .int .u32 0, .int .u32 0]) 0).run Try.prog W = .ok (.agg #[.int .i64 1, .int .u64 0, .string ⟨#[12, 0, 0, 0]⟩, .int .i64 8]) W := fun W => by kernel_rfl
  have HWK := Lib.hid rworks_any
  go_enter Try.func6, Try.ntmps6
  go_wp2_with fail
  refine (HNEW.out _).mono ?_
  rintro e w1 ⟨b, m, rfl, hr1, hb1, hm1, hbb⟩
  have HM : Hid (w.heap.size ≤ m) := hm1
  have HR1 := Lib.hid hr1
  have HB1 : Hid (Below w.heap.size w w1) := hb1
  clear hr1 hb1 hm1 hbb HNEW
  go_wp2_with fail
  refine (HA0.out _).mono ?_
  rintro e w2 ⟨rfl, hb⟩
  have HR2 := Lib.hid (HR1.out.below hb)
  have HB2 : Hid (Below w.heap.size w w2) := HB1.out.trans (hb.mono HB1.out.size)
  clear hb HR1 HB1
  go_wp2_with fail
  refine (HO1.out _).mono ?_
  rintro e w3 ⟨rfl, hb⟩
  have HR3 := Lib.hid (HR2.out.below hb)
  have HB3 : Hid (Below w.heap.size w w3) := HB2.out.trans (hb.mono HB2.out.size)
  clear hb HR2 HB2
  go_wp2_with fail
  refine (HP1.out _ _ _ _ HR3.out).mono ?_
  rintro e w4 ⟨⟨rfl, hr⟩, hg⟩
  have HR4 := Lib.hid hr
  have HB4 : Hid (Below w.heap.size w w4) := HB3.out.trans (hg.toBelow HM.out HB3.out.size)
  clear hr hg HR3 HB3
  go_wp2_with fail
  refine (HA1.out _).mono ?_
  rintro e w5 ⟨rfl, hb⟩
  have HR5 := Lib.hid (HR4.out.below hb)
  have HB5 : Hid (Below w.heap.size w w5) := HB4.out.trans (hb.mono HB4.out.size)
  clear hb HR4 HB4
  go_wp2_with fail
  refine (HO2.out _).mono ?_
  rintro e w6 ⟨rfl, hb⟩
  have HR6 := Lib.hid (HR5.out.below hb)
  have HB6 : Hid (Below w.heap.size w w6) := HB5.out.trans (hb.mono HB5.out.size)
  clear hb HR5 HB5
  go_wp2_with fail
  refine (HP2.out _ _ _ _ HR6.out).mono ?_
  rintro e w7 ⟨⟨rfl, hr⟩, hg⟩
  have HR7 := Lib.hid hr
  have HB7 : Hid (Below w.heap.size w w7) := HB6.out.trans (hg.toBelow HM.out HB6.out.size)
  clear hr hg HR6 HB6
  go_wp2_with fail
  refine (HA2.out _).mono ?_
  rintro e w8 ⟨rfl, hb⟩
  have HR8 := Lib.hid (HR7.out.below hb)
  have HB8 : Hid (Below w.heap.size w w8) := HB7.out.trans (hb.mono HB7.out.size)
  clear hb HR7 HB7
  go_wp2_with fail
  refine (HO3.out _).mono ?_
  rintro e w9 ⟨rfl, hb⟩
  have HR9 := Lib.hid (HR8.out.below hb)
  have HB9 : Hid (Below w.heap.size w w9) := HB8.out.trans (hb.mono HB8.out.size)
  clear hb HR8 HB8
  go_wp2_with fail
  refine (HP3.out _ _ _ _ HR9.out).mono ?_
  rintro e w10 ⟨⟨rfl, hr⟩, hg⟩
  have HR10 := Lib.hid hr
  have HB10 : Hid (Below w.heap.size w w10) := HB9.out.trans (hg.toBelow HM.out HB9.out.size)
  clear hr hg HR9 HB9
  go_wp2_with fail
  refine (HA0.out _).mono ?_
  rintro e w11 ⟨rfl, hb⟩
  have HR11 := Lib.hid (HR10.out.below hb)
  have HB11 : Hid (Below w.heap.size w w11) := HB10.out.trans (hb.mono HB10.out.size)
  clear hb HR10 HB10
  go_wp2_with fail
  refine (HO3.out _).mono ?_
  rintro e w12 ⟨rfl, hb⟩
  have HR12 := Lib.hid (HR11.out.below hb)
  have HB12 : Hid (Below w.heap.size w w12) := HB11.out.trans (hb.mono HB11.out.size)
  clear hb HR11 HB11
  go_wp2_with fail
  refine (HP4.out _ _ _ _ HR12.out).mono ?_
  rintro e w13 ⟨⟨rfl, hr⟩, hg⟩
  have HR13 := Lib.hid hr
  have HB13 : Hid (Below w.heap.size w w13) := HB12.out.trans (hg.toBelow HM.out HB12.out.size)
  clear hr hg HR12 HB12
  go_wp2_with fail
  refine (HA0.out _).mono ?_
  rintro e w14 ⟨rfl, hb⟩
  have HR14 := Lib.hid (HR13.out.below hb)
  have HB14 : Hid (Below w.heap.size w w14) := HB13.out.trans (hb.mono HB13.out.size)
  clear hb HR13 HB13
  go_wp2_with fail
  refine (HG3.out _ _ _ _ HR14.out).mono ?_
  rintro e w15 ⟨⟨a, rfl, hmed⟩, hb⟩
  have HR15 := Lib.hid (HR14.out.below hb)
  have HB15 : Hid (Below w.heap.size w w15) := HB14.out.trans (hb.mono HB14.out.size)
  clear hb HR14 HB14
  have HN : Hid (∀ cs : Array Value, CellsAt (w15.alloc (.cells cs 47)) w15.heap.size cs 47) := fun cs => CellsAt.new _ _ _
  go_upto_region 7 with (with_reducible show wpList _ _ _ (_ :: _) _ _; refine wpList_store_path rfl (.tmp 6) (.tmp 50) rfl w15.heap.size rfl (atK 10 0) 0 a false rfl _ (HN.out _) rfl ?_)
  refine rb_name fun V hV => ?_
  have hbV : Below w15.heap.size w15 V := by rw [hV]; exact ((Below.refl _ _).alloc (Nat.le_refl _) _).grown (grown_setRow' _ _ _) (by simp) (fun q hq => by cases hq; exact Nat.le_refl _)
  have HC : Hid (CellsAt V w15.heap.size (pathAr (atK 10 0) 0 a false) 47) := by rw [hV]; exact (HN.out _).setRow' _
  have HRV := Lib.hid (HR15.out.below hbV)
  have HBV : Hid (Below w.heap.size w V) := HB15.out.trans (hbV.mono HB15.out.size)
  have c10 : V.cell? ⟨w15.heap.size, 10, none⟩ = some (.int .u32 3) := by
    rw [HC.out.c 10]
    show some (Value.int .u32 (a.med : Nat)) = _
    rw [hmed]
    rfl
  clear hV hbV HR15 HB15 HN hmed HC
  obtain ⟨w50, hw50⟩ : ∃ x, x = V := ⟨_, rfl⟩
  subst hw50
  have HR50 := HRV
  have HB50 := HBV
  clear HRV HBV
  go_wp2_with fail
  refine (HA2.out _).mono ?_
  rintro e w51 ⟨rfl, hb⟩
  have HR51 := Lib.hid (HR50.out.below hb)
  have HB51 : Hid (Below w.heap.size w w51) := HB50.out.trans (hb.mono HB50.out.size)
  clear hb HR50 HB50 c10
  go_wp2_with fail
  refine (HN1.out _ _ _ _ HR51.out).mono ?_
  rintro e w52 ⟨⟨rfl, hr⟩, hg⟩
  have HR52 := Lib.hid hr
  have HB52 : Hid (Below w.heap.size w w52) := HB51.out.trans (hg.toBelow HM.out HB51.out.size)
  clear hr hg HR51 HB51
  go_wp2_with fail
  refine (HA0.out _).mono ?_
  rintro e w53 ⟨rfl, hb⟩
  have HR53 := Lib.hid (HR52.out.below hb)
  have HB53 : Hid (Below w.heap.size w w53) := HB52.out.trans (hb.mono HB52.out.size)
  clear hb HR52 HB52
  go_wp2_with fail
  refine (HN2.out _ _ _ _ HR53.out).mono ?_
  rintro e w54 ⟨⟨rfl, hr⟩, hg⟩
  have HR54 := Lib.hid hr
  have HB54 : Hid (Below w.heap.size w w54) := HB53.out.trans (hg.toBelow HM.out HB53.out.size)
  clear hr hg HR53 HB53
  go_wp2_with fail
  refine (HMK.out _ _ _ _ HR54.out).mono ?_
  rintro e w55 ⟨⟨rfl, hr⟩, hg⟩
  have HR55 := Lib.hid hr
  have HB55 : Hid (Below w.heap.size w w55) := HB54.out.trans (hg.toBelow HM.out HB54.out.size)
  clear hr hg HR54 HB54
  go_wp2_with fail
  refine (HA4.out _).mono ?_
  rintro e w56 ⟨rfl, hb⟩
  have HR56 := Lib.hid (HR55.out.below hb)
  have HB56 : Hid (Below w.heap.size w w56) := HB55.out.trans (hb.mono HB55.out.size)
  clear hb HR55 HB55
  go_wp2_with fail
  refine (HO1.out _).mono ?_
  rintro e w57 ⟨rfl, hb⟩
  have HR57 := Lib.hid (HR56.out.below hb)
  have HB57 : Hid (Below w.heap.size w w57) := HB56.out.trans (hb.mono HB56.out.size)
  clear hb HR56 HB56
  go_wp2_with fail
  refine (HP5.out _ _ _ _ HR57.out).mono ?_
  rintro e w58 ⟨⟨rfl, hr⟩, hg⟩
  have HR58 := Lib.hid hr
  have HB58 : Hid (Below w.heap.size w w58) := HB57.out.trans (hg.toBelow HM.out HB57.out.size)
  clear hr hg HR57 HB57
  have HSW := Lib.hid (ksweep HR58.out)
  go_wp2_with fail
  refine HSW.out.mono ?_
  rintro e w70 ⟨⟨⟨g1, cp1, rfl, h1a, h1b, h1c, h1d, h1e⟩, hr⟩, hg⟩
  have HM1 : Hid (m < g1) := by have := HR58.out.lt.2.1; show _ < _; omega
  have HR70 := Lib.hid hr
  have HB70 : Hid (Below w.heap.size w w70) := HB58.out.trans (hg.toBelow HM.out HB58.out.size)
  have H1E := Lib.hid h1e
  have H1D := Lib.hid h1d
  unfold maxLen at h1b
  clear hr hg HR58 HB58 HSW h1c h1d h1e
  have HAL := Lib.hid (kall HR70.out)
  go_wp2_with fail
  refine HAL.out.mono ?_
  rintro e w71 ⟨⟨g2, cp2, rfl, h2a, h2b, h2c, h2d, h2e⟩, hb⟩
  have HM2 : Hid (m < g2) := by have := HR70.out.lt.2; show _ < _; omega
  have HR71 := Lib.hid (HR70.out.below hb)
  have HB71 : Hid (Below w.heap.size w w71) := HB70.out.trans (hb.mono HB70.out.size)
  have H1F := Lib.hid (H1E.out.keep (hb.block g1 H1D.out))
  have H1G : Hid (g1 < w71.heap.size) := Nat.lt_of_lt_of_le H1D.out hb.size
  have H2E := Lib.hid h2e
  have H2D := Lib.hid h2d
  unfold maxLen at h2b
  clear hb HR70 HB70 HAL h2c h2d h2e H1E H1D
  obtain ⟨V, hV⟩ : ∃ x, x = w71 := ⟨_, rfl⟩
  subst hV
  have HROW : Hid (∀ W, GrownX (fun i => i = m) V W → (W.cell? ⟨g1, 0, none⟩ = some (.int .i64 1) ∧ W.cell? ⟨g1, 1, none⟩ = some (.int .u64 0) ∧ W.cell? ⟨g1, 2, none⟩ = some (.string ⟨#[10, 0, 0, 0]⟩) ∧ W.cell? ⟨g1, 3, none⟩ = some (.int .i64 8) ∧ W.cell? ⟨g1, 4, none⟩ = some (.int .u32 1) ∧ W.cell? ⟨g1, 5, none⟩ = some (.int .u32 0)) ∧ (W.cell? ⟨g2, 0, none⟩ = some (.int .i64 1) ∧ W.cell? ⟨g2, 1, none⟩ = some (.int .u64 0) ∧ W.cell? ⟨g2, 2, none⟩ = some (.string ⟨#[12, 0, 0, 0]⟩) ∧ W.cell? ⟨g2, 3, none⟩ = some (.int .i64 8))) := fun W hW => ⟨H1F.out.keep (hW.block g1 H1G.out (fun e => by have := HM1.out; omega)), H2E.out.keep (hW.block g2 H2D.out (fun e => by have := HM2.out; omega))⟩
  clear H1F H1G H2E H2D HM1 HM2
  go_upto_region 12 with fail
  refine wp_region_held_drew (S := fun w' => GrownX (fun i => i = m) V w') (by kernel_rfl) ((GrownX.refl _ _).drew 1) (fun hHeld => ?_)
  refine wpAnyH_take (i := 0) (oi := { dst := some 91, op := Op.move (Operand.tmp 8), type := 22, pos := "outright.go:174", after := #[], guard := none }) (v := ?_) rfl (by kernel_rfl) (by kernel_rfl) (by kernel_rfl) (fun _ _ _ h => h) (Or.inl ⟨by rfl, ?_⟩) hHeld ?_
  rotate_left
  · intro w hSw
    clear hSw
    go_simp
    try with_reducible rfl
  try simp only [Act.put, List.setIfInBounds_toArray, List.set_cons_zero, List.set_cons_succ]
  refine wpAnyH_take (i := 1) (oi := { dst := some 92, op := Op.call { callee := Callee.builtin Builtin.len, args := #[Operand.tmp 91], argTypes := #[22] }, type := 3, pos := "outright.go:174", after := #[{ on := 0, ground := Ground.data }], guard := none }) (v := ?_) rfl (by kernel_rfl) (by kernel_rfl) (by kernel_rfl) (fun _ _ _ h => h) (Or.inl ⟨by rfl, ?_⟩) hHeld ?_
  rotate_left
  · intro w hSw
    clear hSw
    go_simp
    try with_reducible rfl
  try simp only [Act.put, List.setIfInBounds_toArray, List.set_cons_zero, List.set_cons_succ]
  refine wpAnyH_take (i := 2) (oi := { dst := some 93, op := Op.binOp BinOp.neq 3 (Operand.tmp 92) (Operand.const (Value.int IntKind.i64 1)) 3, type := 4, pos := "outright.go:174", after := #[{ on := 1, ground := Ground.data }], guard := none }) (v := ?_) rfl (by kernel_rfl) (by kernel_rfl) (by kernel_rfl) (fun _ _ _ h => h) (Or.inl ⟨by rfl, ?_⟩) hHeld ?_
  rotate_left
  · intro w hSw
    clear hSw
    go_simp
    try with_reducible rfl
  try simp only [Act.put, List.setIfInBounds_toArray, List.set_cons_zero, List.set_cons_succ]
  refine wpAnyH_take (i := 3) (oi := { dst := some 94, op := Op.move (Operand.tmp 93), type := 4, pos := "outright.go:174", after := #[{ on := 2, ground := Ground.data }], guard := none }) (v := ?_) rfl (by kernel_rfl) (by kernel_rfl) (by kernel_rfl) (fun _ _ _ h => h) (Or.inl ⟨by rfl, ?_⟩) hHeld ?_
  rotate_left
  · intro w hSw
    clear hSw
    go_simp
    try with_reducible rfl
  try simp only [Act.put, List.setIfInBounds_toArray, List.set_cons_zero, List.set_cons_succ]
  refine wpAnyH_take (i := 4) (oi := { dst := some 95, op := Op.move (Operand.tmp 8), type := 22, pos := "outright.go:174", after := #[{ on := 3, ground := Ground.guard }], guard := some (3, false) }) (v := ?_) rfl (by kernel_rfl) (by kernel_rfl) (by kernel_rfl) (fun _ _ _ h => h) (Or.inl ⟨by rfl, ?_⟩) hHeld ?_
  rotate_left
  · intro w hSw
    clear hSw
    go_simp
    try with_reducible rfl
  try simp only [Act.put, List.setIfInBounds_toArray, List.set_cons_zero, List.set_cons_succ]
  refine wpAnyH_take (i := 5) (oi := { dst := some 96, op := Op.indexAddr 22 (Operand.tmp 95) (Operand.const (Value.int IntKind.i64 0)), type := 0, pos := "outright.go:174", after := #[{ on := 4, ground := Ground.data }, { on := 3, ground := Ground.guard }], guard := some (3, false) }) (v := ?_) rfl (by kernel_rfl) (by kernel_rfl) (by kernel_rfl) (fun _ _ _ h => h) (Or.inl ⟨by rfl, ?_⟩) hHeld ?_
  rotate_left
  · intro w hSw
    clear hSw
    go_simp
    try with_reducible rfl
  try simp only [Act.put, List.setIfInBounds_toArray, List.set_cons_zero, List.set_cons_succ]
  refine wpAnyH_take (i := 6) (oi := { dst := some 97, op := Op.load 32 (Operand.tmp 96), type := 32, pos := "outright.go:174", after := #[{ on := 5, ground := Ground.data }, { on := 3, ground := Ground.guard }], guard := some (3, false) }) (v := ?_) rfl (by kernel_rfl) (by kernel_rfl) (by kernel_rfl) (fun _ _ _ h => h) (Or.inl ⟨by rfl, ?_⟩) hHeld ?_
  rotate_left
  · intro w hSw
    obtain ⟨⟨c0, c1, c2, c3, c4, c5⟩, d0, d1, d2, d3⟩ := HROW.out w hSw
    go_simp
    try with_reducible rfl
  try simp only [Act.put, List.setIfInBounds_toArray, List.set_cons_zero, List.set_cons_succ]
  refine wpAnyH_ready (rs := [7]) (by kernel_rfl) (by simp) ?_
  refine AllReadyH.cons (o := { dst := some 98, op := Op.call { callee := Callee.value (Operand.func 21), args := #[Operand.const (Value.int IntKind.u8 10), Operand.const (Value.int IntKind.u32 1)], argTypes := #[5, 30] }, type := 32, pos := "outright.go:174", after := #[{ on := 3, ground := Ground.chain }, { on := 3, ground := Ground.guard }], guard := some (3, false) }) rfl (fun K hK => ?_) AllReadyH.nil
  go_simp
  refine (HA1L.out _).mono ?_
  rintro e x1 ⟨rfl, hx1⟩
  have HX1 := Lib.hid (HR71.out.drew_.below hx1)
  refine hK.out _ _ (hHeld.trans (GrownX.of_below hx1)) (fun hHeld => ?_)
  clear hK K
  try simp only [Act.put, List.setIfInBounds_toArray, List.set_cons_zero, List.set_cons_succ]
  refine wpAnyH_take (i := 8) (oi := { dst := some 99, op := Op.binOp BinOp.neq 32 (Operand.tmp 97) (Operand.tmp 98) 32, type := 4, pos := "outright.go:174", after := #[{ on := 6, ground := Ground.data }, { on := 7, ground := Ground.data }, { on := 3, ground := Ground.guard }], guard := some (3, false) }) (v := ?_) rfl (by kernel_rfl) (by kernel_rfl) (by kernel_rfl) (fun _ _ _ h => h) (Or.inl ⟨by rfl, ?_⟩) hHeld ?_
  rotate_left
  · intro w hSw
    clear hSw
    go_simp
    try with_reducible rfl
  try simp only [Act.put, List.setIfInBounds_toArray, List.set_cons_zero, List.set_cons_succ]
  refine wpAnyH_take (i := 9) (oi := { dst := some 100, op := Op.pick (Operand.tmp 94) (Operand.const (Value.bool true)) (Operand.tmp 99), type := 4, pos := "outright.go:174", after := #[{ on := 3, ground := Ground.data }, { on := 8, ground := Ground.data }], guard := none }) (v := ?_) rfl (by kernel_rfl) (by kernel_rfl) (by kernel_rfl) (fun _ _ _ h => h) (Or.inl ⟨by rfl, ?_⟩) hHeld ?_
  rotate_left
  · intro w hSw
    clear hSw
    go_simp
    try with_reducible rfl
  try simp only [Act.put, List.setIfInBounds_toArray, List.set_cons_zero, List.set_cons_succ]
  refine wpAnyH_take (i := 10) (oi := { dst := some 101, op := Op.move (Operand.tmp 100), type := 4, pos := "outright.go:174", after := #[{ on := 9, ground := Ground.data }, { on := 7, ground := Ground.chain }], guard := none }) (v := ?_) rfl (by kernel_rfl) (by kernel_rfl) (by kernel_rfl) (fun _ _ _ h => h) (Or.inl ⟨by rfl, ?_⟩) hHeld ?_
  rotate_left
  · intro w hSw
    clear hSw
    go_simp
    try with_reducible rfl
  try simp only [Act.put, List.setIfInBounds_toArray, List.set_cons_zero, List.set_cons_succ]
  refine wpAnyH_take (i := 11) (oi := { dst := some 102, op := Op.move (Operand.tmp 9), type := 57, pos := "outright.go:174", after := #[{ on := 10, ground := Ground.guard }], guard := some (10, false) }) (v := ?_) rfl (by kernel_rfl) (by kernel_rfl) (by kernel_rfl) (fun _ _ _ h => h) (Or.inl ⟨by rfl, ?_⟩) hHeld ?_
  rotate_left
  · intro w hSw
    clear hSw
    go_simp
    try with_reducible rfl
  try simp only [Act.put, List.setIfInBounds_toArray, List.set_cons_zero, List.set_cons_succ]
  refine wpAnyH_take (i := 12) (oi := { dst := some 103, op := Op.call { callee := Callee.builtin Builtin.len, args := #[Operand.tmp 102], argTypes := #[57] }, type := 3, pos := "outright.go:174", after := #[{ on := 11, ground := Ground.data }, { on := 10, ground := Ground.guard }], guard := some (10, false) }) (v := ?_) rfl (by kernel_rfl) (by kernel_rfl) (by kernel_rfl) (fun _ _ _ h => h) (Or.inl ⟨by rfl, ?_⟩) hHeld ?_
  rotate_left
  · intro w hSw
    clear hSw
    go_simp
    try with_reducible rfl
  try simp only [Act.put, List.setIfInBounds_toArray, List.set_cons_zero, List.set_cons_succ]
  refine wpAnyH_take (i := 13) (oi := { dst := some 104, op := Op.binOp BinOp.neq 3 (Operand.tmp 103) (Operand.const (Value.int IntKind.i64 1)) 3, type := 4, pos := "outright.go:174", after := #[{ on := 12, ground := Ground.data }, { on := 10, ground := Ground.guard }], guard := some (10, false) }) (v := ?_) rfl (by kernel_rfl) (by kernel_rfl) (by kernel_rfl) (fun _ _ _ h => h) (Or.inl ⟨by rfl, ?_⟩) hHeld ?_
  rotate_left
  · intro w hSw
    clear hSw
    go_simp
    try with_reducible rfl
  try simp only [Act.put, List.setIfInBounds_toArray, List.set_cons_zero, List.set_cons_succ]
  refine wpAnyH_take (i := 14) (oi := { dst := some 105, op := Op.pick (Operand.tmp 101) (Operand.const (Value.bool true)) (Operand.tmp 104), type := 4, pos := "outright.go:174", after := #[{ on := 10, ground := Ground.data }, { on := 13, ground := Ground.data }], guard := none }) (v := ?_) rfl (by kernel_rfl) (by kernel_rfl) (by kernel_rfl) (fun _ _ _ h => h) (Or.inl ⟨by rfl, ?_⟩) hHeld ?_
  rotate_left
  · intro w hSw
    clear hSw
    go_simp
    try with_reducible rfl
  try simp only [Act.put, List.setIfInBounds_toArray, List.set_cons_zero, List.set_cons_succ]
  refine wpAnyH_take (i := 15) (oi := { dst := some 106, op := Op.move (Operand.tmp 105), type := 4, pos := "outright.go:174", after := #[{ on := 14, ground := Ground.data }, { on := 10, ground := Ground.chain }], guard := none }) (v := ?_) rfl (by kernel_rfl) (by kernel_rfl) (by kernel_rfl) (fun _ _ _ h => h) (Or.inl ⟨by rfl, ?_⟩) hHeld ?_
  rotate_left
  · intro w hSw
    clear hSw
    go_simp
    try with_reducible rfl
  try simp only [Act.put, List.setIfInBounds_toArray, List.set_cons_zero, List.set_cons_succ]
  refine wpAnyH_take (i := 16) (oi := { dst := some 107, op := Op.move (Operand.tmp 9), type := 57, pos := "outright.go:174", after := #[{ on := 15, ground := Ground.guard }], guard := some (15, false) }) (v := ?_) rfl (by kernel_rfl) (by kernel_rfl) (by kernel_rfl) (fun _ _ _ h => h) (Or.inl ⟨by rfl, ?_⟩) hHeld ?_
  rotate_left
  · intro w hSw
    clear hSw
    go_simp
    try with_reducible rfl
  try simp only [Act.put, List.setIfInBounds_toArray, List.set_cons_zero, List.set_cons_succ]
  refine wpAnyH_take (i := 17) (oi := { dst := some 108, op := Op.indexAddr 57 (Operand.tmp 107) (Operand.const (Value.int IntKind.i64 0)), type := 0, pos := "outright.go:174", after := #[{ on := 16, ground := Ground.data }, { on := 15, ground := Ground.guard }], guard := some (15, false) }) (v := ?_) rfl (by kernel_rfl) (by kernel_rfl) (by kernel_rfl) (fun _ _ _ h => h) (Or.inl ⟨by rfl, ?_⟩) hHeld ?_
  rotate_left
  · intro w hSw
    clear hSw
    go_simp
    try with_reducible rfl
  try simp only [Act.put, List.setIfInBounds_toArray, List.set_cons_zero, List.set_cons_succ]
  refine wpAnyH_take (i := 18) (oi := { dst := some 109, op := Op.fieldAddr 47 (Operand.tmp 108) 0, type := 0, pos := "outright.go:174", after := #[{ on := 17, ground := Ground.data }, { on := 15, ground := Ground.guard }], guard := some (15, false) }) (v := ?_) rfl (by kernel_rfl) (by kernel_rfl) (by kernel_rfl) (fun _ _ _ h => h) (Or.inl ⟨by rfl, ?_⟩) hHeld ?_
  rotate_left
  · intro w hSw
    clear hSw
    go_simp
    try with_reducible rfl
  try simp only [Act.put, List.setIfInBounds_toArray, List.set_cons_zero, List.set_cons_succ]
  refine wpAnyH_take (i := 19) (oi := { dst := some 110, op := Op.load 29 (Operand.tmp 109), type := 29, pos := "outright.go:174", after := #[{ on := 18, ground := Ground.data }, { on := 15, ground := Ground.guard }], guard := some (15, false) }) (v := ?_) rfl (by kernel_rfl) (by kernel_rfl) (by kernel_rfl) (fun _ _ _ h => h) (Or.inl ⟨by rfl, ?_⟩) hHeld ?_
  rotate_left
  · intro w hSw
    obtain ⟨⟨c0, c1, c2, c3, c4, c5⟩, d0, d1, d2, d3⟩ := HROW.out w hSw
    go_simp
    try with_reducible rfl
  try simp only [Act.put, List.setIfInBounds_toArray, List.set_cons_zero, List.set_cons_succ]
  refine wpAnyH_ready (rs := [20]) (by kernel_rfl) (by simp) ?_
  refine AllReadyH.cons (o := { dst := some 111, op := Op.call { callee := Callee.value (Operand.func 21), args := #[Operand.const (Value.int IntKind.u8 12), Operand.const (Value.int IntKind.u32 0)], argTypes := #[5, 30] }, type := 32, pos := "outright.go:174", after := #[{ on := 15, ground := Ground.chain }, { on := 15, ground := Ground.guard }], guard := some (15, false) }) rfl (fun K hK => ?_) AllReadyH.nil
  go_simp
  refine (HA4L.out _).mono ?_
  rintro e x2 ⟨rfl, hx2⟩
  have HX2 := Lib.hid (HX1.out.below hx2)
  refine hK.out _ _ (hHeld.trans (GrownX.of_below hx2)) (fun hHeld => ?_)
  clear hK K
  try simp only [Act.put, List.setIfInBounds_toArray, List.set_cons_zero, List.set_cons_succ]
  refine wpAnyH_take (i := 21) (oi := { dst := some 112, op := Op.field 32 (Operand.tmp 111) 0, type := 29, pos := "outright.go:174", after := #[{ on := 20, ground := Ground.data }, { on := 15, ground := Ground.guard }], guard := some (15, false) }) (v := ?_) rfl (by kernel_rfl) (by kernel_rfl) (by kernel_rfl) (fun _ _ _ h => h) (Or.inl ⟨by rfl, ?_⟩) hHeld ?_
  rotate_left
  · intro w hSw
    clear hSw
    go_simp
    try with_reducible rfl
  try simp only [Act.put, List.setIfInBounds_toArray, List.set_cons_zero, List.set_cons_succ]
  refine wpAnyH_take (i := 22) (oi := { dst := some 113, op := Op.binOp BinOp.neq 29 (Operand.tmp 110) (Operand.tmp 112) 29, type := 4, pos := "outright.go:174", after := #[{ on := 19, ground := Ground.data }, { on := 21, ground := Ground.data }, { on := 15, ground := Ground.guard }], guard := some (15, false) }) (v := ?_) rfl (by kernel_rfl) (by kernel_rfl) (by kernel_rfl) (fun _ _ _ h => h) (Or.inl ⟨by rfl, ?_⟩) hHeld ?_
  rotate_left
  · intro w hSw
    clear hSw
    go_simp
    try with_reducible rfl
  try simp only [Act.put, List.setIfInBounds_toArray, List.set_cons_zero, List.set_cons_succ]
  refine wpAnyH_take (i := 23) (oi := { dst := some 114, op := Op.pick (Operand.tmp 106) (Operand.const (Value.bool true)) (Operand.tmp 113), type := 4, pos := "outright.go:174", after := #[{ on := 15, ground := Ground.data }, { on := 22, ground := Ground.data }], guard := none }) (v := ?_) rfl (by kernel_rfl) (by kernel_rfl) (by kernel_rfl) (fun _ _ _ h => h) (Or.inl ⟨by rfl, ?_⟩) hHeld ?_
  rotate_left
  · intro w hSw
    clear hSw
    go_simp
    try with_reducible rfl
  try simp only [Act.put, List.setIfInBounds_toArray, List.set_cons_zero, List.set_cons_succ]
  refine wpAnyH_take (i := 24) (oi := { dst := some 115, op := Op.move (Operand.tmp 114), type := 4, pos := "outright.go:174", after := #[{ on := 23, ground := Ground.data }, { on := 20, ground := Ground.chain }], guard := none }) (v := ?_) rfl (by kernel_rfl) (by kernel_rfl) (by kernel_rfl) (fun _ _ _ h => h) (Or.inl ⟨by rfl, ?_⟩) hHeld ?_
  rotate_left
  · intro w hSw
    clear hSw
    go_simp
    try with_reducible rfl
  try simp only [Act.put, List.setIfInBounds_toArray, List.set_cons_zero, List.set_cons_succ]
  refine wpAnyH_take (i := 25) (oi := { dst := some 116, op := Op.move (Operand.tmp 1), type := 25, pos := "outright.go:174", after := #[{ on := 24, ground := Ground.guard }], guard := some (24, false) }) (v := ?_) rfl (by kernel_rfl) (by kernel_rfl) (by kernel_rfl) (fun _ _ _ h => h) (Or.inl ⟨by rfl, ?_⟩) hHeld ?_
  rotate_left
  · intro w hSw
    clear hSw
    go_simp
    try with_reducible rfl
  try simp only [Act.put, List.setIfInBounds_toArray, List.set_cons_zero, List.set_cons_succ]
  refine wpAnyH_ready (rs := [26]) (by kernel_rfl) (by simp) ?_
  refine AllReadyH.cons (o := { dst := some 117, op := Op.call { callee := Callee.value (Operand.func 22), args := #[Operand.tmp 116, Operand.const (Value.int IntKind.i64 1)], argTypes := #[25, 3] }, type := 22, pos := "outright.go:174", after := #[{ on := 25, ground := Ground.data }, { on := 24, ground := Ground.chain }, { on := 24, ground := Ground.guard }], guard := some (24, false) }) rfl (fun K hK => ?_) AllReadyH.nil
  go_simp
  refine (kclear1 HX2.out).mono ?_
  rintro e x3 ⟨⟨⟨A3, c3, rfl⟩, hx3⟩, hg3⟩
  have HX3 := Lib.hid hx3
  refine hK.out _ _ (hHeld.trans hg3) (fun hHeld => ?_)
  clear hK K
  try simp only [Act.put, List.setIfInBounds_toArray, List.set_cons_zero, List.set_cons_succ]
  refine wpAnyH_take (i := 27) (oi := { dst := some 118, op := Op.call { callee := Callee.builtin Builtin.len, args := #[Operand.tmp 117], argTypes := #[22] }, type := 3, pos := "outright.go:174", after := #[{ on := 26, ground := Ground.data }, { on := 24, ground := Ground.guard }], guard := some (24, false) }) (v := ?_) rfl (by kernel_rfl) (by kernel_rfl) (by kernel_rfl) (fun _ _ _ h => h) (Or.inl ⟨by rfl, ?_⟩) hHeld ?_
  rotate_left
  · intro w hSw
    clear hSw
    go_simp
    try with_reducible rfl
  try simp only [Act.put, List.setIfInBounds_toArray, List.set_cons_zero, List.set_cons_succ]
  refine wpAnyH_take (i := 28) (oi := { dst := some 119, op := Op.binOp BinOp.neq 3 (Operand.tmp 118) (Operand.const (Value.int IntKind.i64 1)) 3, type := 4, pos := "outright.go:174", after := #[{ on := 27, ground := Ground.data }, { on := 24, ground := Ground.guard }], guard := some (24, false) }) (v := ?_) rfl (by kernel_rfl) (by kernel_rfl) (by kernel_rfl) (fun _ _ _ h => h) (Or.inl ⟨by rfl, ?_⟩) hHeld ?_
  rotate_left
  · intro w hSw
    clear hSw
    go_simp
    try with_reducible rfl
  try simp only [Act.put, List.setIfInBounds_toArray, List.set_cons_zero, List.set_cons_succ]
  refine wpAnyH_take (i := 29) (oi := { dst := some 120, op := Op.pick (Operand.tmp 115) (Operand.const (Value.bool true)) (Operand.tmp 119), type := 4, pos := "outright.go:174", after := #[{ on := 24, ground := Ground.data }, { on := 28, ground := Ground.data }], guard := none }) (v := ?_) rfl (by kernel_rfl) (by kernel_rfl) (by kernel_rfl) (fun _ _ _ h => h) (Or.inl ⟨by rfl, ?_⟩) hHeld ?_
  rotate_left
  · intro w hSw
    clear hSw
    go_simp
    try with_reducible rfl
  try simp only [Act.put, List.setIfInBounds_toArray, List.set_cons_zero, List.set_cons_succ]
  refine wpAnyH_take (i := 30) (oi := { dst := some 121, op := Op.move (Operand.tmp 120), type := 4, pos := "outright.go:174", after := #[{ on := 29, ground := Ground.data }, { on := 26, ground := Ground.chain }], guard := none }) (v := ?_) rfl (by kernel_rfl) (by kernel_rfl) (by kernel_rfl) (fun _ _ _ h => h) (Or.inl ⟨by rfl, ?_⟩) hHeld ?_
  rotate_left
  · intro w hSw
    clear hSw
    go_simp
    try with_reducible rfl
  try simp only [Act.put, List.setIfInBounds_toArray, List.set_cons_zero, List.set_cons_succ]
  refine wpAnyH_take (i := 31) (oi := { dst := some 122, op := Op.move (Operand.tmp 1), type := 25, pos := "outright.go:174", after := #[{ on := 30, ground := Ground.guard }], guard := some (30, false) }) (v := ?_) rfl (by kernel_rfl) (by kernel_rfl) (by kernel_rfl) (fun _ _ _ h => h) (Or.inl ⟨by rfl, ?_⟩) hHeld ?_
  rotate_left
  · intro w hSw
    clear hSw
    go_simp
    try with_reducible rfl
  try simp only [Act.put, List.setIfInBounds_toArray, List.set_cons_zero, List.set_cons_succ]
  refine wpAnyH_ready (rs := [32]) (by kernel_rfl) (by simp) ?_
  refine AllReadyH.cons (o := { dst := some 123, op := Op.call { callee := Callee.value (Operand.func 22), args := #[Operand.tmp 122, Operand.const (Value.int IntKind.i64 1)], argTypes := #[25, 3] }, type := 22, pos := "outright.go:174", after := #[{ on := 31, ground := Ground.data }, { on := 30, ground := Ground.chain }, { on := 30, ground := Ground.guard }], guard := some (30, false) }) rfl (fun K hK => ?_) AllReadyH.nil
  go_simp
  refine (kclear2 HX3.out).mono ?_
  rintro e x4 ⟨⟨⟨A4, c4, rfl⟩, hx4⟩, hg4⟩
  have HX4 := Lib.hid hx4
  refine hK.out _ _ (hHeld.trans hg4) (fun hHeld => ?_)
  clear hK K
  try simp only [Act.put, List.setIfInBounds_toArray, List.set_cons_zero, List.set_cons_succ]
  refine wpAnyH_take (i := 33) (oi := { dst := some 124, op := Op.call { callee := Callee.builtin Builtin.len, args := #[Operand.tmp 123], argTypes := #[22] }, type := 3, pos := "outright.go:174", after := #[{ on := 32, ground := Ground.data }, { on := 30, ground := Ground.guard }], guard := some (30, false) }) (v := ?_) rfl (by kernel_rfl) (by kernel_rfl) (by kernel_rfl) (fun _ _ _ h => h) (Or.inl ⟨by rfl, ?_⟩) hHeld ?_
  rotate_left
  · intro w hSw
    clear hSw
    go_simp
    try with_reducible rfl
  try simp only [Act.put, List.setIfInBounds_toArray, List.set_cons_zero, List.set_cons_succ]
  refine wpAnyH_take (i := 34) (oi := { dst := some 125, op := Op.binOp BinOp.neq 3 (Operand.tmp 124) (Operand.const (Value.int IntKind.i64 0)) 3, type := 4, pos := "outright.go:174", after := #[{ on := 33, ground := Ground.data }, { on := 30, ground := Ground.guard }], guard := some (30, false) }) (v := ?_) rfl (by kernel_rfl) (by kernel_rfl) (by kernel_rfl) (fun _ _ _ h => h) (Or.inl ⟨by rfl, ?_⟩) hHeld ?_
  rotate_left
  · intro w hSw
    clear hSw
    go_simp
    try with_reducible rfl
  try simp only [Act.put, List.setIfInBounds_toArray, List.set_cons_zero, List.set_cons_succ]
  refine wpAnyH_take (i := 35) (oi := { dst := some 126, op := Op.pick (Operand.tmp 121) (Operand.const (Value.bool true)) (Operand.tmp 125), type := 4, pos := "outright.go:174", after := #[{ on := 30, ground := Ground.data }, { on := 34, ground := Ground.data }], guard := none }) (v := ?_) rfl (by kernel_rfl) (by kernel_rfl) (by kernel_rfl) (fun _ _ _ h => h) (Or.inl ⟨by rfl, ?_⟩) hHeld ?_
  rotate_left
  · intro w hSw
    clear hSw
    go_simp
    try with_reducible rfl
  try simp only [Act.put, List.setIfInBounds_toArray, List.set_cons_zero, List.set_cons_succ]
  refine wpAnyH_take (i := 36) (oi := { dst := some 127, op := Op.move (Operand.tmp 126), type := 4, pos := "outright.go:174", after := #[{ on := 35, ground := Ground.data }, { on := 32, ground := Ground.chain }], guard := none }) (v := ?_) rfl (by kernel_rfl) (by kernel_rfl) (by kernel_rfl) (fun _ _ _ h => h) (Or.inl ⟨by rfl, ?_⟩) hHeld ?_
  rotate_left
  · intro w hSw
    clear hSw
    go_simp
    try with_reducible rfl
  try simp only [Act.put, List.setIfInBounds_toArray, List.set_cons_zero, List.set_cons_succ]
  refine wpAnyH_take (i := 37) (oi := { dst := some 128, op := Op.move (Operand.tmp 1), type := 25, pos := "outright.go:174", after := #[{ on := 36, ground := Ground.guard }], guard := some (36, false) }) (v := ?_) rfl (by kernel_rfl) (by kernel_rfl) (by kernel_rfl) (fun _ _ _ h => h) (Or.inl ⟨by rfl, ?_⟩) hHeld ?_
  rotate_left
  · intro w hSw
    clear hSw
    go_simp
    try with_reducible rfl
  try simp only [Act.put, List.setIfInBounds_toArray, List.set_cons_zero, List.set_cons_succ]
  refine wpAnyH_ready (rs := [38]) (by kernel_rfl) (by simp) ?_
  refine AllReadyH.cons (o := { dst := some 129, op := Op.call { callee := Callee.value (Operand.func 14), args := #[Operand.tmp 128, Operand.const (Value.int IntKind.i64 0)], argTypes := #[25, 3] }, type := 3, pos := "outright.go:174", after := #[{ on := 37, ground := Ground.data }, { on := 36, ground := Ground.chain }, { on := 36, ground := Ground.guard }], guard := some (36, false) }) rfl (fun K hK => ?_) AllReadyH.nil
  go_simp
  refine (HC0.out _ _ _ _ HX4.out).mono ?_
  rintro e x5 ⟨rfl, hx5⟩
  have HX5 := Lib.hid (HX4.out.below hx5)
  refine hK.out _ _ (hHeld.trans (GrownX.of_below hx5)) (fun hHeld => ?_)
  clear hK K
  try simp only [Act.put, List.setIfInBounds_toArray, List.set_cons_zero, List.set_cons_succ]
  refine wpAnyH_take (i := 39) (oi := { dst := some 130, op := Op.binOp BinOp.neq 3 (Operand.tmp 129) (Operand.const (Value.int IntKind.i64 0)) 3, type := 4, pos := "outright.go:174", after := #[{ on := 38, ground := Ground.data }, { on := 36, ground := Ground.guard }], guard := some (36, false) }) (v := ?_) rfl (by kernel_rfl) (by kernel_rfl) (by kernel_rfl) (fun _ _ _ h => h) (Or.inl ⟨by rfl, ?_⟩) hHeld ?_
  rotate_left
  · intro w hSw
    clear hSw
    go_simp
    try with_reducible rfl
  try simp only [Act.put, List.setIfInBounds_toArray, List.set_cons_zero, List.set_cons_succ]
  refine wpAnyH_take (i := 40) (oi := { dst := some 131, op := Op.pick (Operand.tmp 127) (Operand.const (Value.bool true)) (Operand.tmp 130), type := 4, pos := "outright.go:174", after := #[{ on := 36, ground := Ground.data }, { on := 39, ground := Ground.data }], guard := none }) (v := ?_) rfl (by kernel_rfl) (by kernel_rfl) (by kernel_rfl) (fun _ _ _ h => h) (Or.inl ⟨by rfl, ?_⟩) hHeld ?_
  rotate_left
  · intro w hSw
    clear hSw
    go_simp
    try with_reducible rfl
  try simp only [Act.put, List.setIfInBounds_toArray, List.set_cons_zero, List.set_cons_succ]
  refine wpAnyH_done (by kernel_rfl) ?_ _
  have HB72 : Hid (Below w.heap.size w x5) := hHeld.below HB71.out (fun i hi => by rw [hi]; exact HM.out) HB71.out.size
  have HR72 := HX5
  obtain ⟨w72, hw72⟩ : ∃ x, x = x5 := ⟨_, rfl⟩
  subst hw72
  clear hHeld HX1 HX2 HX3 HX4 HX5 HR71 HB71 HROW hx1 hx2 hx3 hx4 hx5 hg3 hg4
  go_wp2_with fail
  refine (HO1.out _).mono ?_
  rintro e w73 ⟨rfl, hb⟩
  have HR73 := Lib.hid (HR72.out.below hb)
  have HB73 : Hid (Below w.heap.size w w73) := HB72.out.trans (hb.mono HB72.out.size)
  clear hb HR72 HB72
  go_wp2_with fail
  refine (HP6.out _ _ _ _ HR73.out).mono ?_
  rintro e w74 ⟨⟨rfl, hr⟩, hg⟩
  have HR74 := Lib.hid hr
  have HB74 : Hid (Below w.heap.size w w74) := HB73.out.trans (hg.toBelow HM.out HB73.out.size)
  clear hr hg HR73 HB73
  go_wp2_with fail
  refine (HA0.out _).mono ?_
  rintro e w75 ⟨rfl, hb⟩
  have HR75 := Lib.hid (HR74.out.below hb)
  have HB75 : Hid (Below w.heap.size w w75) := HB74.out.trans (hb.mono HB74.out.size)
  clear hb HR74 HB74
  go_wp2_with fail
  refine (HP7.out _ _ _ _ HR75.out).mono ?_
  rintro e w76 ⟨⟨rfl, hr⟩, hg⟩
  have HR76 := Lib.hid hr
  have HB76 : Hid (Below w.heap.size w w76) := HB75.out.trans (hg.toBelow HM.out HB75.out.size)
  clear hr hg HR75 HB75
  go_upto_region 18 with fail
  refine rb_name fun w80 hV => ?_
  obtain ⟨eb, heb⟩ : ∃ x, x = w76.heap.size := ⟨_, rfl⟩
  try rw [← heb]
  have HE80 : Hid (CellsAt w80 eb #[.int .i64 0, .map none] 63) := by rw [hV, heb]; exact CellsAt.new _ _ _
  have HB80 : Hid (Below w.heap.size w w80) := by rw [hV]; exact HB76.out.alloc HB76.out.size _
  have HR80 : Hid (NoRib w80 (.pointer (some ⟨eb, 0, none⟩))) := no_empty HE80.out
  clear hV heb HB76 HR76 HE80
  have HNP := Lib.hid (fun W => nput_any (no_nil W) (atK 10 0) 0 (medA 1))
  have HNG : Hid (∀ W, Calls Try.prog 13 #[.pointer none, .agg (atK 10 0).pf, .int .u32 0] W fun e w' => e = .returned (.tuple #[.agg (pathAr noPk 0 noAtr false), .bool false]) ∧ Below W.heap.size W w') := fun W => nget_any (no_nil W) (atK 10 0)
  go_wp2_with fail
  refine (HA0.out _).mono ?_
  rintro e w81 ⟨rfl, hb⟩
  have HR81 := Lib.hid (HR80.out.below hb)
  have HB81 : Hid (Below w.heap.size w w81) := HB80.out.trans (hb.mono HB80.out.size)
  clear hb HR80 HB80
  go_wp2_with fail
  refine (HO1.out _).mono ?_
  rintro e w82 ⟨rfl, hb⟩
  have HR82 := Lib.hid (HR81.out.below hb)
  have HB82 : Hid (Below w.heap.size w w82) := HB81.out.trans (hb.mono HB81.out.size)
  clear hb HR81 HB81
  go_wp2_with fail
  refine (HNP.out _).mono ?_
  rintro e w83 ⟨rfl, hb⟩
  have HR83 := Lib.hid (HR82.out.below hb)
  have HB83 : Hid (Below w.heap.size w w83) := HB82.out.trans (hb.mono HB82.out.size)
  clear hb HR82 HB82
  go_wp2_with fail
  refine (HA0.out _).mono ?_
  rintro e w84 ⟨rfl, hb⟩
  have HR84 := Lib.hid (HR83.out.below hb)
  have HB84 : Hid (Below w.heap.size w w84) := HB83.out.trans (hb.mono HB83.out.size)
  clear hb HR83 HB83
  go_wp2_with fail
  refine (HO1.out _).mono ?_
  rintro e w85 ⟨rfl, hb⟩
  have HR85 := Lib.hid (HR84.out.below hb)
  have HB85 : Hid (Below w.heap.size w w85) := HB84.out.trans (hb.mono HB84.out.size)
  clear hb HR84 HB84
  have HEP := Lib.hid (nput_any HR85.out (atK 10 0) 0 (medA 1))
  go_wp2_with fail
  refine (HEP.out).mono ?_
  rintro e w86 ⟨rfl, hb⟩
  have HR86 := Lib.hid (HR85.out.below hb)
  have HB86 : Hid (Below w.heap.size w w86) := HB85.out.trans (hb.mono HB85.out.size)
  clear hb HR85 HB85
  go_wp2_with fail
  refine (HA0.out _).mono ?_
  rintro e w87 ⟨rfl, hb⟩
  have HR87 := Lib.hid (HR86.out.below hb)
  have HB87 : Hid (Below w.heap.size w w87) := HB86.out.trans (hb.mono HB86.out.size)
  clear hb HR86 HB86
  go_wp2_with fail
  refine (HNG.out _).mono ?_
  rintro e w88 ⟨rfl, hb⟩
  have HR88 := Lib.hid (HR87.out.below hb)
  have HB88 : Hid (Below w.heap.size w w88) := HB87.out.trans (hb.mono HB87.out.size)
  clear hb HR87 HB87
  clear hfd4
  have HN : Hid (∀ cs : Array Value, CellsAt (w88.alloc (.cells cs 47)) w88.heap.size cs 47) := fun cs => CellsAt.new _ _ _
  go_upto_region 21 with (with_reducible show wpList _ _ _ (_ :: _) _ _; refine wpList_store_path rfl (.tmp 20) (.tmp 167) rfl w88.heap.size rfl noPk 0 noAtr false rfl _ (HN.out _) rfl ?_)
  refine rb_name fun w90 hV => ?_
  have hbV : Below w88.heap.size w88 w90 := by rw [hV]; exact ((Below.refl _ _).alloc (Nat.le_refl _) _).grown (grown_setRow' _ _ _) (by simp) (fun q hq => by cases hq; exact Nat.le_refl _)
  have HC : Hid (CellsAt w90 w88.heap.size (pathAr noPk 0 noAtr false) 47) := by rw [hV]; exact (HN.out _).setRow' _
  have HR90 := Lib.hid (HR88.out.below hbV)
  have HB90 : Hid (Below w.heap.size w w90) := HB88.out.trans (hbV.mono HB88.out.size)
  clear hV hbV HR88 HB88 HN HC
  refine wp_region_eq [{ dst := some 169, op := Op.move (Operand.const (Value.bool true)), type := 4, pos := "outright.go:184", after := #[], guard := none }, { dst := some 170, op := Op.call { callee := Callee.value (Operand.func 7), args := #[], argTypes := #[] }, type := 4, pos := "outright.go:184", after := #[{ on := 0, ground := Ground.chain }, { on := 0, ground := Ground.guard }], guard := some (0, true) }, { dst := some 171, op := Op.pick (Operand.tmp 169) (Operand.tmp 170) (Operand.const (Value.bool false)), type := 4, pos := "outright.go:184", after := #[{ on := 0, ground := Ground.data }, { on := 1, ground := Ground.data }], guard := none }, { dst := some 172, op := Op.move (Operand.tmp 171), type := 4, pos := "outright.go:184", after := #[{ on := 2, ground := Ground.data }, { on := 1, ground := Ground.chain }], guard := none }, { dst := some 173, op := Op.move (Operand.tmp 11), type := 33, pos := "outright.go:184", after := #[{ on := 3, ground := Ground.guard }], guard := some (3, true) }, { dst := some 174, op := Op.binOp BinOp.eql 33 (Operand.tmp 173) (Operand.const (Value.int IntKind.i64 2)) 33, type := 4, pos := "outright.go:184", after := #[{ on := 4, ground := Ground.data }, { on := 3, ground := Ground.guard }], guard := some (3, true) }, { dst := some 175, op := Op.pick (Operand.tmp 172) (Operand.tmp 174) (Operand.const (Value.bool false)), type := 4, pos := "outright.go:184", after := #[{ on := 3, ground := Ground.data }, { on := 5, ground := Ground.data }], guard := none }, { dst := some 176, op := Op.move (Operand.tmp 175), type := 4, pos := "outright.go:184", after := #[{ on := 6, ground := Ground.data }, { on := 3, ground := Ground.chain }], guard := none }, { dst := some 177, op := Op.move (Operand.tmp 13), type := 33, pos := "outright.go:184", after := #[{ on := 7, ground := Ground.guard }], guard := some (7, true) }, { dst := some 178, op := Op.binOp BinOp.eql 33 (Operand.tmp 177) (Operand.const (Value.int IntKind.i64 2)) 33, type := 4, pos := "outright.go:184", after := #[{ on := 8, ground := Ground.data }, { on := 7, ground := Ground.guard }], guard := some (7, true) }, { dst := some 179, op := Op.pick (Operand.tmp 176) (Operand.tmp 178) (Operand.const (Value.bool false)), type := 4, pos := "outright.go:184", after := #[{ on := 7, ground := Ground.data }, { on := 9, ground := Ground.data }], guard := none }, { dst := some 180, op := Op.move (Operand.tmp 179), type := 4, pos := "outright.go:184", after := #[{ on := 10, ground := Ground.data }, { on := 7, ground := Ground.chain }], guard := none }, { dst := some 181, op := Op.move (Operand.tmp 17), type := 33, pos := "outright.go:184", after := #[{ on := 11, ground := Ground.guard }], guard := some (11, true) }, { dst := some 182, op := Op.binOp BinOp.eql 33 (Operand.tmp 181) (Operand.const (Value.int IntKind.i64 1)) 33, type := 4, pos := "outright.go:184", after := #[{ on := 12, ground := Ground.data }, { on := 11, ground := Ground.guard }], guard := some (11, true) }, { dst := some 183, op := Op.pick (Operand.tmp 180) (Operand.tmp 182) (Operand.const (Value.bool false)), type := 4, pos := "outright.go:184", after := #[{ on := 11, ground := Ground.data }, { on := 13, ground := Ground.data }], guard := none }, { dst := some 184, op := Op.move (Operand.tmp 183), type := 4, pos := "outright.go:184", after := #[{ on := 14, ground := Ground.data }, { on := 11, ground := Ground.chain }], guard := none }, { dst := some 185, op := Op.move (Operand.tmp 19), type := 33, pos := "outright.go:184", after := #[{ on := 15, ground := Ground.guard }], guard := some (15, true) }, { dst := some 186, op := Op.binOp BinOp.eql 33 (Operand.tmp 185) (Operand.const (Value.int IntKind.i64 1)) 33, type := 4, pos := "outright.go:184", after := #[{ on := 16, ground := Ground.data }, { on := 15, ground := Ground.guard }], guard := some (15, true) }, { dst := some 187, op := Op.pick (Operand.tmp 184) (Operand.tmp 186) (Operand.const (Value.bool false)), type := 4, pos := "outright.go:184", after := #[{ on := 15, ground := Ground.data }, { on := 17, ground := Ground.data }], guard := none }, { dst := some 188, op := Op.move (Operand.tmp 187), type := 4, pos := "outright.go:184", after := #[{ on := 18, ground := Ground.data }, { on := 15, ground := Ground.chain }], guard := none }, { dst := some 189, op := Op.move (Operand.tmp 21), type := 4, pos := "outright.go:184", after := #[{ on := 19, ground := Ground.guard }], guard := some (19, true) }, { dst := some 190, op := Op.unOp UnOp.not 4 (Operand.tmp 189), type := 4, pos := "outright.go:184", after := #[{ on := 20, ground := Ground.data }, { on := 19, ground := Ground.guard }], guard := some (19, true) }, { dst := some 191, op := Op.pick (Operand.tmp 188) (Operand.tmp 190) (Operand.const (Value.bool false)), type := 4, pos := "outright.go:184", after := #[{ on := 19, ground := Ground.data }, { on := 21, ground := Ground.data }], guard := none }, { dst := some 192, op := Op.move (Operand.tmp 191), type := 4, pos := "outright.go:184", after := #[{ on := 22, ground := Ground.data }, { on := 19, ground := Ground.chain }], guard := none }, { dst := some 193, op := Op.move (Operand.tmp 14), type := 25, pos := "outright.go:184", after := #[{ on := 23, ground := Ground.guard }], guard := some (23, true) }, { dst := some 194, op := Op.call { callee := Callee.value (Operand.func 21), args := #[Operand.const (Value.int IntKind.u8 10), Operand.const (Value.int IntKind.u32 0)], argTypes := #[5, 30] }, type := 32, pos := "outright.go:184", after := #[{ on := 23, ground := Ground.chain }, { on := 23, ground := Ground.guard }], guard := some (23, true) }, { dst := some 195, op := Op.call { callee := Callee.value (Operand.func 9), args := #[Operand.tmp 193, Operand.tmp 194], argTypes := #[25, 32] }, type := 4, pos := "outright.go:184", after := #[{ on := 24, ground := Ground.data }, { on := 25, ground := Ground.data }, { on := 25, ground := Ground.chain }, { on := 23, ground := Ground.guard }], guard := some (23, true) }, { dst := some 196, op := Op.unOp UnOp.not 4 (Operand.tmp 195), type := 4, pos := "outright.go:184", after := #[{ on := 26, ground := Ground.data }, { on := 23, ground := Ground.guard }], guard := some (23, true) }, { dst := some 197, op := Op.pick (Operand.tmp 192) (Operand.tmp 196) (Operand.const (Value.bool false)), type := 4, pos := "outright.go:184", after := #[{ on := 23, ground := Ground.data }, { on := 27, ground := Ground.data }], guard := none }, { dst := some 198, op := Op.move (Operand.tmp 197), type := 4, pos := "outright.go:184", after := #[{ on := 28, ground := Ground.data }, { on := 26, ground := Ground.chain }], guard := none }, { dst := some 199, op := Op.move (Operand.tmp 15), type := 25, pos := "outright.go:184", after := #[{ on := 29, ground := Ground.guard }], guard := some (29, true) }, { dst := some 200, op := Op.call { callee := Callee.value (Operand.func 20), args := #[Operand.tmp 199, Operand.const (Value.int IntKind.i64 1)], argTypes := #[25, 3] }, type := 57, pos := "outright.go:184", after := #[{ on := 30, ground := Ground.data }, { on := 29, ground := Ground.chain }, { on := 29, ground := Ground.guard }], guard := some (29, true) }, { dst := some 201, op := Op.call { callee := Callee.builtin Builtin.len, args := #[Operand.tmp 200], argTypes := #[57] }, type := 3, pos := "outright.go:184", after := #[{ on := 31, ground := Ground.data }, { on := 29, ground := Ground.guard }], guard := some (29, true) }, { dst := some 202, op := Op.binOp BinOp.eql 3 (Operand.tmp 201) (Operand.const (Value.int IntKind.i64 0)) 3, type := 4, pos := "outright.go:184", after := #[{ on := 32, ground := Ground.data }, { on := 29, ground := Ground.guard }], guard := some (29, true) }, { dst := some 203, op := Op.pick (Operand.tmp 198) (Operand.tmp 202) (Operand.const (Value.bool false)), type := 4, pos := "outright.go:184", after := #[{ on := 29, ground := Ground.data }, { on := 33, ground := Ground.data }], guard := none }, { dst := some 204, op := Op.move (Operand.tmp 203), type := 4, pos := "outright.go:184", after := #[{ on := 34, ground := Ground.data }, { on := 31, ground := Ground.chain }], guard := none }, { dst := some 205, op := Op.move (Operand.tmp 14), type := 25, pos := "outright.go:184", after := #[{ on := 35, ground := Ground.guard }], guard := some (35, true) }, { dst := some 206, op := Op.call { callee := Callee.value (Operand.func 16), args := #[Operand.tmp 205, Operand.const (Value.int IntKind.i64 1)], argTypes := #[25, 3] }, type := 3, pos := "outright.go:184", after := #[{ on := 36, ground := Ground.data }, { on := 35, ground := Ground.chain }, { on := 35, ground := Ground.guard }], guard := some (35, true) }, { dst := some 207, op := Op.binOp BinOp.eql 3 (Operand.tmp 206) (Operand.const (Value.int IntKind.i64 0)) 3, type := 4, pos := "outright.go:184", after := #[{ on := 37, ground := Ground.data }, { on := 35, ground := Ground.guard }], guard := some (35, true) }, { dst := some 208, op := Op.pick (Operand.tmp 204) (Operand.tmp 207) (Operand.const (Value.bool false)), type := 4, pos := "outright.go:184", after := #[{ on := 35, ground := Ground.data }, { on := 38, ground := Ground.data }], guard := none }, { dst := some 209, op := Op.move (Operand.tmp 208), type := 4, pos := "outright.go:184", after := #[{ on := 39, ground := Ground.data }, { on := 37, ground := Ground.chain }], guard := none }, { dst := some 210, op := Op.move (Operand.tmp 14), type := 25, pos := "outright.go:184", after := #[{ on := 40, ground := Ground.guard }], guard := some (40, true) }, { dst := some 211, op := Op.call { callee := Callee.value (Operand.func 18), args := #[Operand.tmp 210, Operand.const (Value.int IntKind.i64 1)], argTypes := #[25, 3] }, type := 22, pos := "outright.go:184", after := #[{ on := 41, ground := Ground.data }, { on := 40, ground := Ground.chain }, { on := 40, ground := Ground.guard }], guard := some (40, true) }, { dst := some 212, op := Op.call { callee := Callee.builtin Builtin.len, args := #[Operand.tmp 211], argTypes := #[22] }, type := 3, pos := "outright.go:184", after := #[{ on := 42, ground := Ground.data }, { on := 40, ground := Ground.guard }], guard := some (40, true) }, { dst := some 213, op := Op.binOp BinOp.eql 3 (Operand.tmp 212) (Operand.const (Value.int IntKind.i64 0)) 3, type := 4, pos := "outright.go:184", after := #[{ on := 43, ground := Ground.data }, { on := 40, ground := Ground.guard }], guard := some (40, true) }, { dst := some 214, op := Op.pick (Operand.tmp 209) (Operand.tmp 213) (Operand.const (Value.bool false)), type := 4, pos := "outright.go:184", after := #[{ on := 40, ground := Ground.data }, { on := 44, ground := Ground.data }], guard := none }, { dst := some 215, op := Op.move (Operand.tmp 214), type := 4, pos := "outright.go:184", after := #[{ on := 45, ground := Ground.data }, { on := 42, ground := Ground.chain }], guard := none }, { dst := some 216, op := Op.move (Operand.tmp 15), type := 25, pos := "outright.go:184", after := #[{ on := 46, ground := Ground.guard }], guard := some (46, true) }, { dst := some 217, op := Op.call { callee := Callee.value (Operand.func 22), args := #[Operand.tmp 216, Operand.const (Value.int IntKind.i64 1)], argTypes := #[25, 3] }, type := 22, pos := "outright.go:184", after := #[{ on := 47, ground := Ground.data }, { on := 46, ground := Ground.chain }, { on := 46, ground := Ground.guard }], guard := some (46, true) }, { dst := some 218, op := Op.call { callee := Callee.builtin Builtin.len, args := #[Operand.tmp 217], argTypes := #[22] }, type := 3, pos := "outright.go:184", after := #[{ on := 48, ground := Ground.data }, { on := 46, ground := Ground.guard }], guard := some (46, true) }, { dst := some 219, op := Op.binOp BinOp.eql 3 (Operand.tmp 218) (Operand.const (Value.int IntKind.i64 0)) 3, type := 4, pos := "outright.go:184", after := #[{ on := 49, ground := Ground.data }, { on := 46, ground := Ground.guard }], guard := some (46, true) }, { dst := some 220, op := Op.pick (Operand.tmp 215) (Operand.tmp 219) (Operand.const (Value.bool false)), type := 4, pos := "outright.go:184", after := #[{ on := 46, ground := Ground.data }, { on := 50, ground := Ground.data }], guard := none }, { dst := some 221, op := Op.move (Operand.tmp 220), type := 4, pos := "outright.go:184", after := #[{ on := 51, ground := Ground.data }, { on := 48, ground := Ground.chain }], guard := none }, { dst := some 222, op := Op.move (Operand.tmp 14), type := 25, pos := "outright.go:184", after := #[{ on := 52, ground := Ground.guard }], guard := some (52, true) }, { dst := some 223, op := Op.call { callee := Callee.value (Operand.func 14), args := #[Operand.tmp 222, Operand.const (Value.int IntKind.i64 1)], argTypes := #[25, 3] }, type := 3, pos := "outright.go:184", after := #[{ on := 53, ground := Ground.data }, { on := 52, ground := Ground.chain }, { on := 52, ground := Ground.guard }], guard := some (52, true) }, { dst := some 224, op := Op.binOp BinOp.eql 3 (Operand.tmp 223) (Operand.const (Value.int IntKind.i64 0)) 3, type := 4, pos := "outright.go:184", after := #[{ on := 54, ground := Ground.data }, { on := 52, ground := Ground.guard }], guard := some (52, true) }, { dst := some 225, op := Op.pick (Operand.tmp 221) (Operand.tmp 224) (Operand.const (Value.bool false)), type := 4, pos := "outright.go:184", after := #[{ on := 52, ground := Ground.data }, { on := 55, ground := Ground.data }], guard := none }, { dst := some 226, op := Op.move (Operand.tmp 225), type := 4, pos := "outright.go:184", after := #[{ on := 56, ground := Ground.data }, { on := 54, ground := Ground.chain }], guard := none }, { dst := some 227, op := Op.move (Operand.tmp 14), type := 25, pos := "outright.go:184", after := #[{ on := 57, ground := Ground.guard }], guard := some (57, true) }, { dst := some 228, op := Op.call { callee := Callee.value (Operand.func 17), args := #[Operand.tmp 227], argTypes := #[25] }, type := 25, pos := "outright.go:184", after := #[{ on := 58, ground := Ground.data }, { on := 57, ground := Ground.chain }, { on := 57, ground := Ground.guard }], guard := some (57, true) }, { dst := some 229, op := Op.binOp BinOp.eql 25 (Operand.tmp 228) (Operand.const (Value.pointer none)) 25, type := 4, pos := "outright.go:184", after := #[{ on := 59, ground := Ground.data }, { on := 57, ground := Ground.guard }], guard := some (57, true) }, { dst := some 230, op := Op.pick (Operand.tmp 226) (Operand.tmp 229) (Operand.const (Value.bool false)), type := 4, pos := "outright.go:184", after := #[{ on := 57, ground := Ground.data }, { on := 60, ground := Ground.data }], guard := none }, { dst := some 231, op := Op.move (Operand.tmp 230), type := 4, pos := "outright.go:184", after := #[{ on := 61, ground := Ground.data }, { on := 59, ground := Ground.chain }], guard := none }, { dst := some 232, op := Op.move (Operand.tmp 15), type := 25, pos := "outright.go:184", after := #[{ on := 62, ground := Ground.guard }], guard := some (62, true) }, { dst := some 233, op := Op.call { callee := Callee.value (Operand.func 17), args := #[Operand.tmp 232], argTypes := #[25] }, type := 25, pos := "outright.go:184", after := #[{ on := 63, ground := Ground.data }, { on := 62, ground := Ground.chain }, { on := 62, ground := Ground.guard }], guard := some (62, true) }, { dst := some 234, op := Op.binOp BinOp.eql 25 (Operand.tmp 233) (Operand.const (Value.pointer none)) 25, type := 4, pos := "outright.go:184", after := #[{ on := 64, ground := Ground.data }, { on := 62, ground := Ground.guard }], guard := some (62, true) }, { dst := some 235, op := Op.pick (Operand.tmp 231) (Operand.tmp 234) (Operand.const (Value.bool false)), type := 4, pos := "outright.go:184", after := #[{ on := 62, ground := Ground.data }, { on := 65, ground := Ground.data }], guard := none }, { dst := some 0, op := Op.assign (Operand.tmp 235), type := 4, pos := "outright.go:184", after := ([{ on := 66, ground := Ground.data }, { on := 64, ground := Ground.chain }, { on := 0, ground := Ground.phase }, { on := 1, ground := Ground.phase }, { on := 2, ground := Ground.phase }, { on := 3, ground := Ground.phase }, { on := 4, ground := Ground.phase }, { on := 5, ground := Ground.phase }, { on := 6, ground := Ground.phase }, { on := 7, ground := Ground.phase }, { on := 8, ground := Ground.phase }, { on := 9, ground := Ground.phase }, { on := 10, ground := Ground.phase }, { on := 11, ground := Ground.phase }, { on := 12, ground := Ground.phase }, { on := 13, ground := Ground.phase }, { on := 14, ground := Ground.phase }, { on := 15, ground := Ground.phase }, { on := 16, ground := Ground.phase }, { on := 17, ground := Ground.phase }, { on := 18, ground := Ground.phase }, { on := 19, ground := Ground.phase }, { on := 20, ground := Ground.phase }, { on := 21, ground := Ground.phase }, { on := 22, ground := Ground.phase }, { on := 23, ground := Ground.phase }, { on := 24, ground := Ground.phase }, { on := 25, ground := Ground.phase }, { on := 26, ground := Ground.phase }, { on := 27, ground := Ground.phase }, { on := 28, ground := Ground.phase }, { on := 29, ground := Ground.phase }, { on := 30, ground := Ground.phase }, { on := 31, ground := Ground.phase }].append [{ on := 32, ground := Ground.phase }, { on := 33, ground := Ground.phase }, { on := 34, ground := Ground.phase }, { on := 35, ground := Ground.phase }, { on := 36, ground := Ground.phase }, { on := 37, ground := Ground.phase }, { on := 38, ground := Ground.phase }, { on := 39, ground := Ground.phase }, { on := 40, ground := Ground.phase }, { on := 41, ground := Ground.phase }, { on := 42, ground := Ground.phase }, { on := 43, ground := Ground.phase }, { on := 44, ground := Ground.phase }, { on := 45, ground := Ground.phase }, { on := 46, ground := Ground.phase }, { on := 47, ground := Ground.phase }, { on := 48, ground := Ground.phase }, { on := 49, ground := Ground.phase }, { on := 50, ground := Ground.phase }, { on := 51, ground := Ground.phase }, { on := 52, ground := Ground.phase }, { on := 53, ground := Ground.phase }, { on := 54, ground := Ground.phase }, { on := 55, ground := Ground.phase }, { on := 56, ground := Ground.phase }, { on := 57, ground := Ground.phase }, { on := 58, ground := Ground.phase }, { on := 59, ground := Ground.phase }, { on := 60, ground := Ground.phase }, { on := 61, ground := Ground.phase }, { on := 62, ground := Ground.phase }, { on := 63, ground := Ground.phase }, { on := 64, ground := Ground.phase }, { on := 65, ground := Ground.phase }, { on := 66, ground := Ground.phase }]).toArray, guard := none }] (by kernel_rfl) ?_
  go_wp2_with fail
  refine (HWK.out _).mono ?_
  rintro e w91 ⟨rfl, hb⟩
  have HR91 := Lib.hid (HR90.out.below hb)
  have HB91 : Hid (Below w.heap.size w w91) := HB90.out.trans (hb.mono HB90.out.size)
  clear hb HR90 HB90
  go_wp2_with fail
  refine (HA0.out _).mono ?_
  rintro e w92 ⟨rfl, hb⟩
  have HR92 := Lib.hid (HR91.out.below hb)
  have HB92 : Hid (Below w.heap.size w w92) := HB91.out.trans (hb.mono HB91.out.size)
  clear hb HR91 HB91
  have HNN := Lib.hid (ngone_any (no_nil w92) (atK 10 0) 0)
  go_wp2_with fail
  refine (HNN.out).mono ?_
  rintro e w93 ⟨rfl, hb⟩
  have HR93 := Lib.hid (HR92.out.below hb)
  have HB93 : Hid (Below w.heap.size w w93) := HB92.out.trans (hb.mono HB92.out.size)
  clear hb HR92 HB92
  have HS := Lib.hid (nall_any HR93.out 1)
  go_wp2_with fail
  refine HS.out.mono ?_
  rintro e w' ⟨rfl, hw⟩
  subst w'
  clear HS
  have HS := Lib.hid (nmark_any (no_nil w93) 1)
  go_wp2_with fail
  refine HS.out.mono ?_
  rintro e w' ⟨rfl, hw⟩
  subst w'
  clear HS
  have HS := Lib.hid (nsweep_any (no_nil w93) 1)
  go_wp2_with fail
  refine HS.out.mono ?_
  rintro e w' ⟨rfl, hw⟩
  subst w'
  clear HS
  have HS := Lib.hid (nclear_any HR93.out 1)
  go_wp2_with fail
  refine HS.out.mono ?_
  rintro e w' ⟨rfl, hw⟩
  subst w'
  clear HS
  have HS := Lib.hid (ncount_any (no_nil w93) 1)
  go_wp2_with fail
  refine HS.out.mono ?_
  rintro e w' ⟨rfl, hw⟩
  subst w'
  clear HS
  have HS := Lib.hid (ncopy_any (no_nil w93))
  go_wp2_with fail
  refine HS.out.mono ?_
  rintro e w' ⟨rfl, hw⟩
  subst w'
  clear HS
  have HS := Lib.hid (ncopy_any HR93.out)
  go_wp2_with fail
  refine HS.out.mono ?_
  rintro e w' ⟨rfl, hw⟩
  subst w'
  clear HS
  go_wp2_with fail
  go_ret
  exact ⟨rfl, HB93.out⟩
set_option maxRecDepth 100000 in
theorem ribKnown_lifted (os : Os) (started : os.Started) (H : Type) (enc : TypeId × Value → H) :
    ReturnsInHanded {} Try.checked os 6 .any (Rows.ribKnownSpec.pre6 enc Try.prog Try.f6 Rows.ribKnownRow.domain false) (Rows.ribKnownSpec.post enc Try.prog Try.f6 false true false false) := by
  refine returnsInHanded_of_change (C := Try.checked) own started (by kernel_rfl) Try.func6
    (ChangeSpec.witness6 (enc := enc) (C := Try.checked) false ⟨#[], #[], []⟩ 8 (by kernel_rfl) (by kernel_rfl) (by kernel_rfl) (by kernel_rfl)) ?_
  intro W base args ds gs before hval0 hW hcnd _
  have hval : ∀ (j : Nat) t v, Try.f6.params[j]? = some t → args[j]? = some v → Value.okWide Try.prog W .any base t v := hval0
  have hW' := hW
  obtain ⟨p, q, hA0, hV, rfl, hfz, hnd⟩ := hW
  have hA : DataW.TrodAll enc Try.prog W 0 (fun _ => true) true Try.f6.params.toList args.toList ds p := hA0
  rw [Try.params6] at hA hval
  obtain ⟨hargs, rfl, rfl⟩ := trodAll_none hA
  obtain rfl : args = #[] := by cases args; simp_all
  obtain ⟨rfl, rfl⟩ := trodVars_none hV
  refine (known_walk W).mono fun e W' ⟨he, bel⟩ => ?_
  exact ⟨_, he, law_post laidOut (by kernel_rfl) rfl (by kernel_rfl) Try.underlying4 hW' rfl bel⟩

theorem ribKnown_holds : Rows.RibKnownSaid :=
  OpenClaim.holds_of_wide 6 Try.f6 rfl rfl rfl rfl rfl rfl rfl ⟨rfl, rfl, rfl, rfl, rfl⟩ rfl rfl rfl rfl rfl (by kernel_rfl) Try.func6 (by kernel_rfl)
    (of_decide_eq_true (by kernel_rfl)) (by unfold Func.isWrapper; first | (rw [if_pos (by decide +kernel)]; kernel_rfl) | (rw [if_neg (by decide +kernel)]; exact ⟨rfl, rfl⟩))
    (fun os started H enc _ => ribKnown_lifted os started H enc)
end Go.Proofs.Ytldpcliahfiloaa
