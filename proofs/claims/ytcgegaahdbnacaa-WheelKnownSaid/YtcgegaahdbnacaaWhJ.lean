/-
  Timers: wheels filled by small numbers, in their order or turned round. Conditions: sizes.
-/
import Derived.Test.YtcgegaahdbnacaaWhI
set_option linter.unusedVariables false
set_option linter.unusedSimpArgs false
namespace Go.Proofs.Ytcgegaahdbnacaa
open Go.RowKit Go.MapKept Go.Shelf Go.Lib
open Go.Maps (Keyed)

section
open Classical
/-- one more timer; the elder one of its key goes -/
noncomputable def putT (S : List Tm) (x : Tm) : List Tm := S.filter (fun p => decide (p.k ≠ x.k)) ++ [x]
/-- the last timer of each key -/
noncomputable def fillT : List Tm → List Tm
  | [] => []
  | x :: r => if ∃ p ∈ fillT r, p.k = x.k then fillT r else fillT r ++ [x]
theorem fillT_in {x : Tm} {r : List Tm} (h : ∃ p ∈ fillT r, p.k = x.k) : fillT (x :: r) = fillT r := by rw [fillT, if_pos h]
theorem fillT_out {x : Tm} {r : List Tm} (h : ∀ p ∈ fillT r, p.k ≠ x.k) : fillT (x :: r) = fillT r ++ [x] := by
  rw [fillT, if_neg (fun ⟨p, hp, e⟩ => h p hp e)]
theorem putT_no {S : List Tm} {x : Tm} (h : ∀ p ∈ S, p.k ≠ x.k) : putT S x = S ++ [x] := by
  unfold putT
  rw [List.filter_eq_self.2 (fun p hp => by simpa using h p hp)]
theorem put_perm {S S' : List Tm} (x : Tm) (h : S.Perm S') : (putT S x).Perm (putT S' x) := by
  unfold putT
  exact (h.filter _).append_right _
theorem mem_putT {S : List Tm} {x p : Tm} : p ∈ putT S x ↔ (p ∈ S ∧ p.k ≠ x.k) ∨ p = x := by
  unfold putT
  rw [List.mem_append, List.mem_filter, List.mem_singleton]
  simp
theorem fill_snoc (x : Tm) : ∀ X : List Tm, (putT (fillT X) x).Perm (fillT (X ++ [x]))
  | [] => by
    rw [List.nil_append, fillT_out (by simp [fillT])]
    simp [putT, fillT]
  | y :: X => by
    have ih := fill_snoc x X
    have hmem : ∀ p, p ∈ fillT (X ++ [x]) ↔ (p ∈ fillT X ∧ p.k ≠ x.k) ∨ p = x := fun p => by rw [← ih.mem_iff, mem_putT]
    rw [List.cons_append]
    by_cases hyx : y.k = x.k
    · have h1 : ∃ p ∈ fillT (X ++ [x]), p.k = y.k := ⟨x, (hmem x).2 (Or.inr rfl), hyx.symm⟩
      rw [fillT_in h1]
      by_cases h2 : ∃ p ∈ fillT X, p.k = y.k
      · rw [fillT_in h2]; exact ih
      · rw [fillT_out (fun p hp e => h2 ⟨p, hp, e⟩)]
        refine List.Perm.trans ?_ ih
        unfold putT
        rw [List.filter_append]
        have : [y].filter (fun p => decide (p.k ≠ x.k)) = [] := by simp [hyx]
        rw [this, List.append_nil]
    · by_cases h2 : ∃ p ∈ fillT X, p.k = y.k
      · obtain ⟨p, hp, e⟩ := h2
        have h1 : ∃ p ∈ fillT (X ++ [x]), p.k = y.k := ⟨p, (hmem p).2 (Or.inl ⟨hp, fun e2 => hyx (e.symm.trans e2)⟩), e⟩
        rw [fillT_in h1, fillT_in ⟨p, hp, e⟩]
        exact ih
      · have h1 : ∀ p ∈ fillT (X ++ [x]), p.k ≠ y.k := fun p hp e => by
          rcases (hmem p).1 hp with ⟨h, _⟩ | rfl
          · exact h2 ⟨p, h, e⟩
          · exact hyx e.symm
        rw [fillT_out h1, fillT_out (fun p hp e => h2 ⟨p, hp, e⟩)]
        refine List.Perm.trans ?_ (ih.append_right [y])
        unfold putT
        rw [List.filter_append]
        have : [y].filter (fun p => decide (p.k ≠ x.k)) = [y] := by simp [hyx]
        rw [this, List.append_assoc, List.append_assoc]
        exact List.Perm.append_left _ (List.Perm.swap _ _ _)
end

/-- 'w.at[k] = at', whatever was there -/
def PutPost (w : World) (b m : Nat) (S : List Tm) (x : Tm) (e : Ending) (w' : World) : Prop :=
  e = .returned (.int .i64 0) ∧ ∃ S', WheelAt w' b m S' ∧ S'.Perm (putT S x) ∧ S'.length ≤ S.length + 1 ∧ GrownX (fun i => i = m) w w'
open Classical in
theorem arm_put (w : World) (b m : Nat) (S : List Tm) (k : WK) (n : Nat) (h : WheelAt w b m S) (hk : k.Ok) (hm : KMay k) (hn : n ≤ 1099511627776) (hl : (∃ p ∈ S, p.k = k) ∨ S.length < 1024) :
    Calls Try.prog 18 #[.pointer (some ⟨b, 0, none⟩), k.v, .int .u64 n] w (PutPost w b m S ⟨n, k⟩) := by
  by_cases hin : ∃ p ∈ S, p.k = k
  · obtain ⟨⟨old, k'⟩, hp, hpk⟩ := hin
    simp only at hpk
    subst hpk
    obtain ⟨j, hj⟩ := List.getElem?_of_mem hp
    refine (warm_some w b m j S k' n old h hk hm hn hj).mono ?_
    rintro e w' ⟨rfl, hW, hg⟩
    refine ⟨rfl, _, hW, ?_, by simp, hg⟩
    have hjl : j < S.length := (List.getElem?_eq_some_iff.1 hj).1
    have h1 := perm_eraseIdx S j _ hj
    have h2 : (S.set j ⟨n, k'⟩)[j]? = some ⟨n, k'⟩ := by simp [hjl]
    have h3 := perm_eraseIdx _ j _ h2
    have h4 : (S.set j ⟨n, k'⟩).eraseIdx j = S.eraseIdx j := List.eraseIdx_set_eq
    rw [h4] at h3
    refine h3.symm.trans ?_
    unfold putT
    refine List.Perm.trans (List.perm_append_singleton _ _).symm (List.Perm.append_right _ ?_)
    have h5 : (⟨old, k'⟩ :: S.eraseIdx j : List Tm).Pairwise (fun p q => p.k ≠ q.k) := (h1.pairwise_iff (fun a => fun e => a e.symm)).2 h.keys
    have h6 := (List.pairwise_cons.1 h5).1
    have h7 : (S.eraseIdx j).filter (fun p => decide (p.k ≠ k')) = S.eraseIdx j := List.filter_eq_self.2 (fun p hp => by simpa using fun e => h6 p hp e.symm)
    have h8 := h1.filter (fun p => decide (p.k ≠ k'))
    rw [List.filter_cons_of_neg (by simp), h7] at h8
    exact h8
  · have hno : ∀ p ∈ S, p.k ≠ k := fun p hp e => hin ⟨p, hp, e⟩
    refine (warm_none w b m S k n h hk hm hn hno (hl.resolve_left hin)).mono ?_
    rintro e w' ⟨rfl, hW, hg⟩
    exact ⟨rfl, _, hW, by rw [putT_no hno], by simp, hg⟩

/-- a timer by small numbers -/
structure SetV where
  kind : Nat
  peer : Nat
  fam : Nat
  at_ : Nat
structure SetV.Ok (s : SetV) : Prop where
  kind : s.kind < 256
  peer : s.peer < 256
  fam : s.fam < 256
  at_ : s.at_ < 256
def SetV.c (s : SetV) : UInt8 := UInt8.ofNat (97 + s.peer % 5)
def SetV.tm (s : SetV) : Tm := ⟨s.at_, kq (1 + (s.kind % 7 : Nat)) s.c (s.fam % 6 : Nat)⟩
theorem SetV.c_nat (s : SetV) : s.c.toNat = 97 + s.peer % 5 := by
  unfold SetV.c
  rw [UInt8.toNat_ofNat']
  omega
theorem set_ok {s : SetV} (h : s.Ok) : s.tm.k.Ok := kq_ok _ _ _ (by omega) (by omega)
theorem set_may {s : SetV} (h : s.Ok) : KMay s.tm.k := kq_may _ _ _ (by omega) (by omega) (by rw [SetV.c_nat]; omega)
theorem set_at {s : SetV} (h : s.Ok) : s.tm.at_ ≤ 1099511627776 := by have := h.at_; show s.at_ ≤ _; omega
theorem of_any (s : SetV) (h : s.Ok) (w : World) : Calls Try.prog 26 #[.agg #[.int .u8 s.kind, .int .u8 s.peer, .int .u8 s.fam, .int .u8 s.at_]] w fun e w' => e = .returned s.tm.k.v ∧ Below w.heap.size w w' := by
  obtain ⟨h1, h2, h3, h4⟩ := h
  have hc : (97 : Int) + (s.peer : Int) % 5 = (s.c.toNat : Int) := by rw [SetV.c_nat]; omega
  have hcl := s.c.toNat_lt
  have HT : Hid (s.tm.k.v = .agg #[.int .i64 (1 + (s.kind : Int) % 7), .string ⟨#[s.c]⟩, .int .i64 ((s.fam : Int) % 6)]) := by
    show _ = _
    unfold SetV.tm kq WK.v
    simp
  generalize s.c = c at hc hcl HT
  have hconv := fun (u : World) => run_convert_bytes_back (P := Try.prog) (u.alloc (.cells #[.int .u8 (c.toNat : Int)] 5)) 40 9 5 ⟨u.heap.size, 0, none⟩ 1 [c] Try.underlying40 Try.underlying5 Try.underlying9 (fun j hj => by
    rw [add_flat, cell_of_row _ u.heap.size j _ _ _ (heap_alloc_new u _)]
    rcases (show j = 0 by simp at hj; omega) with rfl
    rfl)
  have hcv := hconv ((w.alloc (.cells #[.int .u8 (s.kind : Int), .int .u8 (s.peer : Int), .int .u8 (s.fam : Int), .int .u8 (s.at_ : Int)] 65)).alloc (.cells #[.int .i64 0, .string ⟨#[]⟩, .int .i64 0] 30))
  simp only [List.length_cons, List.length_nil, Nat.zero_add, World.size_alloc] at hcv
  obtain ⟨K, hK, hK1, hK2⟩ : ∃ K : Int, (1 : Int) + (s.kind : Int) % 7 = K ∧ 1 ≤ K ∧ K ≤ 7 := ⟨_, rfl, by omega, by omega⟩
  obtain ⟨F, hF, hF1, hF2⟩ : ∃ F : Int, (s.fam : Int) % 6 = F ∧ 0 ≤ F ∧ F ≤ 5 := ⟨_, rfl, by omega, by omega⟩
  rw [hK, hF] at HT
  clear hconv
  go_enter Try.func26, Try.ntmps26
  go_wp2_with fail
  refine (wkey_lit K c F _).mono ?_
  rintro e w2 ⟨rfl, hb⟩
  have HB := Lib.hid hb
  have hbz := hb.size
  simp only [World.size_alloc] at hbz
  obtain ⟨hcc, hff⟩ := bcell hb
  clear hb hK hF hc hcv
  go_wp2_with fail
  have hlt1 : w.heap.size + 1 < w2.heap.size := by omega
  refine bodyPost_ret (v := .agg #[.int .i64 K, .string ⟨#[c]⟩, .int .i64 F]) (by simp [results, Try.results26, go_sem, hcc, hff, hlt1]) rfl ⟨by rw [HT.out], ?_⟩
  have h0 : Below w.heap.size w w2 := ((((Below.refl _ _).alloc (Nat.le_refl _) _).alloc (by simp) _).alloc (by simp; omega) _).trans (HB.out.mono (by simp; omega))
  exact ((h0.setCell (by simp) _).setCell (by simp) _).setCell (by simp) _

/-- small numbers that came in -/
def SetAt (w : World) (b o : Nat) (s : SetV) : Prop := w.cell? ⟨b, o, none⟩ = some (.int .u8 (s.kind : Nat)) ∧ w.cell? ⟨b, o + 1, none⟩ = some (.int .u8 (s.peer : Nat)) ∧ w.cell? ⟨b, o + 2, none⟩ = some (.int .u8 (s.fam : Nat)) ∧ w.cell? ⟨b, o + 3, none⟩ = some (.int .u8 (s.at_ : Nat))
theorem SetAt.below {w w' : World} {b o B : Nat} {s : SetV} (h : SetAt w b o s) (hb : Below B w w') (hB : b < B) : SetAt w' b o s := by
  obtain ⟨h0, h1, h2, h3⟩ := h
  exact ⟨(hb.cell (p := ⟨b, _, none⟩) hB).trans h0, (hb.cell (p := ⟨b, _, none⟩) hB).trans h1, (hb.cell (p := ⟨b, _, none⟩) hB).trans h2, (hb.cell (p := ⟨b, _, none⟩) hB).trans h3⟩
theorem SetAt.grownX {X : Nat → Prop} {w w' : World} {b o : Nat} {s : SetV} (h : SetAt w b o s) (hg : GrownX X w w') (hB : b < w.heap.size) (hX : ¬ X b) : SetAt w' b o s := by
  obtain ⟨h0, h1, h2, h3⟩ := h
  exact ⟨(hg.cell (p := ⟨b, _, none⟩) hB hX).trans h0, (hg.cell (p := ⟨b, _, none⟩) hB hX).trans h1, (hg.cell (p := ⟨b, _, none⟩) hB hX).trans h2, (hg.cell (p := ⟨b, _, none⟩) hB hX).trans h3⟩
structure SetsIn (w : World) (A : Option Addr) (len cap : Nat) (X : List SetV) : Prop where
  xl : X.length = len
  cap1 : len ≤ cap
  cap2 : cap ≤ maxLen
  at_ : ∀ (i : Nat) (s : SetV), X[i]? = some s → ∃ b off, A = some ⟨b, off, none⟩ ∧ b < w.heap.size ∧ s.Ok ∧ SetAt w b (off + i * 4) s
theorem SetsIn.below {w w' : World} {A : Option Addr} {len cap : Nat} {X : List SetV} (h : SetsIn w A len cap X) (hb : Below w.heap.size w w') : SetsIn w' A len cap X :=
  ⟨h.xl, h.cap1, h.cap2, fun i s hs => by
    obtain ⟨b, off, h1, h2, h3, h4⟩ := h.at_ i s hs
    exact ⟨b, off, h1, Nat.lt_of_lt_of_le h2 hb.size, h3, h4.below hb h2⟩⟩
theorem fill_step {X : List SetV} {j : Nat} {s : SetV} (h : X[j]? = some s) : (putT (fillT ((X.take j).map SetV.tm)) s.tm).Perm (fillT ((X.take (j + 1)).map SetV.tm)) := by
  rw [List.take_add_one, h, List.map_append]
  exact fill_snoc _ _
def FillPost (w : World) (X : List SetV) (e : Ending) (w' : World) : Prop :=
  ∃ b m S, e = .returned (.pointer (some ⟨b, 0, none⟩)) ∧ WheelAt w' b m S ∧ S.Perm (fillT ((X.take (min X.length 60)).map SetV.tm)) ∧ w.heap.size ≤ b ∧ w.heap.size ≤ m ∧ Below w.heap.size w w'

end Go.Proofs.Ytcgegaahdbnacaa
