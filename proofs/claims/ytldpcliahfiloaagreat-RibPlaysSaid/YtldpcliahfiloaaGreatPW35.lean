/-
  Several texts in one.
-/
import Derived.Test.YtldpcliahfiloaaGreatPW31
import Derived.Test.YtldpcliahfiloaaGreatPW34
set_option linter.unusedVariables false
set_option linter.unusedSimpArgs false
namespace Go.Proofs.YtldpcliahfiloaaGreat
open Go.RowKit Go.MapKept Go.Shelf
open Go.Lib hiding intOf
open Go.Sort hiding Below
open Go.Maps (Keyed)

/-- told prefixes, as a slice of the call's own -/
def flatNr (T : List Nr) : List Value := T.flatMap Nr.cs
def NlsAt (w : World) (base : Nat) (v : Value) (T : List Nr) : Prop := OwnM w base 35 6 v T.length (flatNr T)
theorem infoNl : (Tryz.prog.info? 35).map (fun i => (i.zero, i.size, i.bytes)) = some (some (.agg #[.int .i64 0, .int .u64 0, .string ⟨#[]⟩, .int .i64 0, .int .u32 0, .int .u32 0]), 6, 48) := by kernel_rfl
theorem nr_one (x : Nr) : ∀ u ∈ x.cs, u.oneCell' = true := fun u hu => by
  simp only [Nr.cs, List.mem_cons, List.not_mem_nil, or_false] at hu
  rcases hu with rfl | rfl | rfl | rfl | rfl | rfl <;> rfl
theorem flatNr_append (l m : List Nr) : flatNr (l ++ m) = flatNr l ++ flatNr m := List.flatMap_append
/-- a block of a type that no attributes hold -/
def Odd (w : World) (i : Nat) : Prop := ∀ cs fr, w.heap[i]? ≠ some (.cells cs 88 fr) ∧ w.heap[i]? ≠ some (.cells cs 33 fr) ∧ w.heap[i]? ≠ some (.cells cs 30 fr) ∧ w.heap[i]? ≠ some (.cells cs 100 fr)
theorem OwnM.keepT {w w' : World} {base C : Nat} {e : TypeId} {v : Value} {n : Nat} {xs : List Value} {X : Nat → Prop} (h : OwnM w base e C v n xs) (hg : GrownX X w w') (hX : ∀ i, X i → ∀ cs fr, w.heap[i]? ≠ some (.cells cs e fr)) : OwnM w' base e C v n xs :=
  OwnM.keep h (fun k hk => hg.block k (OwnM.lt h k hk).2 (fun hx => by
    rcases h.2 with ⟨rfl, _⟩ | ⟨q, cap, cur, fr, rfl, _, hq, _⟩
    · simp [Value.ownBlock] at hk
    · simp [Value.ownBlock] at hk
      subst hk
      exact hX _ hx _ _ hq))
theorem AtO.keepT {w w' : World} {base : Nat} {a : Atr} {X : Nat → Prop} (h : AtO w base a) (hg : GrownX X w w') (hX : ∀ i, X i → Odd w i) : AtO w' base a :=
  { h with path := ⟨OwnM.keepT h.path.own hg (fun i hi cs fr => (hX i hi cs fr).1), fun s hs => ⟨OwnM.keepT (h.path.as_ s hs).1 hg (fun i hi cs fr => (hX i hi cs fr).2.1), (h.path.as_ s hs).2⟩⟩, comms := OwnM.keepT h.comms hg (fun i hi cs fr => (hX i hi cs fr).2.1), exts := OwnM.keepT h.exts hg (fun i hi cs fr => (hX i hi cs fr).2.2.1), larges := OwnM.keepT h.larges hg (fun i hi cs fr => (hX i hi cs fr).2.2.2), clus := OwnM.keepT h.clus hg (fun i hi cs fr => (hX i hi cs fr).2.1) }
theorem RibAt.keepT {w w' : World} {base b m : Nat} {most : Int} {S : List Td} {X : Nat → Prop} (h : RibAt w base b m most S) (hg : GrownX X w w') (hb : ¬ X b) (hm : ¬ X m) (hX : ∀ i, X i → Odd w i) : RibAt w' base b m most S :=
  { h with blk := h.blk.grownX hg hb, map := h.map.grownX hg hm, own := fun p hp => AtO.keepT (h.own p hp) hg hX }
/-- an own slice's block holds its elements' type -/
theorem OwnM.odd {w : World} {base C : Nat} {e : TypeId} {v : Value} {n : Nat} {xs : List Value} (h : OwnM w base e C v n xs) (i : Nat) (hi : v.ownBlock = some i) (h1 : e ≠ 88 := by decide) (h2 : e ≠ 33 := by decide) (h3 : e ≠ 30 := by decide) (h4 : e ≠ 100 := by decide) : Odd w i := fun cs fr => by
  rcases h.2 with ⟨rfl, _⟩ | ⟨q, cap, cur, fr2, rfl, _, hq, _⟩
  · simp [Value.ownBlock] at hi
  · simp [Value.ownBlock] at hi
    subst hi
    rw [hq]
    refine ⟨?_, ?_, ?_, ?_⟩ <;> (intro he; injection he with he; injection he with _ he _; first | exact h1 he | exact h2 he | exact h3 he | exact h4 he)
/-- all but those at some places -/
def delL (P : List Pk) (M : List TdC) : List TdC := M.filter fun t => !decide (t.k ∈ P)
theorem delL_nil (M : List TdC) : delL [] M = M := List.filter_eq_self.2 fun t ht => by simp
theorem delL_one (P : List Pk) (M : List TdC) (k : Pk) : delC (delL P M) k = delL (P ++ [k]) M := by
  unfold delC delL
  rw [List.filter_filter]
  refine List.filter_congr fun t ht => ?_
  rw [Bool.eq_iff_iff]
  simp [List.mem_append]
  constructor
  · rintro ⟨h1, h2⟩; exact ⟨h2, h1⟩
  · rintro ⟨h1, h2⟩; exact ⟨h2, h1⟩
/-- what is taken, in order -/
def TakenQ (M : List TdC) (O : List Pk) (T : List Nr) : Prop := T.map (·.k) = O ∧ ∀ x ∈ T, ∃ t ∈ M, t.k = x.k ∧ t.label = x.label
theorem TakenQ.nil (M : List TdC) : TakenQ M [] [] := ⟨rfl, fun x hx => by cases hx⟩
theorem TakenQ.add {M : List TdC} {O : List Pk} {T : List Nr} {j : Nat} {k : Pk} {t : TdC} (h : TakenQ M (O.take j) T) (hk : O[j]? = some k) (ht : t ∈ M) (he : t.k = k) : TakenQ M (O.take (j + 1)) (T ++ [⟨k, t.label⟩]) := by
  refine ⟨?_, fun x hx => ?_⟩
  · rw [List.map_append, h.1, List.take_add_one, hk]
    rfl
  · rcases List.mem_append.1 hx with hx | hx
    · exact h.2 x hx
    · rw [List.mem_singleton] at hx
      subst hx
      exact ⟨t, ht, he, rfl⟩
theorem TakenQ.len {M : List TdC} {O : List Pk} {T : List Nr} (h : TakenQ M O T) : T.length = O.length := by rw [← h.1, List.length_map]
set_option maxRecDepth 100000 in
set_option maxHeartbeats 16000000 in
theorem rtake_any (w : World) (base b m : Nat) (most : Int) (S : List Td) (h : RibAt w base b m most S) (base2 : Nat) (v : Value) (O : List Pk) (hO : PlsAt w base2 v O) (hn : O.Nodup) (hin : ∀ k ∈ O, k ∈ S.map Td.k) :
    Calls Tryz.prog 43 #[.pointer (some ⟨b, 0, none⟩), v] w fun e w' => (∃ ov T, e = .returned ov ∧ NlsAt w' w.heap.size ov T ∧ TakenQ (S.map Td.c) O T ∧ RibM w' base b m most (delL O (S.map Td.c))) ∧ GrownX (fun i => i = m) w w' := by
  have N1 := h.ne
  obtain ⟨l0, l1⟩ := h.lt
  obtain ⟨i0, hi0, hz0, hz1, hz2⟩ := info_parts infoNl
  have HLN : Hid (O.length ≤ 1000) := by
    show _ ≤ _
    have h1 := nodup_sub O (S.map Td.k) hn hin
    rw [List.length_map] at h1
    have := h.len
    omega
  have HIN : Hid (∀ k ∈ O, ∃ t ∈ S.map Td.c, t.k = k) := fun k hk => by
    obtain ⟨t, h1, h2⟩ := List.mem_map.1 (hin k hk)
    exact ⟨t.c, List.mem_map.2 ⟨t, h1, rfl⟩, h2⟩
  have HND := Lib.hid hn
  have HS0 : Hid (RibAt w base b m most S) := h
  generalize hM : S.map Td.c = M at HIN ⊢
  have HC0 : Hid (S.map Td.c = delL (O.take 0) M) := by
    show _ = _
    rw [List.take_zero, delL_nil, hM]
  clear hM
  have HO0 := Lib.hid hO
  obtain ⟨A2, c2, rfl⟩ := OwnM.form hO
  have HOLT : Hid (∀ g, (Value.slice A2 O.length c2).ownBlock = some g → g < w.heap.size) := fun g hg => (OwnM.lt hO g hg).2
  have hol := HLN.out
  clear hn hin h hO
  go_enter Tryz.func43, Tryz.ntmps43
  go_wp2_with fail
  go_loopw [10, 5] (fun jv ov wr => ∃ (j : Nat) (T : List Nr) (S2 : List Td), jv = .int .i64 j ∧ j ≤ O.length ∧ Hid (RibAt wr base b m most S2) ∧ Hid (S2.map Td.c = delL (O.take j) M) ∧ Hid (PlsAt wr base2 (.slice A2 O.length c2) O) ∧ Hid (NlsAt wr w.heap.size ov T) ∧ Hid (TakenQ M (O.take j) T) ∧ Hid (GrownX (fun i => i = m) w wr)) (fun jv _ _ => O.length + 1 - (intOf jv).toNat)
  case atStart => exact ⟨0, [], S, rfl, Nat.zero_le _, HS0.out, HC0.out, HO0.out, by show OwnM _ _ _ _ _ _ _; exact OwnM.nil _ _ _ _, TakenQ.nil _, GrownX.refl _ _⟩
  case round =>
    clear HS0 HC0 HO0
    obtain ⟨j, T, R, rfl, hj, HR, HC, HO, HT, HQ, HB⟩ := hrel
    obtain ⟨ov, hov⟩ : ∃ x, x = u5 := ⟨_, rfl⟩
    subst hov
    by_cases hlt : j < O.length
    · obtain ⟨k, hk⟩ : ∃ k, O[j]? = some k := ⟨O[j]'hlt, List.getElem?_eq_getElem _⟩
      obtain ⟨t0, ht0, hk0⟩ := HIN.out k (List.mem_of_getElem? hk)
      obtain ⟨jj, p, hjj, hpk, hpc⟩ : ∃ (i : Nat) (p : Td), R[i]? = some p ∧ p.k = k ∧ p.c = t0 := by
        have h1 : t0 ∈ R.map Td.c := by
          rw [HC.out]
          refine List.mem_filter.2 ⟨ht0, ?_⟩
          have : t0.k ∉ O.take j := by
            rw [hk0]
            intro hm
            obtain ⟨i, hi⟩ := List.getElem?_of_mem hm
            have hij : i < j := by
              have h1 := (List.getElem?_eq_some_iff.1 hi).1
              rw [List.length_take] at h1
              omega
            rw [List.getElem?_take_of_lt hij] at hi
            have hl1 := (List.getElem?_eq_some_iff.1 hi)
            have hl2 := (List.getElem?_eq_some_iff.1 hk)
            have := (List.getElem_inj HND.out).1 (hl1.2.trans hl2.2.symm)
            omega
          simp [this]
        obtain ⟨p, hp, he⟩ := List.mem_map.1 h1
        obtain ⟨i, hi⟩ := List.getElem?_of_mem hp
        exact ⟨i, p, hi, by rw [← hk0, ← he]; rfl, he⟩
      have HQ2 : Hid (TakenQ M (O.take (j + 1)) (T ++ [⟨k, p.label⟩])) := by
        have h1 := HQ.out.add hk ht0 hk0
        rw [← hpc] at h1
        exact h1
      have HC2 : Hid ((R.eraseIdx jj).map Td.c = delL (O.take (j + 1)) M) := by
        show _ = _
        rw [map_erase HR.out.keys hjj hpk, HC.out, delL_one, List.take_add_one, hk]
        rfl
      have HTL : Hid (T.length ≤ 1000) := by
        show _ ≤ _
        rw [HQ.out.len, List.length_take]
        omega
      have HJ := Lib.hid hjj
      have HPJ : Hid ((tdL R)[jj]? = some (k.v, p.v)) := by
        show _ = _
        rw [← hpk]
        exact tdL_at hjj
      have hko := (HR.out.ok p (List.mem_of_getElem? hjj)).1
      rw [hpk] at hko
      obtain ⟨kl, hkl⟩ := pk_key k hko
      have HKL := Lib.hid hkl
      obtain ⟨go, cap, hv, hg1, hg2, hg3, hg4, hg5, k0, k1, k2, k3, k4⟩ := HO.out.at_ hk
      injection hv with hv1 hv2 hv3
      subst hv1
      subst hv3
      unfold maxLen at hg4
      have hfd : ∀ W : World, (Instr.field 86 p.v 0).run Tryz.prog W = .ok (.int .u32 (p.label : Nat)) W := fun W => by kernel_rfl
      clear hkl hko hjj hpk hpc hk hk0 ht0 hg1 hg2 hv2 HQ HC
      go_upto_region 5 with fail
      refine rb_name fun V hV => ?_
      have HRV : Hid (RibAt V base b m most R) := by rw [hV]; exact HR.out.alloc _
      have HPV : Hid (PlsAt V base2 (.slice (some ⟨go, 0, none⟩) O.length c2) O) := by rw [hV]; exact OwnM.below HO.out ((Below.refl _ _).alloc (Nat.le_refl _) _) (Nat.le_refl _)
      have HOT : Hid (NlsAt V w.heap.size ov T) := by rw [hV]; exact OwnM.below HT.out ((Below.refl _ _).alloc (Nat.le_refl _) _) (Nat.le_refl _)
      have HOV : Hid (NlsAt V.drew w.heap.size ov T) := OwnM.below HOT.out (below_drewN (Below.refl _ _) 1) (Nat.le_refl _)
      have HBV : Hid (GrownX (fun i => i = m) w V) := by rw [hV]; exact HB.out.trans (GrownX.of_below ((Below.refl _ _).alloc (Nat.le_refl _) _))
      have HWV : Hid (w.heap.size ≤ V.heap.size) := HBV.out.size
      obtain ⟨gp, hgp⟩ : ∃ gp, gp = wr.heap.size := ⟨_, rfl⟩
      have HKV : Hid (CellsAt V gp #[.int .i64 k.fam, .int .u64 k.rd, .string k.addr, .int .i64 k.len, .int .u32 (k.id : Nat)] 83) := by rw [hV, hgp]; exact CellsAt.new _ _ _
      have HGM : Hid (gp ≠ m) := by
        show _ ≠ _
        have := HR.out.lt.2
        omega
      have HOLO : Hid (∀ i, ov.ownBlock = some i → w.heap.size ≤ i) := fun i hi => (OwnM.lt HT.out i hi).1
      have HOHI : Hid (∀ i, ov.ownBlock = some i → i < gp) := fun i hi => by rw [hgp]; exact (OwnM.lt HT.out i hi).2
      rw [← hgp]
      clear hV k0 k1 k2 k3 k4 HR HO HB hgp HT
      have HI : Hid ((fun w' => CellsAt w' b #[.int .i64 most, .map (some m)] 53 ∧ MapAt Tryz.prog 83 w' m (tdL R) ∧ CellsAt w' gp #[.int .i64 k.fam, .int .u64 k.rd, .string k.addr, .int .i64 k.len, .int .u32 (k.id : Nat)] 83 ∧ GrownX (fun i => ov.ownBlock = some i) V w') V.drew) := ⟨HRV.out.blk.drew 1, HRV.out.map.drew 1, HKV.out.drew 1, GrownX.of_below (below_drewN (Below.refl _ _) 1)⟩
      refine wp_region_held_drew (S := fun w' => CellsAt w' b #[.int .i64 most, .map (some m)] 53 ∧ MapAt Tryz.prog 83 w' m (tdL R) ∧ CellsAt w' gp #[.int .i64 k.fam, .int .u64 k.rd, .string k.addr, .int .i64 k.len, .int .u32 (k.id : Nat)] 83 ∧ GrownX (fun i => ov.ownBlock = some i) V w') (by kernel_rfl) (HI.out) (fun hHeld => ?_)
      refine wpAnyH_take (i := 0) (oi := { dst := some 14, op := Op.move (Operand.tmp 5), type := 73, pos := "adjin.go:127", after := #[], guard := none }) (v := ?_) rfl (by kernel_rfl) (by kernel_rfl) (by kernel_rfl) (fun _ _ _ h => h) (Or.inl ⟨by rfl, ?_⟩) hHeld ?_
      rotate_left
      · intro w hSw
        clear hSw
        go_simp
        try with_reducible rfl
      try simp only [Act.put, List.setIfInBounds_toArray, List.set_cons_zero, List.set_cons_succ]
      refine wpAnyH_take (i := 1) (oi := { dst := some 15, op := Op.fieldAddr 83 (Operand.tmp 7) 0, type := 0, pos := "adjin.go:127", after := #[], guard := none }) (v := ?_) rfl (by kernel_rfl) (by kernel_rfl) (by kernel_rfl) (fun _ _ _ h => h) (Or.inl ⟨by rfl, ?_⟩) hHeld ?_
      rotate_left
      · intro w hSw
        clear hSw
        go_simp
        try with_reducible rfl
      try simp only [Act.put, List.setIfInBounds_toArray, List.set_cons_zero, List.set_cons_succ]
      refine wpAnyH_take (i := 2) (oi := { dst := some 16, op := Op.load 32 (Operand.tmp 15), type := 32, pos := "adjin.go:127", after := #[{ on := 1, ground := Ground.data }], guard := none }) (v := ?_) rfl (by kernel_rfl) (by kernel_rfl) (by kernel_rfl) (fun _ _ _ h => h) (Or.inl ⟨by rfl, ?_⟩) hHeld ?_
      rotate_left
      · intro w hSw
        obtain ⟨q1, q2, q3, q4⟩ := hSw
        obtain ⟨c0, c1⟩ := q1.c2
        obtain ⟨k0, k1, k2, k3, k4⟩ := q3.c5
        go_simp
        try with_reducible rfl
      try simp only [Act.put, List.setIfInBounds_toArray, List.set_cons_zero, List.set_cons_succ]
      refine wpAnyH_take (i := 3) (oi := { dst := some 17, op := Op.fieldAddr 83 (Operand.tmp 7) 1, type := 0, pos := "adjin.go:127", after := #[], guard := none }) (v := ?_) rfl (by kernel_rfl) (by kernel_rfl) (by kernel_rfl) (fun _ _ _ h => h) (Or.inl ⟨by rfl, ?_⟩) hHeld ?_
      rotate_left
      · intro w hSw
        clear hSw
        go_simp
        try with_reducible rfl
      try simp only [Act.put, List.setIfInBounds_toArray, List.set_cons_zero, List.set_cons_succ]
      refine wpAnyH_take (i := 4) (oi := { dst := some 18, op := Op.load 33 (Operand.tmp 17), type := 33, pos := "adjin.go:127", after := #[{ on := 3, ground := Ground.data }], guard := none }) (v := ?_) rfl (by kernel_rfl) (by kernel_rfl) (by kernel_rfl) (fun _ _ _ h => h) (Or.inl ⟨by rfl, ?_⟩) hHeld ?_
      rotate_left
      · intro w hSw
        obtain ⟨q1, q2, q3, q4⟩ := hSw
        obtain ⟨c0, c1⟩ := q1.c2
        obtain ⟨k0, k1, k2, k3, k4⟩ := q3.c5
        go_simp
        try with_reducible rfl
      try simp only [Act.put, List.setIfInBounds_toArray, List.set_cons_zero, List.set_cons_succ]
      refine wpAnyH_take (i := 5) (oi := { dst := some 19, op := Op.move (Operand.tmp 0), type := 23, pos := "adjin.go:127", after := #[], guard := none }) (v := ?_) rfl (by kernel_rfl) (by kernel_rfl) (by kernel_rfl) (fun _ _ _ h => h) (Or.inl ⟨by rfl, ?_⟩) hHeld ?_
      rotate_left
      · intro w hSw
        clear hSw
        go_simp
        try with_reducible rfl
      try simp only [Act.put, List.setIfInBounds_toArray, List.set_cons_zero, List.set_cons_succ]
      refine wpAnyH_take (i := 6) (oi := { dst := some 20, op := Op.nilCheck (Operand.tmp 19), type := 0, pos := "adjin.go:127", after := #[{ on := 5, ground := Ground.data }], guard := none }) (v := ?_) rfl (by kernel_rfl) (by kernel_rfl) (by kernel_rfl) (fun _ _ _ h => h) (Or.inl ⟨by rfl, ?_⟩) hHeld ?_
      rotate_left
      · intro w hSw
        clear hSw
        go_simp
        try with_reducible rfl
      try simp only [Act.put, List.setIfInBounds_toArray, List.set_cons_zero, List.set_cons_succ]
      refine wpAnyH_take (i := 7) (oi := { dst := some 21, op := Op.fieldAddr 53 (Operand.tmp 20) 1, type := 0, pos := "adjin.go:127", after := #[{ on := 6, ground := Ground.data }], guard := none }) (v := ?_) rfl (by kernel_rfl) (by kernel_rfl) (by kernel_rfl) (fun _ _ _ h => h) (Or.inl ⟨by rfl, ?_⟩) hHeld ?_
      rotate_left
      · intro w hSw
        clear hSw
        go_simp
        try with_reducible rfl
      try simp only [Act.put, List.setIfInBounds_toArray, List.set_cons_zero, List.set_cons_succ]
      refine wpAnyH_take (i := 8) (oi := { dst := some 22, op := Op.load 51 (Operand.tmp 21), type := 51, pos := "adjin.go:127", after := #[{ on := 7, ground := Ground.data }], guard := none }) (v := ?_) rfl (by kernel_rfl) (by kernel_rfl) (by kernel_rfl) (fun _ _ _ h => h) (Or.inl ⟨by rfl, ?_⟩) hHeld ?_
      rotate_left
      · intro w hSw
        obtain ⟨q1, q2, q3, q4⟩ := hSw
        obtain ⟨c0, c1⟩ := q1.c2
        obtain ⟨k0, k1, k2, k3, k4⟩ := q3.c5
        go_simp
        try with_reducible rfl
      try simp only [Act.put, List.setIfInBounds_toArray, List.set_cons_zero, List.set_cons_succ]
      refine wpAnyH_take (i := 9) (oi := { dst := some 23, op := Op.load 83 (Operand.tmp 7), type := 83, pos := "adjin.go:127", after := #[], guard := none }) (v := ?_) rfl (by kernel_rfl) (by kernel_rfl) (by kernel_rfl) (fun _ _ _ h => h) (Or.inl ⟨by rfl, ?_⟩) hHeld ?_
      rotate_left
      · intro w hSw
        obtain ⟨q1, q2, q3, q4⟩ := hSw
        obtain ⟨c0, c1⟩ := q1.c2
        obtain ⟨k0, k1, k2, k3, k4⟩ := q3.c5
        go_simp
        try with_reducible rfl
      try simp only [Act.put, List.setIfInBounds_toArray, List.set_cons_zero, List.set_cons_succ]
      refine wpAnyH_take (i := 10) (oi := { dst := some 24, op := Op.lookup 51 (Operand.tmp 22) (Operand.tmp 23) false, type := 86, pos := "adjin.go:127", after := #[{ on := 8, ground := Ground.data }, { on := 9, ground := Ground.data }], guard := none }) (v := ?_) rfl (by kernel_rfl) (by kernel_rfl) (by kernel_rfl) (fun _ _ _ h => h) (Or.inl ⟨by rfl, ?_⟩) hHeld ?_
      rotate_left
      · intro w hSw
        obtain ⟨q1, q2, q3, q4⟩ := hSw
        have hlk := q2.lookup_some1 (t := 51) pkLaw Tryz.underlying51 (zero_td _) HKL.out HPJ.out
        unfold Pk.v at hlk
        go_simp
        try with_reducible rfl
      try simp only [Act.put, List.setIfInBounds_toArray, List.set_cons_zero, List.set_cons_succ]
      refine wpAnyH_take (i := 11) (oi := { dst := some 25, op := Op.field 86 (Operand.tmp 24) 0, type := 33, pos := "adjin.go:127", after := #[{ on := 10, ground := Ground.data }], guard := none }) (v := ?_) rfl (by kernel_rfl) (by kernel_rfl) (by kernel_rfl) (fun _ _ _ h => h) (Or.inl ⟨by rfl, ?_⟩) hHeld ?_
      rotate_left
      · intro w hSw
        clear hSw
        go_simp
        try with_reducible rfl
      try simp only [Act.put, List.setIfInBounds_toArray, List.set_cons_zero, List.set_cons_succ]
      refine wpAnyH_take (i := 12) (oi := { dst := some 26, op := Op.build 35 #[(0, Operand.tmp 16), (1, Operand.tmp 18), (2, Operand.tmp 25)], type := 35, pos := "adjin.go:127", after := #[{ on := 2, ground := Ground.data }, { on := 4, ground := Ground.data }, { on := 11, ground := Ground.data }], guard := none }) (v := ?_) rfl (by kernel_rfl) (by kernel_rfl) (by kernel_rfl) (fun _ _ _ h => h) (Or.inl ⟨by rfl, ?_⟩) hHeld ?_
      rotate_left
      · intro w hSw
        clear hSw
        go_simp
        try with_reducible rfl
      try simp only [Act.put, List.setIfInBounds_toArray, List.set_cons_zero, List.set_cons_succ]
      refine wpAnyH_ready (rs := [13]) (by kernel_rfl) (by simp) ?_
      refine AllReadyH.cons (o := { dst := some 27, op := Op.buildSlice 73 1 #[(0, Operand.tmp 26)], type := 73, pos := "adjin.go:127", after := #[{ on := 12, ground := Ground.data }], guard := none }) rfl (fun K hK => ?_) AllReadyH.nil
      go_simp
      skip
      refine hK.out _ _ (And.intro (hHeld.1.alloc _) (And.intro (hHeld.2.1.alloc _) (And.intro (hHeld.2.2.1.alloc _) (hHeld.2.2.2.trans (GrownX.of_below ((Below.refl _ _).alloc (Nat.le_refl _) _)))))) (fun hHeld => ?_)
      clear hK K
      try simp only [Act.put, List.setIfInBounds_toArray, List.set_cons_zero, List.set_cons_succ]
      refine wpAnyH_ready (rs := [14]) (by kernel_rfl) (by simp) ?_
      refine AllReadyH.cons (o := { dst := some 28, op := Op.call { callee := Callee.builtin Builtin.append, args := #[Operand.tmp 14, Operand.tmp 27], argTypes := #[73, 73] }, type := 73, pos := "adjin.go:127", after := #[{ on := 0, ground := Ground.data }, { on := 13, ground := Ground.data }], guard := none }) rfl (fun K hK => ?_) AllReadyH.nil
      refine wp_append_m (.tmp 14) (.tmp 27) 73 73 rfl w.heap.size 35 i0 _ 6 48 Tryz.underlying73 hi0 hz0 hz1 hz2 rfl ?b0 _ T.length (flatNr T) rfl ?b1 _ 1 (flatNr [⟨k, p.label⟩]) rfl ?b2 ?b3 ?b4 ?b5 ?b6
      case b0 => omega
      case b1 => exact OwnM.alloc HOV.out _
      case b2 => exact Src.new (w := V.drew) _ _ Tryz.underlying73 rfl (fun u hu => by exact nr_one ⟨k, p.label⟩ u (by simpa [flatNr, Nr.cs] using hu))
      case b3 => (have := HTL.out; unfold maxLen; omega)
      case b4 => (have := HTL.out; omega)
      case b5 =>
        have h1 := HWV.out
        show w.heap.size ≤ (V.drew.alloc _).heap.size
        rw [World.size_alloc]
        show w.heap.size ≤ V.heap.size + 1
        omega
      intro v' w5 hown hgr hat
      have hgx : GrownX (fun i => ov.ownBlock = some i) (V.drew.alloc (.cells #[.int .i64 k.fam, .int .u64 k.rd, .string k.addr, .int .i64 k.len, .int .u32 (k.id : Nat), .int .u32 (p.label : Nat)] 35)) w5 := ⟨hgr.os, hgr.tape, hgr.output, hgr.size, fun i hi hx => hgr.block i hi (fun e => hx e.symm)⟩
      refine hK.out _ _ (And.intro (hHeld.1.grownX hgx (fun e => by have := HOLO.out _ e; omega)) (And.intro (hHeld.2.1.grownX hgx (fun e => by have := HOLO.out _ e; omega)) (And.intro (hHeld.2.2.1.grownX hgx (fun e => by have := HOHI.out _ e; omega)) (hHeld.2.2.2.trans hgx)))) (fun hHeld => ?_)
      clear hK K
      try simp only [Act.put, List.setIfInBounds_toArray, List.set_cons_zero, List.set_cons_succ]
      refine wpAnyH_take (i := 15) (oi := { dst := some 5, op := Op.assign (Operand.tmp 28), type := 73, pos := "adjin.go:127", after := #[{ on := 14, ground := Ground.data }, { on := 14, ground := Ground.chain }, { on := 0, ground := Ground.phase }, { on := 1, ground := Ground.phase }, { on := 2, ground := Ground.phase }, { on := 3, ground := Ground.phase }, { on := 4, ground := Ground.phase }, { on := 5, ground := Ground.phase }, { on := 6, ground := Ground.phase }, { on := 7, ground := Ground.phase }, { on := 8, ground := Ground.phase }, { on := 9, ground := Ground.phase }, { on := 10, ground := Ground.phase }, { on := 11, ground := Ground.phase }, { on := 12, ground := Ground.phase }, { on := 13, ground := Ground.phase }, { on := 14, ground := Ground.phase }], guard := none }) (v := ?_) rfl (by kernel_rfl) (by kernel_rfl) (by kernel_rfl) (fun _ _ _ h => h) (Or.inl ⟨by rfl, ?_⟩) hHeld ?_
      rotate_left
      · intro w hSw
        clear hSw
        go_simp
        try with_reducible rfl
      try simp only [Act.put, List.setIfInBounds_toArray, List.set_cons_zero, List.set_cons_succ]
      refine wpAnyH_done (by kernel_rfl) ?_ _
      have HF1 : Hid (GrownX (fun i => ov.ownBlock = some i) V w5) := hHeld.2.2.2
      have HF2 : Hid (NlsAt w5 w.heap.size v' (T ++ [⟨k, p.label⟩])) := by
        show OwnM _ _ _ _ _ _ _
        rw [flatNr_append, List.length_append]
        exact hown
      have HKX : Hid (CellsAt w5 gp #[.int .i64 k.fam, .int .u64 k.rd, .string k.addr, .int .i64 k.len, .int .u32 (k.id : Nat)] 83) := hHeld.2.2.1
      clear hHeld hown hgr hat hgx HOV
      go_upto_region 6 with fail
      refine rb_name fun X hX => ?_
      have hX2 := hX.symm
      clear hX
      subst hX2
      have HRX : Hid (RibAt w5 base b m most R) := RibAt.keepT HRV.out HF1.out (fun e => by have := HOLO.out _ e; omega) (fun e => by have := HOLO.out _ e; omega) (fun i hi => OwnM.odd HOT.out i hi)
      have HPX : Hid (PlsAt w5 base2 (.slice (some ⟨go, 0, none⟩) O.length c2) O) := OwnM.keep HPV.out (fun i hi => HF1.out.block i (OwnM.lt HPV.out i hi).2 (fun e => by have h1 := HOLT.out i hi; have h2 := HOLO.out i e; omega))
      have HBX : Hid (GrownX (fun i => i = m) w w5) := HBV.out.new_ HF1.out (fun i hi => HOLO.out i hi)
      clear HF1 HRV HPV HBV HOT HKV HI HWV HOHI
      have hmap : MapAt Tryz.prog 83 w5.drew m (tdL R) := HRX.out.map.drew 1
      obtain ⟨W1, e1, g1, M1⟩ := hmap.delete_some (t := 51) (ty := 0) pkLaw Tryz.underlying51 HKL.out HPJ.out
      rw [tdL_erase] at M1
      have hX1 : ∀ i, i = m → ∀ cs T fr, w5.drew.heap[i]? ≠ some (.cells cs T fr) := fun i hi => by rw [hi]; exact (HRX.out.drew 1).mapBlk
      have hgW := GrownX.of_row (X := fun i => i = m) g1 rfl
      have hsub : ∀ t ∈ R.eraseIdx jj, t ∈ R := fun t ht => (List.eraseIdx_sublist _ _).subset ht
      have HF : Hid (RibAt W1 base b m most (R.eraseIdx jj)) := ⟨(HRX.out.blk.drew 1).row g1 N1, M1, N1, fun t ht => HRX.out.ok t (hsub t ht), fun t ht => AtO.keepX ((HRX.out.drew 1).own t (hsub t ht)) hgW hX1, fun t ht => HRX.out.sz t (hsub t ht), Nat.le_trans (List.length_eraseIdx_le ..) HRX.out.len, HRX.out.low⟩
      have HBF : Hid (GrownX (fun i => i = m) w W1) := HBX.out.trans ((GrownX.of_below (below_drewN (Below.refl _ _) 1)).trans hgW)
      have HPF : Hid (PlsAt W1 base2 (.slice (some ⟨go, 0, none⟩) O.length c2) O) := OwnM.keepX (OwnM.below HPX.out (below_drewN (Below.refl _ _) 1) (Nat.le_refl _)) hgW hX1
      have HTF : Hid (NlsAt W1 w.heap.size v' (T ++ [⟨k, p.label⟩])) := OwnM.keepX (OwnM.below HF2.out (below_drewN (Below.refl _ _) 1) (Nat.le_refl _)) hgW hX1
      have HI6 : Hid ((fun w' => CellsAt w' b #[.int .i64 most, .map (some m)] 53 ∧ (∃ L, MapAt Tryz.prog 83 w' m L) ∧ CellsAt w' gp #[.int .i64 k.fam, .int .u64 k.rd, .string k.addr, .int .i64 k.len, .int .u32 (k.id : Nat)] 83) w5.drew) := ⟨HRX.out.blk.drew 1, ⟨_, hmap⟩, HKX.out.drew 1⟩
      unfold Pk.v at e1
      clear hX1 hgW HPX HBX HF2 hsub
      refine wp_region_held_drew (S := fun w' => CellsAt w' b #[.int .i64 most, .map (some m)] 53 ∧ (∃ L, MapAt Tryz.prog 83 w' m L) ∧ CellsAt w' gp #[.int .i64 k.fam, .int .u64 k.rd, .string k.addr, .int .i64 k.len, .int .u32 (k.id : Nat)] 83) (by kernel_rfl) (HI6.out) (fun hHeld => ?_)
      refine wpAnyH_take (i := 0) (oi := { dst := some 29, op := Op.move (Operand.tmp 0), type := 23, pos := "adjin.go:128", after := #[], guard := none }) (v := ?_) rfl (by kernel_rfl) (by kernel_rfl) (by kernel_rfl) (fun _ _ _ h => h) (Or.inl ⟨by rfl, ?_⟩) hHeld ?_
      rotate_left
      · intro w hSw
        clear hSw
        go_simp
        try with_reducible rfl
      try simp only [Act.put, List.setIfInBounds_toArray, List.set_cons_zero, List.set_cons_succ]
      refine wpAnyH_take (i := 1) (oi := { dst := some 30, op := Op.nilCheck (Operand.tmp 29), type := 0, pos := "adjin.go:128", after := #[{ on := 0, ground := Ground.data }], guard := none }) (v := ?_) rfl (by kernel_rfl) (by kernel_rfl) (by kernel_rfl) (fun _ _ _ h => h) (Or.inl ⟨by rfl, ?_⟩) hHeld ?_
      rotate_left
      · intro w hSw
        clear hSw
        go_simp
        try with_reducible rfl
      try simp only [Act.put, List.setIfInBounds_toArray, List.set_cons_zero, List.set_cons_succ]
      refine wpAnyH_take (i := 2) (oi := { dst := some 31, op := Op.fieldAddr 53 (Operand.tmp 30) 1, type := 0, pos := "adjin.go:128", after := #[{ on := 1, ground := Ground.data }], guard := none }) (v := ?_) rfl (by kernel_rfl) (by kernel_rfl) (by kernel_rfl) (fun _ _ _ h => h) (Or.inl ⟨by rfl, ?_⟩) hHeld ?_
      rotate_left
      · intro w hSw
        clear hSw
        go_simp
        try with_reducible rfl
      try simp only [Act.put, List.setIfInBounds_toArray, List.set_cons_zero, List.set_cons_succ]
      refine wpAnyH_take (i := 3) (oi := { dst := some 32, op := Op.load 51 (Operand.tmp 31), type := 51, pos := "adjin.go:128", after := #[{ on := 2, ground := Ground.data }], guard := none }) (v := ?_) rfl (by kernel_rfl) (by kernel_rfl) (by kernel_rfl) (fun _ _ _ h => h) (Or.inl ⟨by rfl, ?_⟩) hHeld ?_
      rotate_left
      · intro w hSw
        obtain ⟨q1, q2, q3⟩ := hSw
        obtain ⟨c0, c1⟩ := q1.c2
        obtain ⟨k0, k1, k2, k3, k4⟩ := q3.c5
        go_simp
        try with_reducible rfl
      try simp only [Act.put, List.setIfInBounds_toArray, List.set_cons_zero, List.set_cons_succ]
      refine wpAnyH_take (i := 4) (oi := { dst := some 33, op := Op.load 83 (Operand.tmp 7), type := 83, pos := "adjin.go:128", after := #[], guard := none }) (v := ?_) rfl (by kernel_rfl) (by kernel_rfl) (by kernel_rfl) (fun _ _ _ h => h) (Or.inl ⟨by rfl, ?_⟩) hHeld ?_
      rotate_left
      · intro w hSw
        obtain ⟨q1, q2, q3⟩ := hSw
        obtain ⟨c0, c1⟩ := q1.c2
        obtain ⟨k0, k1, k2, k3, k4⟩ := q3.c5
        go_simp
        try with_reducible rfl
      try simp only [Act.put, List.setIfInBounds_toArray, List.set_cons_zero, List.set_cons_succ]
      refine wpAnyH_ready (rs := [5]) (by kernel_rfl) (by simp) ?_
      refine AllReadyH.cons (o := { dst := none, op := Op.call { callee := Callee.builtin Builtin.delete, args := #[Operand.tmp 32, Operand.tmp 33], argTypes := #[51, 83] }, type := 0, pos := "adjin.go:128", after := #[{ on := 3, ground := Ground.data }, { on := 4, ground := Ground.data }], guard := none }) rfl (fun K hK => ?_) AllReadyH.nil
      go_simp
      skip
      refine hK.out _ _ (And.intro (hHeld.1.row g1 N1) (And.intro ⟨_, M1⟩ (hHeld.2.2.row g1 HGM.out))) (fun hHeld => ?_)
      clear hK K
      try simp only [Act.put, List.setIfInBounds_toArray, List.set_cons_zero, List.set_cons_succ]
      refine wpAnyH_done (by kernel_rfl) ?_ _
      clear hHeld e1 M1 g1 hmap HRX HKX HI6
      go_wp2_with fail
      generalize T ++ [(⟨k, p.label⟩ : Nr)] = T2 at HTF HQ2
      exact ⟨⟨j + 1, T2, R.eraseIdx jj, by go_num, by omega, HF.out, HC2.out, HPF.out, HTF.out, HQ2.out, HBF.out⟩, by simp [intOf]; omega⟩
    · have hje : j = O.length := by omega
      subst hje
      have HC2 : Hid (RibM wr base b m most (delL O M)) := by
        refine ⟨R, HR.out, ?_⟩
        have h := HC.out
        rwa [List.take_length] at h
      have HQ2 : Hid (TakenQ M O T) := by
        have h := HQ.out
        rwa [List.take_length] at h
      clear HR HC HQ
      go_wp2_with fail
      go_ret
      exact ⟨⟨ov, T, rfl, HT.out, HQ2.out, HC2.out⟩, HB.out⟩
def staleQ (t : Td) : Bool := t.stale
theorem stale_any (x : Td) (W : World) : Calls Tryz.prog 44 #[.agg x.ar] W fun e w' => e = .returned (.bool (staleQ x)) ∧ Below W.heap.size W w' := by
  have HB := Lib.hid (fun cs => (Below.refl W.heap.size W).alloc (Nat.le_refl _) (.cells cs 86))
  have h17 : (W.alloc (.cells x.ar 86)).cell? ⟨W.heap.size, 17, none⟩ = some (.bool x.stale) := ((CellsAt.new W x.ar 86).c 17).trans rfl
  go_enter Tryz.func44, Tryz.ntmps44
  go_wp2_with fail
  go_ret
  exact ⟨rfl, HB.out _⟩
set_option maxRecDepth 100000 in
set_option maxHeartbeats 16000000 in
theorem places_stale (w : World) (base b m : Nat) (most : Int) (S : List Td) (h : RibAt w base b m most S) (fam : Int) :
    Calls Tryz.prog 28 #[.pointer (some ⟨b, 0, none⟩), .int .i64 fam, .func (.func 44) #[] #[]] w fun e w' => PlcPost w S (famF fam staleQ) e w' ∧ Below w.heap.size w w' := by
  have N1 := h.ne
  obtain ⟨l0, l1⟩ := h.lt
  obtain ⟨i0, hi0, hz0, hz1, hz2⟩ := info_parts infoPk
  have hkeys := Lib.hid h.keys
  have HLEN := Lib.hid h.len
  have HTH : Hid (∀ (x : Td) (W : World), Calls Tryz.prog 44 #[.agg x.ar] W fun e w' => e = .returned (.bool (staleQ x)) ∧ Below W.heap.size W w') := stale_any
  obtain ⟨c0, c1⟩ := h.blk.c2
  have HNO := Lib.hid h.blk
  obtain ⟨w0, hr, hra, hb0, hz⟩ := h.map.range (t := 51) Tryz.underlying51
  have HR0 := Lib.hid hra
  have HB0 : Hid (Below w.heap.size w w0) := hb0
  have HFN : Hid (∀ t : Td, ¬ t.k.fam = fam → famF fam staleQ t = false) := fun t h => famF_no h
  have HFY : Hid (∀ t : Td, t.k.fam = fam → famF fam staleQ t = staleQ t) := fun t h => famF_yes h
  clear h hra hb0
  generalize famF fam staleQ = F at HFN HFY ⊢
  go_enter Tryz.func28, Tryz.ntmps28
  go_wp2_with fail
  refine (rnone_any b m most _ HNO.out).mono ?_
  rintro e w1 ⟨rfl, hw⟩
  have hw := hw.symm
  subst hw
  go_wp2_with fail
  clear hr c0 c1
  go_loopw [7] (fun u7 wr => ∃ (D SL : List Td), Hid (RangeAt Tryz.prog 83 wr m w.heap.size (tdL S) (tdL SL)) ∧ Hid ((D ++ SL).Perm S) ∧ Hid (PlsAt wr (w.heap.size + 1) u7 ((D.filter F).map Td.k)) ∧ Hid (Below w.heap.size w wr)) (fun _ wr => wr.rangeLeft m w.heap.size)
  case atStart => exact ⟨[], S, HR0.out, List.Perm.refl _, by show OwnM _ _ _ _ _ _ _; exact OwnM.nil _ _ _ _, HB0.out⟩
  case round =>
    obtain ⟨D, SL, HR, HP, HO, HB⟩ := hrel
    clear HR0 HB0
    have hrz := HR.out.lt.2
    have hbz := HB.out.size
    rcases HR.out.next (by omega) 0 with ⟨hnil, hrun⟩ | ⟨i, key, v, wq, hi, hrun, hrg, hgr, hzq, hent⟩
    · have hsl : SL = [] := by unfold tdL at hnil; exact List.map_eq_nil_iff.1 hnil
      subst hsl
      have hpm : D.Perm S := by have := HP.out; rwa [List.append_nil] at this
      have hpk : Hid (((D.filter F).map Td.k).Pairwise (fun p q => p ≠ q)) := by
        show List.Pairwise _ _
        rw [List.pairwise_map]
        exact ((hpm.pairwise_iff (fun a => fun e => a e.symm)).2 hkeys.out).filter _
      have hper : Hid (((D.filter F).map Td.k).Perm ((S.filter F).map Td.k)) := (hpm.filter F).map _
      have hOl : ((D.filter F).map Td.k).length ≤ 1000000 := by
        rw [List.length_map]
        have h1 := List.length_filter_le F D
        have h2 := hpm.length_eq
        have h3 := HLEN.out
        omega
      generalize (D.filter F).map Td.k = O at HO hpk hper hOl
      obtain ⟨A2, cp2, rfl⟩ := OwnM.form HO.out
      clear hpm
      go_wp2_with fail
      refine (psort_any _ _ O _ HO.out hOl).mono ?_
      rintro e w2 ⟨rfl, M, hM1, hM2, hM3, hM4⟩
      have HM := Lib.hid (And.intro hM1 (And.intro hM2 (And.intro hM3 hM4)))
      clear hM1 hM2 hM3 hM4
      go_wp2_with fail
      go_ret
      obtain ⟨hM1, hM2, hM3, hM4⟩ := HM.out
      have hne : ∀ g, (Value.slice A2 O.length cp2).ownBlock = some g → w.heap.size + 1 ≤ g := fun g hg => (HO.out.lt g hg).1
      exact ⟨⟨_, M, rfl, hM2 hpk.out, hM1.trans hper.out, hM3.lower (by omega)⟩, HB.out.grown hM4 HB.out.size (fun q hq => by have := hne q hq; omega)⟩
    · obtain ⟨p, hi2, rfl, rfl⟩ := tdL_back hi
      have hpe := perm_eraseIdx SL i _ hi2
      have HMID : Hid (((D ++ [p]) ++ SL.eraseIdx i).Perm S) := by
        show List.Perm _ _
        rw [List.append_assoc]
        exact (List.Perm.append_left D hpe).trans HP.out
      rw [tdL_erase] at hrg
      have hmeas : Hid ((SL.eraseIdx i).length < SL.length) := by
        show _ < _
        obtain ⟨hil, _⟩ := List.getElem?_eq_some_iff.1 hi2
        rw [List.length_eraseIdx_of_lt hil]
        omega
      have hml : Hid (wr.rangeLeft m w.heap.size = SL.length) := by
        show _ = _
        rw [HR.out.left_eq]
        simp [tdL]
      have HBq : Hid (Below w.heap.size w wq) := HB.out.grown hgr HB.out.size (fun q hq => by cases hq; exact Nat.le_refl _)
      have HOq : Hid (PlsAt wq (w.heap.size + 1) u7 ((D.filter F).map Td.k)) := OwnM.keep HO.out (fun g hg => hgr.block g (HO.out.lt g hg).2 (fun e => by injection e with e; have := (HO.out.lt g hg).1; omega))
      have HRq := Lib.hid hrg
      have HOLT : Hid (∀ g, u7.ownBlock = some g → w.heap.size + 1 ≤ g ∧ g < wq.heap.size) := fun g hg => HOq.out.lt g hg
      have HN9 : Hid (∀ a c, CellsAt ((wq.alloc (.cells a 83)).alloc (.cells c 86)) (wr.heap.size + 1) c 86) := fun a c => by
        have h := CellsAt.new (wq.alloc (.cells a 83)) c 86
        rw [World.size_alloc, hzq] at h
        exact h
      have HZQ := Lib.hid hzq
      clear hi hi2 hpe hrg hgr HB HO HP
      unfold Pk.v at hrun hent
      go_upto_region 7 with (with_reducible show wpList _ _ _ (_ :: _) _ _; refine rb_store_told rfl (.tmp 9) (.tmp 21) rfl (wr.heap.size + 1) rfl p rfl (Td.mk noPk 0 noAtr false) (HN9.out _ _) ?_)
      refine rb_name fun V hV => ?_
      have HBW : Hid (Below wq.heap.size wq V) := by
        rw [hV]
        have h1 : Below wq.heap.size wq ((wq.alloc (.cells #[.int .i64 p.k.fam, .int .u64 p.k.rd, .string p.k.addr, .int .i64 p.k.len, .int .u32 (p.k.id : Nat)] 83)).alloc (.cells (Td.mk noPk 0 noAtr false).ar 86)) := ((Below.refl _ _).alloc (Nat.le_refl _) _).alloc (by simp) _
        exact h1.grown (grown_setRow' _ _ _) h1.size (fun q hq => by cases hq; have := HZQ.out; omega)
      have HTV : Hid (CellsAt V (wr.heap.size + 1) p.ar 86) := by rw [hV]; exact (HN9.out _ _).setRow' _
      have HKV : Hid (CellsAt V wr.heap.size #[.int .i64 p.k.fam, .int .u64 p.k.rd, .string p.k.addr, .int .i64 p.k.len, .int .u32 (p.k.id : Nat)] 83) := by
        rw [hV, ← HZQ.out]
        exact ((CellsAt.new _ _ _).alloc _).row (grown_setRow' _ _ _) (by omega)
      clear hV HN9 hrun hent
      have HBV : Hid (Below w.heap.size w V) := HBq.out.trans (HBW.out.mono HBq.out.size)
      have HRV : Hid (RangeAt Tryz.prog 83 V m w.heap.size (tdL S) (tdL (SL.eraseIdx i))) := HRq.out.grownX (X := fun _ => False) (GrownX.of_below HBW.out) (fun h => h) (fun h => h)
      have HOV : Hid (PlsAt V (w.heap.size + 1) u7 ((D.filter F).map Td.k)) := OwnM.below HOq.out HBW.out (Nat.le_refl _)
      obtain ⟨gq, hgq⟩ : ∃ gq, gq = wr.heap.size := ⟨_, rfl⟩
      rw [← hgq] at HTV HKV ⊢
      clear hgq HBq HOq HRq HBW HZQ HOLT
      obtain ⟨k0, k1, k2, k3, k4⟩ := HKV.out.c5
      by_cases hf : p.k.fam = fam
      · have zf : (p.k.fam == fam) = true := beq_iff_eq.2 hf
        have HF := Lib.hid (HFY.out p hf)
        clear hf
        go_wp2_with (with_reducible show wpList _ _ _ (_ :: _) _ _; refine rb_load_told_g (by kernel_rfl) (.tmp 9) rfl (gq + 1) rfl p HTV.out ?_)
        refine (HTH.out p _).mono ?_
        rintro e w3 ⟨rfl, hb3⟩
        have HB3 : Hid (Below w.heap.size w w3) := HBV.out.trans (hb3.mono HBV.out.size)
        have HK3 : Hid (CellsAt w3 gq #[.int .i64 p.k.fam, .int .u64 p.k.rd, .string p.k.addr, .int .i64 p.k.len, .int .u32 (p.k.id : Nat)] 83) := HKV.out.below hb3 HKV.out.lt
        have HR3 := Lib.hid (HRV.out.grownX (X := fun _ => False) (GrownX.of_below hb3) (fun h => h) (fun h => h))
        have HO3 : Hid (PlsAt w3 (w.heap.size + 1) u7 ((D.filter F).map Td.k)) := OwnM.below HOV.out hb3 (Nat.le_refl _)
        clear hb3 HBV HKV HRV HOV HTV k0 k1 k2 k3 k4
        rw [← HF.out]
        clear HF
        cases hq : F p with
        | false =>
          have HQ := Lib.hid (filter_no (D := D) hq)
          clear hq
          go_wp2_with fail
          refine ⟨⟨D ++ [p], SL.eraseIdx i, HR3.out, HMID.out, by show PlsAt _ _ _ _; rw [HQ.out]; exact HO3.out, HB3.out⟩, ?_⟩
          rw [hml.out, HR3.out.left_eq]
          simpa [tdL] using hmeas.out
        | true =>
          have HQ := Lib.hid (filter_yes (D := D) hq)
          clear hq
          have hOl : Hid (((D.filter F).map Td.k).length ≤ 1000) := by
            show _ ≤ _
            rw [List.length_map]
            have h1 := List.length_filter_le F D
            have h2 := HMID.out.length_eq
            have h3 := HLEN.out
            simp only [List.length_append] at h2
            omega
          generalize (D.filter F).map Td.k = O at HO3 HQ hOl
          obtain ⟨A2, cp2, rfl⟩ := OwnM.form HO3.out
          obtain ⟨k0, k1, k2, k3, k4⟩ := HK3.out.c5
          go_wp2_with (at_builtin; refine wpList_append_m rfl (.tmp 32) (.tmp 34) 79 79 rfl (w.heap.size + 1) 83 i0 _ 5 48 Tryz.underlying79 hi0 hz0 hz1 hz2 rfl ?b0 _ O.length (flatPk O) rfl ?b1 _ 1 (flatPk [p.k]) rfl ?b2 ?b3 ?b4 ?b5 ?b6)
          case b0 => omega
          case b1 => exact OwnM.alloc HO3.out _
          case b2 => exact Src.new (w := w3) _ _ Tryz.underlying79 rfl (fun u hu => flatPk_one [p.k] u hu)
          case b3 => (have := hOl.out; unfold maxLen; omega)
          case b4 => (have := hOl.out; omega)
          case b5 =>
            simp
            have := HB3.out.size
            have := HK3.out.lt
            have := (HR3.out.lt).2
            omega
          intro v' w5 hown hgr hat
          have hnb5 : ∀ g, (Value.slice A2 O.length cp2).ownBlock = some g → w.heap.size + 1 ≤ g := fun g hg => (HO3.out.lt g hg).1
          have hX5 : GrownX (fun i => (Value.slice A2 O.length cp2).ownBlock = some i) (w3.alloc (.cells #[.int .i64 p.k.fam, .int .u64 p.k.rd, .string p.k.addr, .int .i64 p.k.len, .int .u32 (p.k.id : Nat)] 83)) w5 := ⟨hgr.os, hgr.tape, hgr.output, hgr.size, fun i hi hx => hgr.block i hi (fun e => hx e.symm)⟩
          have hX6 : GrownX (fun i => (Value.slice A2 O.length cp2).ownBlock = some i) w3 w5 := (GrownX.of_below ((Below.refl _ _).alloc (Nat.le_refl _) _)).trans hX5
          have HR7 := Lib.hid (HR3.out.grownX hX6 (fun e => by have := hnb5 _ e; omega) (fun e => by have := hnb5 _ e; omega))
          have HB7 : Hid (Below w.heap.size w w5) := hX6.below HB3.out (fun i hi => by have := hnb5 i hi; omega) HB3.out.size
          have HO7 : Hid (PlsAt w5 (w.heap.size + 1) v' (O ++ [p.k])) := by
            show OwnM _ _ _ _ _ _ _
            rw [flatPk_append, List.length_append]
            exact hown
          clear hown hgr hat hnb5 hX5 hX6 HR3 HB3 HO3 HK3 k0 k1 k2 k3 k4
          go_wp2_with fail
          refine ⟨⟨D ++ [p], SL.eraseIdx i, HR7.out, HMID.out, by show PlsAt _ _ _ _; rw [HQ.out]; exact HO7.out, HB7.out⟩, ?_⟩
          rw [hml.out, HR7.out.left_eq]
          simpa [tdL] using hmeas.out
      · have zf : (p.k.fam == fam) = false := beq_eq_false_iff_ne.2 hf
        have HQ := Lib.hid (filter_no (D := D) (HFN.out p hf))
        clear hf
        go_wp2_with fail
        refine ⟨⟨D ++ [p], SL.eraseIdx i, HRV.out, HMID.out, by show PlsAt _ _ _ _; rw [HQ.out]; exact HOV.out, HBV.out⟩, ?_⟩
        rw [hml.out, HRV.out.left_eq]
        simpa [tdL] using hmeas.out
set_option maxRecDepth 100000 in
set_option maxHeartbeats 4000000 in
theorem rsweep_any {w : World} {base b m : Nat} {most : Int} {M : List TdC} (h : RibM w base b m most M) (fam : Int) :
    Calls Tryz.prog 23 #[.pointer (some ⟨b, 0, none⟩), .int .i64 fam] w fun e w' => (∃ ov T O, e = .returned ov ∧ NlsAt w' w.heap.size ov T ∧ OrdP O ∧ O.Perm ((M.filter fun t => decide (t.k.fam = fam) && t.stale).map (·.k)) ∧ TakenQ M O T ∧ RibM w' base b m most (delL O M)) ∧ GrownX (fun i => i = m) w w' := by
  obtain ⟨S, h, hM⟩ := h
  have HP := Lib.hid (places_stale w base b m most S h fam)
  have HS := Lib.hid h
  have HQ : Hid (((S.filter (famF fam staleQ)).map Td.k) = ((M.filter fun t => decide (t.k.fam = fam) && t.stale).map (·.k))) := by
    show _ = _
    rw [← hM, List.filter_map, List.map_map]
    rfl
  have HSUB : Hid (∀ k ∈ (S.filter (famF fam staleQ)).map Td.k, k ∈ S.map Td.k) := fun k hk => by
    obtain ⟨t, h1, h2⟩ := List.mem_map.1 hk
    exact List.mem_map.2 ⟨t, (List.mem_filter.1 h1).1, h2⟩
  have HM : Hid (S.map Td.c = M) := hM
  clear h hM
  go_enter Tryz.func23, Tryz.ntmps23
  go_wp2_with fail
  refine HP.out.mono ?_
  rintro e w1 ⟨⟨v, O, rfl, h1, h2, h3⟩, hb⟩
  have HO := Lib.hid h1
  have HPM := Lib.hid h2
  have HB1 := Lib.hid hb
  have HTK := Lib.hid (rtake_any w1 base b m most S (HS.out.below hb) w.heap.size v O h3 (h1.imp (fun he e => by rw [e] at he; exact cf_irrefl _ he)) (fun k hk => HSUB.out k (h2.mem_iff.1 hk)))
  rw [HM.out] at HTK
  rw [HQ.out] at HPM
  obtain ⟨A2, c2, rfl⟩ := OwnM.form h3
  clear h1 h2 h3 hb HP HSUB HQ
  go_wp2_with fail
  refine HTK.out.mono ?_
  rintro e w2 ⟨⟨ov, T, rfl, g1, g2, g3⟩, g4⟩
  have HF : Hid (NlsAt w2 w.heap.size ov T) := OwnM.lower g1 HB1.out.size
  have HG : Hid (TakenQ M O T ∧ RibM w2 base b m most (delL O M) ∧ GrownX (fun i => i = m) w w2) := ⟨g2, g3, (GrownX.of_below HB1.out).trans g4⟩
  clear g1 g2 g3 g4 HTK
  go_wp2_with fail
  go_ret
  exact ⟨⟨ov, T, O, rfl, HF.out, HO.out, HPM.out, HG.out.1, HG.out.2.1⟩, HG.out.2.2⟩
set_option maxRecDepth 100000 in
set_option maxHeartbeats 4000000 in
theorem rclear_any {w : World} {base b m : Nat} {most : Int} {M : List TdC} (h : RibM w base b m most M) (fam : Int) :
    Calls Tryz.prog 26 #[.pointer (some ⟨b, 0, none⟩), .int .i64 fam] w fun e w' => (∃ ov T O, e = .returned ov ∧ NlsAt w' w.heap.size ov T ∧ OrdP O ∧ O.Perm ((M.filter fun t => decide (t.k.fam = fam) && true).map (·.k)) ∧ TakenQ M O T ∧ RibM w' base b m most (delL O M)) ∧ GrownX (fun i => i = m) w w' := by
  obtain ⟨S, h, hM⟩ := h
  have HP := Lib.hid (places_all w base b m most S h fam)
  have HS := Lib.hid h
  have HQ : Hid (((S.filter (famF fam allQ)).map Td.k) = ((M.filter fun t => decide (t.k.fam = fam) && true).map (·.k))) := by
    show _ = _
    rw [← hM, List.filter_map, List.map_map]
    rfl
  have HSUB : Hid (∀ k ∈ (S.filter (famF fam allQ)).map Td.k, k ∈ S.map Td.k) := fun k hk => by
    obtain ⟨t, h1, h2⟩ := List.mem_map.1 hk
    exact List.mem_map.2 ⟨t, (List.mem_filter.1 h1).1, h2⟩
  have HM : Hid (S.map Td.c = M) := hM
  clear h hM
  go_enter Tryz.func26, Tryz.ntmps26
  go_wp2_with fail
  refine HP.out.mono ?_
  rintro e w1 ⟨⟨v, O, rfl, h1, h2, h3⟩, hb⟩
  have HO := Lib.hid h1
  have HPM := Lib.hid h2
  have HB1 := Lib.hid hb
  have HTK := Lib.hid (rtake_any w1 base b m most S (HS.out.below hb) w.heap.size v O h3 (h1.imp (fun he e => by rw [e] at he; exact cf_irrefl _ he)) (fun k hk => HSUB.out k (h2.mem_iff.1 hk)))
  rw [HM.out] at HTK
  rw [HQ.out] at HPM
  obtain ⟨A2, c2, rfl⟩ := OwnM.form h3
  clear h1 h2 h3 hb HP HSUB HQ
  go_wp2_with fail
  refine HTK.out.mono ?_
  rintro e w2 ⟨⟨ov, T, rfl, g1, g2, g3⟩, g4⟩
  have HF : Hid (NlsAt w2 w.heap.size ov T) := OwnM.lower g1 HB1.out.size
  have HG : Hid (TakenQ M O T ∧ RibM w2 base b m most (delL O M) ∧ GrownX (fun i => i = m) w w2) := ⟨g2, g3, (GrownX.of_below HB1.out).trans g4⟩
  clear g1 g2 g3 g4 HTK
  go_wp2_with fail
  go_ret
  exact ⟨⟨ov, T, O, rfl, HF.out, HO.out, HPM.out, HG.out.1, HG.out.2.1⟩, HG.out.2.2⟩
def markC (fam : Int) (M : List TdC) : List TdC := M.map fun t => if t.k.fam = fam then { t with stale := true } else t
theorem rmarkM_any {w : World} {base b m : Nat} {most : Int} {M : List TdC} (h : RibM w base b m most M) (fam : Int) :
    Calls Tryz.prog 22 #[.pointer (some ⟨b, 0, none⟩), .int .i64 fam] w fun e w' => (e = .returned (.int .i64 (cntC M fam : Nat)) ∧ RibM w' base b m most (markC fam M)) ∧ GrownX (fun i => i = m) w w' := by
  obtain ⟨S, h, rfl⟩ := h
  refine (rmark_any w base b m most S h fam).mono ?_
  rintro e w' ⟨⟨h1, h2⟩, h3⟩
  refine ⟨⟨h1, _, h2, ?_⟩, h3⟩
  unfold markS markC
  rw [List.map_map, List.map_map]
  refine List.map_congr_left fun t ht => ?_
  show Td.c (if t.k.fam = fam then markT t else t) = if t.k.fam = fam then { t.c with stale := true } else t.c
  split <;> rfl
end Go.Proofs.YtldpcliahfiloaaGreat
