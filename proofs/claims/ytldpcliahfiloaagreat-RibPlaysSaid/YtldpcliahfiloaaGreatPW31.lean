/-
  Several texts in one.
-/
import Derived.Test.YtldpcliahfiloaaGreatPW30
set_option linter.unusedVariables false
set_option linter.unusedSimpArgs false
namespace Go.Proofs.YtldpcliahfiloaaGreat
open Go.RowKit Go.MapKept Go.Shelf
open Go.Lib hiding intOf
open Go.Sort hiding Below
open Go.Maps (Keyed)

theorem GrownX.new_ {X Y : Nat → Prop} {w a c : World} (h : GrownX X w a) (k : GrownX Y a c) (hY : ∀ i, Y i → w.heap.size ≤ i) : GrownX X w c :=
  ⟨k.os.trans h.os, k.tape.trans h.tape, k.output.trans h.output, Nat.le_trans h.size k.size, fun i hi hx => (k.block i (Nat.lt_of_lt_of_le hi h.size) (fun hy => absurd (hY i hy) (by omega))).trans (h.block i hi hx)⟩
theorem RibAt.offT {w w' : World} {base b m g : Nat} {most : Int} {S : List Td} {cs : Array Value} {T : TypeId} (h : RibAt w base b m most S) (hg : w.grownBy w' (some g)) (hc : CellsAt w g cs T) (hb : b ≠ g) (hm : m ≠ g) (h1 : 88 ≠ T := by decide) (h2 : 33 ≠ T := by decide) (h3 : 30 ≠ T := by decide) (h4 : 100 ≠ T := by decide) : RibAt w' base b m most S :=
  { h with blk := h.blk.row hg hb, map := h.map.grownBy hg (fun e => hm (by injection e)), own := fun p hp =>
    { h.own p hp with path := (h.own p hp).path.off hg hc h1 h2, comms := (h.own p hp).comms.off hg hc h2, exts := (h.own p hp).exts.off hg hc h3, larges := (h.own p hp).larges.off hg hc h4, clus := (h.own p hp).clus.off hg hc h2 } }
/-- those at the places of a list are marked -/
def markT (t : Td) : Td := { t with stale := true }
def mkS (P : List Pk) (S : List Td) : List Td := S.map fun t => if t.k ∈ P then markT t else t
theorem mkS_k (P : List Pk) (S : List Td) : (mkS P S).map Td.k = S.map Td.k := by
  unfold mkS
  rw [List.map_map]
  refine List.map_congr_left fun t ht => ?_
  show Td.k (if t.k ∈ P then markT t else t) = t.k
  split <;> rfl
theorem mkS_nil (S : List Td) : mkS [] S = S := by
  unfold mkS
  conv => rhs; rw [← List.map_id S]
  exact List.map_congr_left fun t ht => by rw [if_neg (List.not_mem_nil)]; rfl
theorem mkS_set {P : List Pk} {S : List Td} (hk : S.Pairwise fun p q => p.k ≠ q.k) {j : Nat} {p : Td} (hj : (mkS P S)[j]? = some p) : (mkS P S).set j (markT p) = mkS (P ++ [p.k]) S := by
  unfold mkS at hj ⊢
  rw [List.getElem?_map] at hj
  obtain ⟨s, hs, he⟩ := Option.map_eq_some_iff.1 hj
  have hpk : p.k = s.k := by
    rw [← he]
    split <;> rfl
  refine List.ext_getElem? fun i => ?_
  rw [List.getElem?_set, List.getElem?_map, List.length_map]
  by_cases hij : j = i
  · subst hij
    have hlt : j < S.length := (List.getElem?_eq_some_iff.1 hs).1
    rw [if_pos rfl, if_pos hlt, List.getElem?_map, hs]
    show some (markT p) = some (if s.k ∈ P ++ [p.k] then markT s else s)
    rw [if_pos (List.mem_append.2 (.inr (List.mem_singleton.2 hpk.symm))), ← he]
    split <;> rfl
  · rw [if_neg hij, List.getElem?_map]
    cases hi : S[i]? with
    | none => rfl
    | some t =>
      have hne : t.k ≠ p.k := fun e => hij ((keyp_one hk hi hs (e.trans hpk)).symm)
      show some _ = some _
      have : (t.k ∈ P ++ [p.k]) = (t.k ∈ P) := by rw [List.mem_append, List.mem_singleton]; simp [hne]
      simp only [this]
theorem mkS_at {P : List Pk} {S : List Td} {k : Pk} (h : k ∈ S.map Td.k) : ∃ (j : Nat) (p : Td), (mkS P S)[j]? = some p ∧ p.k = k := by
  rw [← mkS_k P S] at h
  obtain ⟨p, hp, he⟩ := List.mem_map.1 h
  obtain ⟨j, hj⟩ := List.getElem?_of_mem hp
  exact ⟨j, p, hj, he⟩
theorem yields_told {ops : Array Oper} {S : World → Prop} {o : Oper} {a : Act} (hw : Region.wanted o (yielded ops a.tmps) = true) (src : Operand) (ho : o.op = .load 86 src)
    (b : Nat) (hx : a.eval src = .pointer (some ⟨b, 0, none⟩)) (p : Td) (hS : ∀ w, S w → CellsAt w b p.ar 86) : YieldsIf Tryz.prog ops S o (.agg p.ar) a := by
  obtain ⟨fs, hu⟩ := told_under
  exact yieldsIf_load_mid hw 86 src ho b 0 hx p.ar.toList _ (fun w h => (hS w h).range) hu rfl (by rw [told_size]; rfl)
/-- all of a family marked -/
def markS (fam : Int) (S : List Td) : List Td := S.map fun t => if t.k.fam = fam then markT t else t
theorem mkS_all {S : List Td} {O : List Pk} {fam : Int} (h : O.Perm ((S.filter (famF fam allQ)).map Td.k)) (hk : S.Pairwise fun p q => p.k ≠ q.k) : mkS O S = markS fam S := by
  refine List.map_congr_left fun t ht => ?_
  have : t.k ∈ O ↔ t.k.fam = fam := by
    rw [h.mem_iff, List.mem_map]
    refine Iff.intro (fun ⟨x, hx, he⟩ => ?_) (fun hf => ⟨t, List.mem_filter.2 ⟨ht, by unfold famF allQ; rw [decide_eq_true hf]; rfl⟩, rfl⟩)
    have h2 := (List.mem_filter.1 hx).2
    unfold famF allQ at h2
    rw [Bool.and_true] at h2
    rw [← he]
    exact of_decide_eq_true h2
  simp only [this]
set_option maxRecDepth 100000 in
set_option maxHeartbeats 16000000 in
theorem rmark_any (w : World) (base b m : Nat) (most : Int) (S : List Td) (h : RibAt w base b m most S) (fam : Int) :
    Calls Tryz.prog 22 #[.pointer (some ⟨b, 0, none⟩), .int .i64 fam] w fun e w' => (e = .returned (.int .i64 (cntC (S.map Td.c) fam : Nat)) ∧ RibAt w' base b m most (markS fam S)) ∧ GrownX (fun i => i = m) w w' := by
  have N1 := h.ne
  obtain ⟨l0, l1⟩ := h.lt
  have H := Lib.hid (places_all w base b m most S h fam)
  have HC : Hid (∀ O : List Pk, O.Perm ((S.filter (famF fam allQ)).map Td.k) → O.length = cntC (S.map Td.c) fam) := fun O hp => by
    rw [hp.length_eq, List.length_map]
    unfold cntC
    rw [List.filter_map, List.length_map]
    congr 2
    funext t
    unfold famF allQ
    rw [Bool.and_true]
    rfl
  have HS0 := Lib.hid h
  have HKEYS := Lib.hid h.keys
  generalize hN : cntC (S.map Td.c) fam = N at HC ⊢
  clear h hN
  go_enter Tryz.func22, Tryz.ntmps22
  go_wp2_with fail
  refine H.out.mono ?_
  rintro e w1 ⟨⟨v, O, rfl, h1, h2, h3⟩, hb⟩
  have HP : Hid (O.Perm ((S.filter (famF fam allQ)).map Td.k)) := h2
  have HOL : Hid (O.length = N) := HC.out O h2
  have HR1 : Hid (RibAt w1 base b m most (mkS (O.take 0) S)) := by
    rw [List.take_zero, mkS_nil]
    exact HS0.out.below hb
  have HB1 : Hid (GrownX (fun i => i = m) w w1) := GrownX.of_below hb
  have HO1 := Lib.hid h3
  have HLN : Hid (O.length ≤ 1000) := by
    show _ ≤ _
    rw [h2.length_eq, List.length_map]
    exact Nat.le_trans (List.length_filter_le _ _) HS0.out.len
  obtain ⟨A2, c2, rfl⟩ := OwnM.form h3
  clear h1 h2 h3 hb H HC HS0
  have hol := HLN.out
  go_wp2_with fail
  go_loopw [14] (fun jv wr => ∃ j : Nat, jv = .int .i64 j ∧ j ≤ O.length ∧ Hid (RibAt wr base b m most (mkS (O.take j) S)) ∧ Hid (PlsAt wr w.heap.size (.slice A2 O.length c2) O) ∧ Hid (GrownX (fun i => i = m) w wr)) (fun jv _ => O.length + 1 - (intOf jv).toNat)
  case atStart => exact ⟨0, rfl, Nat.zero_le _, HR1.out, HO1.out, HB1.out⟩
  case round =>
    clear HR1 HO1 HB1
    obtain ⟨j, rfl, hj, HR, HO, HB⟩ := hrel
    by_cases hlt : j < O.length
    · obtain ⟨k, hk⟩ : ∃ k, O[j]? = some k := ⟨O[j]'hlt, List.getElem?_eq_getElem _⟩
      have HNEXT : Hid (∀ (i : Nat) (p : Td), (mkS (O.take j) S)[i]? = some p → p.k = k → (mkS (O.take j) S).set i (markT p) = mkS (O.take (j + 1)) S) := fun i p h1 h2 => by
        rw [mkS_set HKEYS.out h1, h2, List.take_add_one, hk]
        rfl
      obtain ⟨jj, p, hjj, hpk⟩ : ∃ (i : Nat) (p : Td), (mkS (O.take j) S)[i]? = some p ∧ p.k = k := mkS_at (by
        have h1 := HP.out.mem_iff.1 (List.mem_of_getElem? hk)
        obtain ⟨t, h2, h3⟩ := List.mem_map.1 h1
        exact List.mem_map.2 ⟨t, (List.mem_filter.1 h2).1, h3⟩)
      have HNX := Lib.hid (HNEXT.out jj p hjj hpk)
      generalize mkS (O.take j) S = R at HR HNX hjj
      have HJ := Lib.hid hjj
      have HPK := Lib.hid hpk
      have HPJ : Hid ((tdL R)[jj]? = some (k.v, p.v)) := by
        show _ = _
        rw [← hpk]
        exact tdL_at hjj
      have hko := (HR.out.ok p (List.mem_of_getElem? hjj)).1
      rw [hpk] at hko
      obtain ⟨kl, hkl⟩ := pk_key k hko
      have HKL := Lib.hid hkl
      obtain ⟨go, cap, hv, hg1, hg2, hg3, hg4, hg5, k0, k1, k2, k3, k4⟩ := HO.out.at_ hk
      injection hv with hv1 hv2 hv3
      subst hv1
      subst hv3
      unfold maxLen at hg4
      have HGO : Hid (w.heap.size ≤ go) := hg1
      clear hkl hko hjj hpk hk HNEXT hg1 hg2 hv2
      go_upto_region 5 with fail
      refine rb_name fun V hV => ?_
      have HRV : Hid (RibAt V base b m most R) := by rw [hV]; exact HR.out.alloc _
      have HOV : Hid (PlsAt V w.heap.size (.slice (some ⟨go, 0, none⟩) O.length c2) O) := by rw [hV]; exact OwnM.below HO.out ((Below.refl _ _).alloc (Nat.le_refl _) _) (Nat.le_refl _)
      have HBV : Hid (GrownX (fun i => i = m) w V) := by rw [hV]; exact HB.out.trans (GrownX.of_below ((Below.refl _ _).alloc (Nat.le_refl _) _))
      obtain ⟨gp, hgp⟩ : ∃ gp, gp = wr.heap.size := ⟨_, rfl⟩
      have HKV : Hid (CellsAt V gp #[.int .i64 k.fam, .int .u64 k.rd, .string k.addr, .int .i64 k.len, .int .u32 (k.id : Nat)] 83) := by rw [hV, hgp]; exact CellsAt.new _ _ _
      have HGM : Hid (gp ≠ m) := by
        show _ ≠ _
        have := HR.out.lt.2
        omega
      rw [← hgp]
      have hsV : gp < V.heap.size := HKV.out.lt
      have hbV : b < V.heap.size := HRV.out.lt.1
      have hmV : m < V.heap.size := HRV.out.lt.2
      clear hV k0 k1 k2 k3 k4 HR HO HB hgp
      have HI : Hid ((fun w' => CellsAt w' b #[.int .i64 most, .map (some m)] 53 ∧ MapAt Tryz.prog 83 w' m (tdL R) ∧ CellsAt w' gp #[.int .i64 k.fam, .int .u64 k.rd, .string k.addr, .int .i64 k.len, .int .u32 (k.id : Nat)] 83 ∧ Below V.heap.size V w') V.drew) := ⟨HRV.out.blk.drew 1, HRV.out.map.drew 1, HKV.out.drew 1, below_drewN (Below.refl _ _) 1⟩
      refine wp_region_held_drew (S := fun w' => CellsAt w' b #[.int .i64 most, .map (some m)] 53 ∧ MapAt Tryz.prog 83 w' m (tdL R) ∧ CellsAt w' gp #[.int .i64 k.fam, .int .u64 k.rd, .string k.addr, .int .i64 k.len, .int .u32 (k.id : Nat)] 83 ∧ Below V.heap.size V w') (by kernel_rfl) (HI.out) (fun hHeld => ?_)
      refine wpAnyH_take (i := 0) (oi := { dst := some 18, op := Op.move (Operand.tmp 0), type := 23, pos := "adjin.go:116", after := #[], guard := none }) (v := ?_) rfl (by kernel_rfl) (by kernel_rfl) (by kernel_rfl) (fun _ _ _ h => h) (Or.inl ⟨by rfl, ?_⟩) hHeld ?_
      rotate_left
      · intro w hSw
        clear hSw
        go_simp
        try with_reducible rfl
      try simp only [Act.put, List.setIfInBounds_toArray, List.set_cons_zero, List.set_cons_succ]
      refine wpAnyH_take (i := 1) (oi := { dst := some 19, op := Op.nilCheck (Operand.tmp 18), type := 0, pos := "adjin.go:116", after := #[{ on := 0, ground := Ground.data }], guard := none }) (v := ?_) rfl (by kernel_rfl) (by kernel_rfl) (by kernel_rfl) (fun _ _ _ h => h) (Or.inl ⟨by rfl, ?_⟩) hHeld ?_
      rotate_left
      · intro w hSw
        clear hSw
        go_simp
        try with_reducible rfl
      try simp only [Act.put, List.setIfInBounds_toArray, List.set_cons_zero, List.set_cons_succ]
      refine wpAnyH_take (i := 2) (oi := { dst := some 20, op := Op.fieldAddr 53 (Operand.tmp 19) 1, type := 0, pos := "adjin.go:116", after := #[{ on := 1, ground := Ground.data }], guard := none }) (v := ?_) rfl (by kernel_rfl) (by kernel_rfl) (by kernel_rfl) (fun _ _ _ h => h) (Or.inl ⟨by rfl, ?_⟩) hHeld ?_
      rotate_left
      · intro w hSw
        clear hSw
        go_simp
        try with_reducible rfl
      try simp only [Act.put, List.setIfInBounds_toArray, List.set_cons_zero, List.set_cons_succ]
      refine wpAnyH_take (i := 3) (oi := { dst := some 21, op := Op.load 51 (Operand.tmp 20), type := 51, pos := "adjin.go:116", after := #[{ on := 2, ground := Ground.data }], guard := none }) (v := ?_) rfl (by kernel_rfl) (by kernel_rfl) (by kernel_rfl) (fun _ _ _ h => h) (Or.inl ⟨by rfl, ?_⟩) hHeld ?_
      rotate_left
      · intro w hSw
        obtain ⟨q1, q2, q3, q4⟩ := hSw
        obtain ⟨c0, c1⟩ := q1.c2
        obtain ⟨k0, k1, k2, k3, k4⟩ := q3.c5
        go_simp
        try with_reducible rfl
      try simp only [Act.put, List.setIfInBounds_toArray, List.set_cons_zero, List.set_cons_succ]
      refine wpAnyH_take (i := 4) (oi := { dst := some 22, op := Op.load 83 (Operand.tmp 7), type := 83, pos := "adjin.go:116", after := #[], guard := none }) (v := ?_) rfl (by kernel_rfl) (by kernel_rfl) (by kernel_rfl) (fun _ _ _ h => h) (Or.inl ⟨by rfl, ?_⟩) hHeld ?_
      rotate_left
      · intro w hSw
        obtain ⟨q1, q2, q3, q4⟩ := hSw
        obtain ⟨c0, c1⟩ := q1.c2
        obtain ⟨k0, k1, k2, k3, k4⟩ := q3.c5
        go_simp
        try with_reducible rfl
      try simp only [Act.put, List.setIfInBounds_toArray, List.set_cons_zero, List.set_cons_succ]
      refine wpAnyH_take (i := 5) (oi := { dst := some 23, op := Op.lookup 51 (Operand.tmp 21) (Operand.tmp 22) false, type := 86, pos := "adjin.go:116", after := #[{ on := 3, ground := Ground.data }, { on := 4, ground := Ground.data }], guard := none }) (v := ?_) rfl (by kernel_rfl) (by kernel_rfl) (by kernel_rfl) (fun _ _ _ h => h) (Or.inl ⟨by rfl, ?_⟩) hHeld ?_
      rotate_left
      · intro w hSw
        obtain ⟨q1, q2, q3, q4⟩ := hSw
        have hlk := q2.lookup_some1 (t := 51) pkLaw Tryz.underlying51 (zero_td _) HKL.out HPJ.out
        unfold Pk.v at hlk
        go_simp
        try with_reducible rfl
      try simp only [Act.put, List.setIfInBounds_toArray, List.set_cons_zero, List.set_cons_succ]
      refine wpAnyH_ready (rs := [6]) (by kernel_rfl) (by simp) ?_
      refine AllReadyH.cons (o := { dst := some 8, op := Op.alloc 86, type := 0, pos := "adjin.go:116", after := #[], guard := none }) rfl (fun K hK => ?_) AllReadyH.nil
      go_simp
      skip
      refine hK.out _ _ (And.intro (hHeld.1.alloc _) (And.intro (hHeld.2.1.alloc _) (And.intro (hHeld.2.2.1.alloc _) (hHeld.2.2.2.alloc hHeld.2.2.2.size _)))) (fun hHeld => ?_)
      clear hK K
      try simp only [Act.put, List.setIfInBounds_toArray, List.set_cons_zero, List.set_cons_succ]
      refine wpAnyH_ready (rs := [7]) (by kernel_rfl) (by simp) ?_
      refine AllReadyH.cons (o := { dst := none, op := Op.store 86 (Operand.tmp 8) (Operand.tmp 23), type := 0, pos := "adjin.go:116", after := #[{ on := 6, ground := Ground.data }, { on := 5, ground := Ground.data }, { on := 0, ground := Ground.phase }, { on := 1, ground := Ground.phase }, { on := 2, ground := Ground.phase }, { on := 3, ground := Ground.phase }, { on := 4, ground := Ground.phase }, { on := 5, ground := Ground.phase }, { on := 6, ground := Ground.phase }], guard := none }) rfl (fun K hK => ?_) AllReadyH.nil
      refine wp_store_row 86 (.tmp 8) (.tmp 23) rfl V.heap.size p.ar rfl rfl 86 _ (CellsAt.new V.drew _ _) (by rw [told_size]; rfl) rfl (told_ones _) ?_
      refine hK.out _ _ (And.intro (hHeld.1.row (grown_setRow' _ _ _) (Nat.ne_of_lt hbV)) (And.intro (hHeld.2.1.rowB _ (Nat.ne_of_lt hmV)) (And.intro (hHeld.2.2.1.row (grown_setRow' _ _ _) (Nat.ne_of_lt hsV)) (hHeld.2.2.2.grown (grown_setRow' _ _ _) hHeld.2.2.2.size (fun q hq => by cases hq; exact Nat.le_refl _))))) (fun hHeld => ?_)
      clear hK K
      try simp only [Act.put, List.setIfInBounds_toArray, List.set_cons_zero, List.set_cons_succ]
      refine wpAnyH_done (by kernel_rfl) ?_ _
      have HH := Lib.hid hHeld
      have HTD : Hid (CellsAt ((V.drew.alloc (.cells (Td.mk noPk 0 noAtr false).ar 86)).setRow V.heap.size p.ar) V.heap.size p.ar 86) := CellsAt.setRow' (CellsAt.new V.drew _ _) _
      clear hHeld
      go_upto_region 6 with fail
      refine rb_name fun X hX => ?_
      have hvx : Below V.heap.size V X := by rw [hX]; exact HH.out.2.2.2
      have HKX : Hid (CellsAt X gp #[.int .i64 k.fam, .int .u64 k.rd, .string k.addr, .int .i64 k.len, .int .u32 (k.id : Nat)] 83) := by rw [hX]; exact HH.out.2.2.1
      obtain ⟨gt, hgt⟩ : ∃ gt, gt = V.heap.size := ⟨_, rfl⟩
      have HTX : Hid (CellsAt X gt p.ar 86) := by rw [hX, hgt]; exact HTD.out
      have HRX := Lib.hid (HRV.out.below hvx)
      have HOX : Hid (PlsAt X w.heap.size (.slice (some ⟨go, 0, none⟩) O.length c2) O) := OwnM.below HOV.out hvx (Nat.le_refl _)
      have HBX : Hid (GrownX (fun i => i = m) w X) := HBV.out.trans (GrownX.of_below hvx)
      have HTM : Hid (gt ≠ m) := by show _ ≠ _; omega
      have HTB : Hid (b ≠ gt) := by show _ ≠ _; omega
      have HTG : Hid (gp ≠ gt) := by show _ ≠ _; omega
      have HTO : Hid (go ≠ gt) := by
        show _ ≠ _
        have := (HOV.out.lt go rfl).2
        omega
      have HTW : Hid (w.heap.size ≤ gt) := by
        show _ ≤ _
        have := HBV.out.size
        omega
      try rw [← hgt]
      clear hX HH HTD hvx HRV HOV HBV HKV hgt hsV hbV hmV HI
      have hfz := HTX.out.unfrozen 17
      have h17 : X.cell? ⟨gt, 17, none⟩ = some (.bool p.stale) := (HTX.out.c 17).trans rfl
      go_upto_region 7 with fail
      refine rb_name fun Z hZ => ?_
      have hgz : X.grownBy Z (some gt) := by rw [hZ]; exact grown_setCell X ⟨gt, 17, none⟩ (.bool true)
      have HKZ : Hid (CellsAt Z gp #[.int .i64 k.fam, .int .u64 k.rd, .string k.addr, .int .i64 k.len, .int .u32 (k.id : Nat)] 83) := HKX.out.row hgz HTG.out
      have HTZ : Hid (CellsAt Z gt (markT p).ar 86) := by rw [hZ]; exact HTX.out.setAt 17 (.bool true)
      have HRZ : Hid (RibAt Z base b m most R) := RibAt.offT HRX.out hgz HTX.out HTB.out HTM.out.symm
      have HOZ : Hid (PlsAt Z w.heap.size (.slice (some ⟨go, 0, none⟩) O.length c2) O) := OwnM.keep HOX.out (fun i hi => hgz.block i (HOX.out.lt i hi).2 (fun e => by injection e with e; simp [Value.ownBlock] at hi; exact HTO.out (hi.trans e)))
      have HBZ : Hid (GrownX (fun i => i = m) w Z) := HBX.out.new_ (GrownX.of_row (X := fun i => i = gt) hgz rfl) (fun i hi => by rw [hi]; exact HTW.out)
      clear hZ hgz hfz h17 HKX HTX HRX HOX HBX HTB HTG HTO HTW
      have HQ : Hid ((markT p).k = k ∧ (markT p).label = p.label ∧ (markT p).a = p.a) := ⟨HPK.out, rfl, rfl⟩
      generalize markT p = q at HTZ HNX HQ
      have hmZ : MapAt Tryz.prog 83 Z.drew m (tdL R) := HRZ.out.map.drew 1
      obtain ⟨W1, e1, g1, M1, z1⟩ := hmZ.update_old (t := 51) pkLaw Tryz.underlying51 HKL.out HPJ.out q.v
      have M2 : Hid (MapAt Tryz.prog 83 W1 m (tdL (mkS (O.take (j + 1)) S))) := by
        show MapAt _ _ _ _ _
        have he : tdL (R.set jj q) = (tdL R).set jj (k.v, q.v) := by
          rw [← tdL_set, HQ.out.1]
        rw [← HNX.out, he]
        exact M1
      unfold Pk.v Td.v at e1
      have HI7 : Hid ((fun w' => CellsAt w' b #[.int .i64 most, .map (some m)] 53 ∧ (∃ L, MapAt Tryz.prog 83 w' m L) ∧ CellsAt w' gp #[.int .i64 k.fam, .int .u64 k.rd, .string k.addr, .int .i64 k.len, .int .u32 (k.id : Nat)] 83 ∧ CellsAt w' gt q.ar 86) Z.drew) := ⟨HRZ.out.blk.drew 1, ⟨_, HRZ.out.map.drew 1⟩, HKZ.out.drew 1, HTZ.out.drew 1⟩
      go_upto_region 7 with fail
      refine wp_region_held_drew (S := fun w' => CellsAt w' b #[.int .i64 most, .map (some m)] 53 ∧ (∃ L, MapAt Tryz.prog 83 w' m L) ∧ CellsAt w' gp #[.int .i64 k.fam, .int .u64 k.rd, .string k.addr, .int .i64 k.len, .int .u32 (k.id : Nat)] 83 ∧ CellsAt w' gt q.ar 86) (by kernel_rfl) (HI7.out) (fun hHeld => ?_)
      refine wpAnyH_take (i := 0) (oi := { dst := some 25, op := Op.move (Operand.tmp 0), type := 23, pos := "adjin.go:118", after := #[], guard := none }) (v := ?_) rfl (by kernel_rfl) (by kernel_rfl) (by kernel_rfl) (fun _ _ _ h => h) (Or.inl ⟨by rfl, ?_⟩) hHeld ?_
      rotate_left
      · intro w hSw
        clear hSw
        go_simp
        try with_reducible rfl
      try simp only [Act.put, List.setIfInBounds_toArray, List.set_cons_zero, List.set_cons_succ]
      refine wpAnyH_take (i := 1) (oi := { dst := some 26, op := Op.nilCheck (Operand.tmp 25), type := 0, pos := "adjin.go:118", after := #[{ on := 0, ground := Ground.data }], guard := none }) (v := ?_) rfl (by kernel_rfl) (by kernel_rfl) (by kernel_rfl) (fun _ _ _ h => h) (Or.inl ⟨by rfl, ?_⟩) hHeld ?_
      rotate_left
      · intro w hSw
        clear hSw
        go_simp
        try with_reducible rfl
      try simp only [Act.put, List.setIfInBounds_toArray, List.set_cons_zero, List.set_cons_succ]
      refine wpAnyH_take (i := 2) (oi := { dst := some 27, op := Op.fieldAddr 53 (Operand.tmp 26) 1, type := 0, pos := "adjin.go:118", after := #[{ on := 1, ground := Ground.data }], guard := none }) (v := ?_) rfl (by kernel_rfl) (by kernel_rfl) (by kernel_rfl) (fun _ _ _ h => h) (Or.inl ⟨by rfl, ?_⟩) hHeld ?_
      rotate_left
      · intro w hSw
        clear hSw
        go_simp
        try with_reducible rfl
      try simp only [Act.put, List.setIfInBounds_toArray, List.set_cons_zero, List.set_cons_succ]
      refine wpAnyH_take (i := 3) (oi := { dst := some 28, op := Op.load 51 (Operand.tmp 27), type := 51, pos := "adjin.go:118", after := #[{ on := 2, ground := Ground.data }], guard := none }) (v := ?_) rfl (by kernel_rfl) (by kernel_rfl) (by kernel_rfl) (fun _ _ _ h => h) (Or.inl ⟨by rfl, ?_⟩) hHeld ?_
      rotate_left
      · intro w hSw
        obtain ⟨q1, q2, q3, q4⟩ := hSw
        obtain ⟨c0, c1⟩ := q1.c2
        obtain ⟨k0, k1, k2, k3, k4⟩ := q3.c5
        go_simp
        try with_reducible rfl
      try simp only [Act.put, List.setIfInBounds_toArray, List.set_cons_zero, List.set_cons_succ]
      refine wpAnyH_take (i := 4) (oi := { dst := some 29, op := Op.load 83 (Operand.tmp 7), type := 83, pos := "adjin.go:118", after := #[], guard := none }) (v := ?_) rfl (by kernel_rfl) (by kernel_rfl) (by kernel_rfl) (fun _ _ _ h => h) (Or.inl ⟨by rfl, ?_⟩) hHeld ?_
      rotate_left
      · intro w hSw
        obtain ⟨q1, q2, q3, q4⟩ := hSw
        obtain ⟨c0, c1⟩ := q1.c2
        obtain ⟨k0, k1, k2, k3, k4⟩ := q3.c5
        go_simp
        try with_reducible rfl
      try simp only [Act.put, List.setIfInBounds_toArray, List.set_cons_zero, List.set_cons_succ]
      refine wpAnyH_take (i := 5) (oi := { dst := some 30, op := Op.load 86 (Operand.tmp 8), type := 86, pos := "adjin.go:118", after := #[], guard := none }) (v := Value.agg q.ar) rfl (by kernel_rfl) (by kernel_rfl) (by kernel_rfl) (fun _ _ _ h => h) (yields_told (by rfl) _ rfl gt (by rfl) q (fun w h => h.2.2.2)) hHeld ?_
      try simp only [Act.put, List.setIfInBounds_toArray, List.set_cons_zero, List.set_cons_succ]
      refine wpAnyH_ready (rs := [6]) (by kernel_rfl) (by simp) ?_
      refine AllReadyH.cons (o := { dst := none, op := Op.mapUpdate 51 (Operand.tmp 28) (Operand.tmp 29) (Operand.tmp 30), type := 0, pos := "adjin.go:118", after := #[{ on := 3, ground := Ground.data }, { on := 4, ground := Ground.data }, { on := 5, ground := Ground.data }, { on := 0, ground := Ground.phase }, { on := 1, ground := Ground.phase }, { on := 2, ground := Ground.phase }, { on := 3, ground := Ground.phase }, { on := 4, ground := Ground.phase }, { on := 5, ground := Ground.phase }], guard := none }) rfl (fun K hK => ?_) AllReadyH.nil
      go_simp
      skip
      refine hK.out _ _ (And.intro (hHeld.1.row g1 N1) (And.intro ⟨_, M1⟩ (And.intro (hHeld.2.2.1.row g1 HGM.out) (hHeld.2.2.2.row g1 HTM.out)))) (fun hHeld => ?_)
      clear hK K
      try simp only [Act.put, List.setIfInBounds_toArray, List.set_cons_zero, List.set_cons_succ]
      refine wpAnyH_done (by kernel_rfl) ?_ _
      have hX1 : ∀ i, i = m → ∀ cs T fr, Z.drew.heap[i]? ≠ some (.cells cs T fr) := fun i hi => by rw [hi]; exact (HRZ.out.drew 1).mapBlk
      have hgW := GrownX.of_row (X := fun i => i = m) g1 rfl
      have HMEM : Hid (∀ t ∈ R.set jj q, t.k.Ok ∧ t.label < 4294967296 ∧ AtO W1 base t.a ∧ AtrSz t.a.c) := fun t ht => by
        have hall : ∀ s ∈ R, s.k.Ok ∧ s.label < 4294967296 ∧ AtO W1 base s.a ∧ AtrSz s.a.c := fun s hs => ⟨(HRZ.out.ok s hs).1, (HRZ.out.ok s hs).2, AtO.keepX ((HRZ.out.drew 1).own s hs) hgW hX1, HRZ.out.sz s hs⟩
        rcases List.mem_or_eq_of_mem_set ht with ht | rfl
        · exact hall t ht
        · obtain ⟨h1, h2, h3, h4⟩ := hall p (List.mem_of_getElem? HJ.out)
          obtain ⟨i1, i2, i3⟩ := HQ.out
          rw [i1, i2, i3, ← HPK.out]
          exact ⟨h1, h2, h3, h4⟩
      rw [HNX.out] at HMEM
      have HLEN2 : Hid ((mkS (O.take (j + 1)) S).length ≤ 1000) := by
        show _ ≤ _
        rw [← HNX.out, List.length_set]
        exact HRZ.out.len
      have HF : Hid (RibAt W1 base b m most (mkS (O.take (j + 1)) S)) := ⟨(HRZ.out.blk.drew 1).row g1 N1, M2.out, N1, fun t ht => ⟨(HMEM.out t ht).1, (HMEM.out t ht).2.1⟩, fun t ht => (HMEM.out t ht).2.2.1, fun t ht => (HMEM.out t ht).2.2.2, HLEN2.out, HRZ.out.low⟩
      have HBF : Hid (GrownX (fun i => i = m) w W1) := HBZ.out.trans ((GrownX.of_below (below_drewN (Below.refl _ _) 1)).trans hgW)
      have HOF : Hid (PlsAt W1 w.heap.size (.slice (some ⟨go, 0, none⟩) O.length c2) O) := OwnM.keepX (OwnM.below HOZ.out (below_drewN (Below.refl _ _) 1) (Nat.le_refl _)) hgW hX1
      clear hHeld hX1 hgW e1 M1 z1 g1 HMEM HRZ HOZ HBZ
      go_wp2_with fail
      exact ⟨⟨j + 1, by go_num, by omega, HF.out, HOF.out, HBF.out⟩, by simp [intOf]; omega⟩
    · have hje : j = O.length := by omega
      have HF : Hid (RibAt wr base b m most (markS fam S)) := by
        show RibAt _ _ _ _ _ _
        rw [← mkS_all HP.out HKEYS.out]
        have h := HR.out
        rwa [hje, List.take_length] at h
      clear HR
      go_wp2_with fail
      go_ret
      exact ⟨⟨ret_int (by rw [HOL.out]), HF.out⟩, HB.out⟩
end Go.Proofs.YtldpcliahfiloaaGreat
