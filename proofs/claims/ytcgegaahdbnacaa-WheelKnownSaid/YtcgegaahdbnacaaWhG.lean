/-
  Timers: picking those that a test lets through. Conditions: sizes.
-/
import Derived.Test.YtcgegaahdbnacaaWhF
set_option linter.unusedVariables false
set_option linter.unusedSimpArgs false
namespace Go.Proofs.Ytcgegaahdbnacaa
open Go.RowKit Go.MapKept Go.Shelf Go.Lib
open Go.Maps (Keyed)

theorem RangeAt.left_eq {P : Program} {K : TypeId} {w : World} {b r : Nat} {L left : List (Value × Value)} (h : RangeAt P K w b r L left) : w.rangeLeft b r = left.length := by
  obtain ⟨es, clock, since, seen, c0, hb, hs, hk, rfl, hr, h1, h2, h3, rfl⟩ := h
  simp only [World.rangeLeft, hb, hr, leftP, List.length_map]
  unfold leftOf
  rw [← Array.length_toList, Array.toList_filter]
theorem perm_eraseIdx {α : Type} : ∀ (l : List α) (i : Nat) (x : α), l[i]? = some x → (x :: l.eraseIdx i).Perm l
  | [], _, _, h => by simp at h
  | a :: r, 0, x, h => by
    simp at h
    subst h
    exact List.Perm.refl _
  | a :: r, i + 1, x, h => by
    have ih := perm_eraseIdx r i x (by simpa using h)
    rw [List.eraseIdx_cons_succ]
    exact (List.Perm.swap a x _).trans (ih.cons a)
theorem WK.agg (k : WK) : k.v = .agg #[.int .i64 k.kind, .string k.peer, .int .i64 k.fam] := rfl
/-- what was new may turn -/
theorem GrownX.new_ {X Y : Nat → Prop} {w a c : World} (h : GrownX X w a) (k : GrownX Y a c) (hY : ∀ i, Y i → w.heap.size ≤ i) : GrownX X w c :=
  ⟨k.os.trans h.os, k.tape.trans h.tape, k.output.trans h.output, Nat.le_trans h.size k.size, fun i hi hx => (k.block i (Nat.lt_of_lt_of_le hi h.size) (fun hy => absurd (hY i hy) (by omega))).trans (h.block i hi hx)⟩
def PickPost (w : World) (b m : Nat) (S : List Tm) (f : Tm → Bool) (e : Ending) (w' : World) : Prop :=
  ∃ v O K, e = .returned v ∧ Ord O ∧ O.Perm (S.filter f) ∧ WheelAt w' b m K ∧ K.Perm (S.filter fun x => !f x) ∧ FiredAt w' w.heap.size v O ∧ GrownX (fun i => i = m) w w'
set_option maxRecDepth 100000 in
set_option maxHeartbeats 8000000 in
theorem pick_due (w : World) (b m : Nat) (now : Nat) (S : List Tm) (h : WheelAt w b m S) :
    Calls Try.prog 27 #[.pointer (some ⟨b, 0, none⟩), .func (.func 28) #[.agg #[.pointer (some ⟨b, 0, none⟩), .int .u64 now]] #[]] w (PickPost w b m S (dueF now)) := by
  have N1 := h.ne
  obtain ⟨l0, l1⟩ := h.lt
  obtain ⟨i0, hi0, hz0, hz1, hz2⟩ := info_parts infoFired
  have hkeys := Lib.hid h.keys
  have HLEN := Lib.hid h.len
  have HOK := Lib.hid h.ok
  have c0 := h.blk.c1
  obtain ⟨w0, hr, hra, hb0, hz⟩ := h.map.range (t := 48) Try.underlying48
  have HR0 := Lib.hid hra
  have HB0 := Lib.hid (h.blk.below hb0 l0)
  have HG0 : Hid (GrownX (fun i => i = m) w w0) := GrownX.of_below hb0
  clear h hra hb0
  go_enter Try.func27, Try.ntmps27
  go_wp2_with fail
  refine (wnone_any b m _ c0).mono ?_
  rintro e w1 ⟨rfl, hw⟩
  have hw := hw.symm
  subst hw
  go_wp2_with fail
  clear hr c0
  go_loopw [5] (fun u5 wr => ∃ (O K SL SC : List Tm), Hid (CellsAt wr b #[.map (some m)] 50) ∧ Hid (RangeAt Try.prog 30 wr m w.heap.size (tmL SC) (tmL SL)) ∧ Hid (SC.Perm (K ++ SL)) ∧ Hid ((O ++ (K ++ SL)).Perm S) ∧ Hid (∀ p ∈ O, (dueF now) p = true) ∧ Hid (∀ p ∈ K, (dueF now) p = false) ∧ Hid (FiredAt wr (w.heap.size + 1) u5 O) ∧ Hid (GrownX (fun i => i = m) w wr)) (fun _ wr => wr.rangeLeft m w.heap.size)
  case atStart => exact ⟨[], [], S, S, HB0.out, HR0.out, List.Perm.refl _, List.Perm.refl _, (fun p hp => absurd hp (by simp)), (fun p hp => absurd hp (by simp)), by show OwnM _ _ _ _ _ _ _; exact OwnM.nil _ _ _ _, HG0.out⟩
  case round =>
    obtain ⟨O, K, SL, SC, HB, HR, HPC, HP, HFO, HFK, HO, HG⟩ := hrel
    clear HB0 HR0 HG0
    have hrz := HR.out.lt.2
    have HOLT := Lib.hid (fun g (hg : u5.ownBlock = some g) => (HO.out.lt g hg).2)
    rcases HR.out.next (by omega) 0 with ⟨hnil, hrun⟩ | ⟨i, key, v, wq, hi, hrun, hrg, hgr, hzq, hent⟩
    · have hsl : SL = [] := by unfold tmL at hnil; exact List.map_eq_nil_iff.1 hnil
      subst hsl
      have hOl : O.length ≤ 1000000 := by
        have h1 := HP.out.length_eq
        have h2 := HLEN.out
        simp only [List.length_append, List.length_nil] at h1
        omega
      obtain ⟨A2, cp2, rfl⟩ := OwnM.form HO.out
      go_wp2_with fail
      refine (sort_any _ _ O _ HO.out hOl).mono ?_
      rintro e w2 ⟨rfl, M, hM1, hM2, hM3, hM4⟩
      have hlen := hM1.length_eq
      rw [← hlen] at hM3 hM4
      have HM := Lib.hid (And.intro hM1 (And.intro hM2 (And.intro hM3 hM4)))
      clear hM1 hM2 hM3 hM4 hlen
      go_wp2_with fail
      go_ret
      obtain ⟨hM1, hM2, hM3, hM4⟩ := HM.out
      have hlen := hM1.length_eq
      rw [hlen] at hM3 hM4
      have hne : ∀ g, (Value.slice A2 O.length cp2).ownBlock = some g → w.heap.size + 1 ≤ g := fun g hg => (HO.out.lt g hg).1
      have hGX : GrownX (fun i => w.heap.size + 1 ≤ i) wr w2 := ⟨hM4.os, hM4.tape, hM4.output, hM4.size, fun i hi hx => hM4.block i hi (fun e => hx (hne i e.symm))⟩
      have hpm : (O ++ K).Perm S := by have := HP.out; rwa [List.append_nil] at this
      have hpd : (O ++ K).Pairwise (fun p q => p.k ≠ q.k) := (hpm.pairwise_iff (fun a => fun e => a e.symm)).2 hkeys.out
      have hfil : O = (O ++ K).filter (dueF now) ∧ K = (O ++ K).filter (fun x => !(dueF now) x) := by
        constructor
        · rw [List.filter_append, List.filter_eq_self.2 HFO.out, List.filter_eq_nil_iff.2 (fun p hp => by rw [HFK.out p hp]; simp), List.append_nil]
        · rw [List.filter_append, List.filter_eq_nil_iff.2 (fun p hp => by rw [HFO.out p hp]; simp), List.filter_eq_self.2 (fun p hp => by rw [HFK.out p hp]; rfl), List.nil_append]
      refine ⟨_, M, SC, rfl, hM2 ?_, ?_, ⟨?_, ?_, N1, ?_, ?_⟩, ?_, hM3.lower (by omega), ?_⟩
      · exact (List.pairwise_append.1 hpd).1.imp (fun hne e => hne (by rw [e]))
      · refine hM1.trans ?_
        rw [hfil.1]
        exact hpm.filter (dueF now)
      · exact HB.out.grownX hGX (by omega)
      · exact HR.out.map.grownX hGX (by omega)
      · intro p hp
        refine HOK.out p (hpm.mem_iff.1 (List.mem_append_right _ ?_))
        have := HPC.out.mem_iff.1 hp
        rwa [List.append_nil] at this
      · have h1 := HPC.out.length_eq
        have h2 := hpm.length_eq
        have h3 := HLEN.out
        simp only [List.length_append, List.length_nil] at h1 h2
        omega
      · have := HPC.out
        rw [List.append_nil] at this
        refine this.trans ?_
        rw [hfil.2]
        exact hpm.filter (fun x => !(dueF now) x)
      · exact HG.out.new_ hGX (fun i hi => by omega)
    · obtain ⟨p, hi2, rfl, rfl⟩ := tmL_back hi
      obtain ⟨n, k⟩ := p
      have hpm : (⟨n, k⟩ : Tm) ∈ SC := HPC.out.mem_iff.2 (List.mem_append_right _ (List.mem_of_getElem? hi2))
      obtain ⟨hkok, hnb⟩ := HOK.out _ (HP.out.mem_iff.1 (List.mem_append_right _ (List.mem_append_right _ (List.mem_of_getElem? hi2))))
      simp only at hkok hnb
      obtain ⟨kl, hkl⟩ := wk_key k hkok
      obtain ⟨j, hj⟩ := List.getElem?_of_mem hpm
      have hscd : SC.Pairwise (fun p q => p.k ≠ q.k) := by
        have h1 := (HP.out.pairwise_iff (fun a => fun e => a e.symm)).2 hkeys.out
        exact (HPC.out.pairwise_iff (fun a => fun e => a e.symm)).2 (List.pairwise_append.1 h1).2.1
      have hpe := perm_eraseIdx SL i _ hi2
      have hpj := perm_eraseIdx SC j _ hj
      have hmid : (K ++ SL).Perm (⟨n, k⟩ :: (K ++ SL.eraseIdx i)) := ((hpe.symm).append_left K).trans List.perm_middle
      have hdel : (SC.eraseIdx j).Perm (K ++ SL.eraseIdx i) := ((hpj.trans HPC.out).trans hmid).cons_inv
      have hleft : ∀ q ∈ tmL (SL.eraseIdx i), q.1 ≠ k.v := tmL_no (fun q hq e => by
        have h1 : (⟨n, k⟩ :: SC.eraseIdx j).Pairwise (fun p q : Tm => p.k ≠ q.k) := (hpj.pairwise_iff (fun a => fun e => a e.symm)).2 hscd
        exact (List.pairwise_cons.1 h1).1 q (hdel.mem_iff.2 (List.mem_append_right _ hq)) e.symm)
      rw [tmL_erase] at hrg
      have N3 : wr.heap.size ≠ m := by omega
      have hGq : GrownX (fun j => j = w.heap.size) wr wq := GrownX.of_row hgr rfl
      have hmeas : Hid ((SL.eraseIdx i).length < SL.length) := by
        show _ < _
        obtain ⟨hil, _⟩ := List.getElem?_eq_some_iff.1 hi2
        rw [List.length_eraseIdx_of_lt hil]
        omega
      have hml : Hid (wr.rangeLeft m w.heap.size = SL.length) := by
        show _ = _
        rw [HR.out.left_eq]
        simp [tmL]
      have HBq := Lib.hid ((HB.out.grownX hGq (by omega)).alloc (.cells #[.int .i64 k.kind, .string k.peer, .int .i64 k.fam] 30))
      have HRq := Lib.hid (hrg.grownX (X := fun _ => False) (GrownX.of_below (Below.alloc (Below.refl wq.heap.size wq) (Nat.le_refl _) (.cells #[.int .i64 k.kind, .string k.peer, .int .i64 k.fam] 30))) (fun h => h) (fun h => h))
      have HOq : Hid (FiredAt (wq.alloc (.cells #[.int .i64 k.kind, .string k.peer, .int .i64 k.fam] 30)) (w.heap.size + 1) u5 O) := OwnM.alloc (OwnM.keep HO.out (fun g hg => hGq.block g (HO.out.lt g hg).2 (by have := (HO.out.lt g hg).1; omega))) _
      have HGq : Hid (GrownX (fun i => i = m) w (wq.alloc (.cells #[.int .i64 k.kind, .string k.peer, .int .i64 k.fam] 30))) := (HG.out.new_ hGq (fun i hi => by omega)).trans (GrownX.of_below ((Below.refl _ _).alloc (Nat.le_refl _) _))
      have HKq : Hid (CellsAt (wq.alloc (.cells #[.int .i64 k.kind, .string k.peer, .int .i64 k.fam] 30)) wr.heap.size #[.int .i64 k.kind, .string k.peer, .int .i64 k.fam] 30) := by
        have h := CellsAt.new wq #[.int .i64 k.kind, .string k.peer, .int .i64 k.fam] 30
        rw [hzq] at h
        exact h
      have HMq : Hid (MapAt Try.prog 30 (wq.alloc (.cells #[.int .i64 k.kind, .string k.peer, .int .i64 k.fam] 30)) m (tmL SC)) := HRq.out.map
      have hzz : (wq.alloc (.cells #[.int .i64 k.kind, .string k.peer, .int .i64 k.fam] 30)).heap.size = wr.heap.size + 1 := by rw [World.size_alloc, hzq]
      have HJ := Lib.hid hj
      have HKL := Lib.hid hkl
      have HKO := Lib.hid hkok
      have HDEL := Lib.hid hdel
      have HLEFT := Lib.hid hleft
      have HMID := Lib.hid hmid
      rw [WK.agg] at hrun hent
      clear hi hi2 hj hkl hkok hdel hleft hmid hpe hpj hscd hpm hrg hgr hGq HB HR HO HG
      go_wp2_with fail
      generalize hW : wq.alloc (.cells #[.int .i64 k.kind, .string k.peer, .int .i64 k.fam] 30) = W at *
      clear hrun hent hW
      obtain ⟨k0, k1, k2⟩ := HKq.out.c3
      go_wp2_with fail
      refine (due_any _ b m j now SC ⟨n, k⟩ HBq.out HMq.out HKO.out HJ.out).mono ?_
      rintro e w3 ⟨rfl, hb3⟩
      have HB3 := Lib.hid (HBq.out.below hb3 HBq.out.lt)
      have HK3 := Lib.hid (HKq.out.below hb3 HKq.out.lt)
      have HR3 := Lib.hid (HRq.out.grownX (X := fun _ => False) (GrownX.of_below hb3) (fun h => h) (fun h => h))
      have HO3 : Hid (FiredAt w3 (w.heap.size + 1) u5 O) := OwnM.below HOq.out hb3 (Nat.le_refl _)
      have HG3 : Hid (GrownX (fun i => i = m) w w3) := HGq.out.trans (GrownX.of_below hb3)
      have HNK : Hid (¬ u5.ownBlock = some wr.heap.size) := by
        intro e
        have := HOLT.out _ e
        omega
      have hz3 : wr.heap.size + 1 ≤ w3.heap.size := by have := hb3.size; omega
      clear hb3 HBq HKq HRq HOq HGq HMq k0 k1 k2
      generalize hF : (dueF now) (⟨n, k⟩ : Tm) = T
      have HF := Lib.hid hF
      clear hF
      cases T
      · go_wp2_with fail
        refine ⟨⟨O, K ++ [(⟨n, k⟩ : Tm)], SL.eraseIdx i, SC, HB3.out, HR3.out, ?_, ?_, HFO.out, ?_, HO3.out, HG3.out⟩, ?_⟩
        · refine (HPC.out.trans HMID.out).trans ?_
          rw [List.append_assoc]
          exact List.perm_middle.symm
        · refine List.Perm.trans (List.Perm.append_left O ?_) HP.out
          refine List.Perm.trans ?_ HMID.out.symm
          rw [List.append_assoc]
          exact List.perm_middle
        · intro p hp
          rcases List.mem_append.1 hp with hp | hp
          · exact HFK.out p hp
          · rw [List.mem_singleton] at hp
            subst hp
            exact HF.out
        · rw [hml.out, HR3.out.left_eq]
          simpa [tmL] using hmeas.out
      · obtain ⟨A2, cp2, rfl⟩ := OwnM.form HO3.out
        have hOl : O.length ≤ 1024 := by
          have h1 := HP.out.length_eq
          have h2 := HLEN.out
          simp only [List.length_append] at h1
          omega
        obtain ⟨k0, k1, k2⟩ := HK3.out.c3
        go_wp2_with (at_builtin; refine wpList_append_m rfl (.tmp 23) (.tmp 27) 25 25 rfl (w.heap.size + 1) 32 i0 _ 4 40 Try.underlying25 hi0 hz0 hz1 hz2 rfl ?b0 _ O.length (flatT O) rfl ?b1 _ 1 (flatT [⟨n, k⟩]) rfl ?b2 ?b3 ?b4 ?b5 ?b6)
        case b0 => omega
        case b1 => exact OwnM.alloc HO3.out _
        case b2 => exact Src.new (w := w3) _ _ Try.underlying25 rfl (fun u hu => flatT_one [⟨n, k⟩] u hu)
        case b3 => (unfold maxLen; omega)
        case b4 => omega
        case b5 =>
          simp
          omega
        intro v' w5 hown hgr hat
        have hnb5 : ∀ g, (Value.slice A2 O.length cp2).ownBlock = some g → w.heap.size + 1 ≤ g := fun g hg => (HO3.out.lt g hg).1
        have hX5 : GrownX (fun i => (Value.slice A2 O.length cp2).ownBlock = some i) (w3.alloc (.cells #[.int .u64 (n : Nat), .int .i64 k.kind, .string k.peer, .int .i64 k.fam] 32)) w5 := ⟨hgr.os, hgr.tape, hgr.output, hgr.size, fun i hi hx => hgr.block i hi (fun e => hx e.symm)⟩
        have hX6 : GrownX (fun i => (Value.slice A2 O.length cp2).ownBlock = some i) w3 w5 := (GrownX.of_below ((Below.refl _ _).alloc (Nat.le_refl _) _)).trans hX5
        have hgb : ∀ i, (Value.slice A2 O.length cp2).ownBlock = some i → i ≠ b ∧ i ≠ m ∧ i ≠ w.heap.size := fun i hi => by have := hnb5 i hi; omega
        have hkey : ¬ (Value.slice A2 O.length cp2).ownBlock = some wr.heap.size := HNK.out
        have HB7 := Lib.hid (HB3.out.grownX hX6 (fun e => (hgb _ e).1 rfl))
        have HK7 := Lib.hid (HK3.out.grownX hX6 hkey)
        have HR7 := Lib.hid (HR3.out.grownX hX6 (fun e => (hgb _ e).2.1 rfl) (fun e => (hgb _ e).2.2 rfl))
        have HG7 : Hid (GrownX (fun i => i = m) w w5) := HG3.out.new_ hX6 (fun i hi => by have := hnb5 i hi; omega)
        have HO7 : Hid (FiredAt w5 (w.heap.size + 1) v' (O ++ [⟨n, k⟩])) := by
          show OwnM _ _ _ _ _ _ _
          rw [flatT_append, List.length_append]
          exact hown
        have hlt5 := HK7.out.lt
        clear hown hgr hat hnb5 hX5 hX6 hgb hkey HB3 HK3 HR3 HG3 HO3 k0 k1 k2
        have c0 := HB7.out.c1
        obtain ⟨k0, k1, k2⟩ := HK7.out.c3
        have N5 : wr.heap.size ≠ m := N3
        go_wp2_with fail
        have hR8 : RangeAt Try.prog 30 w5.drew m w.heap.size (tmL SC) (tmL (SL.eraseIdx i)) := HR7.out.keep rfl rfl
        obtain ⟨W1, e1, g1, R1, z1⟩ := hR8.delete_ (t := 48) (ty := 0) (by omega) wkLaw Try.underlying48 HKL.out (tmL_at HJ.out) HLEFT.out
        rw [tmL_erase] at R1
        have hG9 : GrownX (fun i => i = m) w5 W1 := (GrownX.of_below (below_drewN (Below.refl _ _) 1)).trans (GrownX.of_row g1 rfl)
        have HB9 := Lib.hid (HB7.out.grownX hG9 N1)
        have HO9 : Hid (FiredAt W1 (w.heap.size + 1) v' (O ++ [⟨n, k⟩])) := OwnM.keep HO7.out (fun g hg => hG9.block g (HO7.out.lt g hg).2 (by have := (HO7.out.lt g hg).1; omega))
        have HG9 := Lib.hid (HG7.out.trans hG9)
        have HR9 := Lib.hid R1
        rw [WK.agg] at e1
        clear hR8 R1 z1 hG9
        refine wp_region_held_drew (S := fun w' => CellsAt w' b #[.map (some m)] 50 ∧ CellsAt w' wr.heap.size #[.int .i64 k.kind, .string k.peer, .int .i64 k.fam] 30) (by kernel_rfl) (And.intro (HB7.out.drew 1) (HK7.out.drew 1)) (fun hHeld => ?_)
        refine wpAnyH_take (i := 0) (oi := { dst := some 29, op := Op.move (Operand.tmp 0), type := 23, pos := "wheel.go:86", after := #[], guard := none }) (v := ?_) rfl (by kernel_rfl) (by kernel_rfl) (by kernel_rfl) (fun _ _ _ h => h) (Or.inl ⟨by rfl, ?_⟩) hHeld ?_
        rotate_left
        · intro w hSw
          clear hSw
          go_simp
          try with_reducible rfl
        try simp only [Act.put, List.setIfInBounds_toArray, List.set_cons_zero, List.set_cons_succ]
        refine wpAnyH_take (i := 1) (oi := { dst := some 30, op := Op.nilCheck (Operand.tmp 29), type := 0, pos := "wheel.go:86", after := #[{ on := 0, ground := Ground.data }], guard := none }) (v := ?_) rfl (by kernel_rfl) (by kernel_rfl) (by kernel_rfl) (fun _ _ _ h => h) (Or.inl ⟨by rfl, ?_⟩) hHeld ?_
        rotate_left
        · intro w hSw
          clear hSw
          go_simp
          try with_reducible rfl
        try simp only [Act.put, List.setIfInBounds_toArray, List.set_cons_zero, List.set_cons_succ]
        refine wpAnyH_take (i := 2) (oi := { dst := some 31, op := Op.fieldAddr 50 (Operand.tmp 30) 0, type := 0, pos := "wheel.go:86", after := #[{ on := 1, ground := Ground.data }], guard := none }) (v := ?_) rfl (by kernel_rfl) (by kernel_rfl) (by kernel_rfl) (fun _ _ _ h => h) (Or.inl ⟨by rfl, ?_⟩) hHeld ?_
        rotate_left
        · intro w hSw
          clear hSw
          go_simp
          try with_reducible rfl
        try simp only [Act.put, List.setIfInBounds_toArray, List.set_cons_zero, List.set_cons_succ]
        refine wpAnyH_take (i := 3) (oi := { dst := some 32, op := Op.load 48 (Operand.tmp 31), type := 48, pos := "wheel.go:86", after := #[{ on := 2, ground := Ground.data }], guard := none }) (v := ?_) rfl (by kernel_rfl) (by kernel_rfl) (by kernel_rfl) (fun _ _ _ h => h) (Or.inl ⟨by rfl, ?_⟩) hHeld ?_
        rotate_left
        · intro w hSw
          obtain ⟨q1, q2⟩ := hSw
          have c0 := q1.c1
          obtain ⟨k0, k1, k2⟩ := q2.c3
          go_simp
          try with_reducible rfl
        try simp only [Act.put, List.setIfInBounds_toArray, List.set_cons_zero, List.set_cons_succ]
        refine wpAnyH_take (i := 4) (oi := { dst := some 33, op := Op.load 30 (Operand.tmp 6), type := 30, pos := "wheel.go:86", after := #[], guard := none }) (v := ?_) rfl (by kernel_rfl) (by kernel_rfl) (by kernel_rfl) (fun _ _ _ h => h) (Or.inl ⟨by rfl, ?_⟩) hHeld ?_
        rotate_left
        · intro w hSw
          obtain ⟨q1, q2⟩ := hSw
          have c0 := q1.c1
          obtain ⟨k0, k1, k2⟩ := q2.c3
          go_simp
          try with_reducible rfl
        try simp only [Act.put, List.setIfInBounds_toArray, List.set_cons_zero, List.set_cons_succ]
        refine wpAnyH_ready (rs := [5]) (by kernel_rfl) (by simp) ?_
        refine AllReadyH.cons (o := { dst := none, op := Op.call { callee := Callee.builtin Builtin.delete, args := #[Operand.tmp 32, Operand.tmp 33], argTypes := #[48, 30] }, type := 0, pos := "wheel.go:86", after := #[{ on := 3, ground := Ground.data }, { on := 4, ground := Ground.data }], guard := none }) rfl (fun K hK => ?_) AllReadyH.nil
        go_simp
        skip
        refine hK.out _ _ (And.intro (hHeld.1.row g1 N1) (hHeld.2.row g1 N5)) (fun hHeld => ?_)
        clear hK K
        try simp only [Act.put, List.setIfInBounds_toArray, List.set_cons_zero, List.set_cons_succ]
        refine wpAnyH_done (by kernel_rfl) ?_ _
        clear hHeld
        go_wp2_with fail
        refine ⟨⟨O ++ [(⟨n, k⟩ : Tm)], K, SL.eraseIdx i, SC.eraseIdx j, HB9.out, HR9.out, HDEL.out, ?_, ?_, HFK.out, HO9.out, HG9.out⟩, ?_⟩
        · refine List.Perm.trans ?_ HP.out
          rw [List.append_assoc]
          exact List.Perm.append_left O HMID.out.symm
        · intro p hp
          rcases List.mem_append.1 hp with hp | hp
          · exact HFO.out p hp
          · rw [List.mem_singleton] at hp
            subst hp
            exact HF.out
        · rw [hml.out, HR9.out.left_eq]
          simpa [tmL] using hmeas.out
set_option maxRecDepth 100000 in
set_option maxHeartbeats 8000000 in
theorem pick_drop (w : World) (b m : Nat) (c : Nat) (peer : ByteArray) (T : TypeId) (S : List Tm) (h : WheelAt w b m S) (hc : CellsAt w c #[.string peer] T) (N7 : c ≠ m) :
    Calls Try.prog 27 #[.pointer (some ⟨b, 0, none⟩), .func (.func 30) #[] #[.pointer (some ⟨c, 0, none⟩)]] w (PickPost w b m S (peerF peer)) := by
  have N1 := h.ne
  obtain ⟨l0, l1⟩ := h.lt
  obtain ⟨i0, hi0, hz0, hz1, hz2⟩ := info_parts infoFired
  have hkeys := Lib.hid h.keys
  have HLEN := Lib.hid h.len
  have HOK := Lib.hid h.ok
  have c0 := h.blk.c1
  obtain ⟨w0, hr, hra, hb0, hz⟩ := h.map.range (t := 48) Try.underlying48
  have HR0 := Lib.hid hra
  have HB0 := Lib.hid (h.blk.below hb0 l0)
  have HG0 : Hid (GrownX (fun i => i = m) w w0) := GrownX.of_below hb0
  have HCP := Lib.hid hc
  clear hc
  clear h hra hb0
  go_enter Try.func27, Try.ntmps27
  go_wp2_with fail
  refine (wnone_any b m _ c0).mono ?_
  rintro e w1 ⟨rfl, hw⟩
  have hw := hw.symm
  subst hw
  go_wp2_with fail
  clear hr c0
  go_loopw [5] (fun u5 wr => ∃ (O K SL SC : List Tm), Hid (CellsAt wr b #[.map (some m)] 50) ∧ Hid (RangeAt Try.prog 30 wr m w.heap.size (tmL SC) (tmL SL)) ∧ Hid (SC.Perm (K ++ SL)) ∧ Hid ((O ++ (K ++ SL)).Perm S) ∧ Hid (∀ p ∈ O, (peerF peer) p = true) ∧ Hid (∀ p ∈ K, (peerF peer) p = false) ∧ Hid (FiredAt wr (w.heap.size + 1) u5 O) ∧ Hid (GrownX (fun i => i = m) w wr)) (fun _ wr => wr.rangeLeft m w.heap.size)
  case atStart => exact ⟨[], [], S, S, HB0.out, HR0.out, List.Perm.refl _, List.Perm.refl _, (fun p hp => absurd hp (by simp)), (fun p hp => absurd hp (by simp)), by show OwnM _ _ _ _ _ _ _; exact OwnM.nil _ _ _ _, HG0.out⟩
  case round =>
    obtain ⟨O, K, SL, SC, HB, HR, HPC, HP, HFO, HFK, HO, HG⟩ := hrel
    clear HB0 HR0 HG0
    have hrz := HR.out.lt.2
    have HOLT := Lib.hid (fun g (hg : u5.ownBlock = some g) => (HO.out.lt g hg).2)
    rcases HR.out.next (by omega) 0 with ⟨hnil, hrun⟩ | ⟨i, key, v, wq, hi, hrun, hrg, hgr, hzq, hent⟩
    · have hsl : SL = [] := by unfold tmL at hnil; exact List.map_eq_nil_iff.1 hnil
      subst hsl
      have hOl : O.length ≤ 1000000 := by
        have h1 := HP.out.length_eq
        have h2 := HLEN.out
        simp only [List.length_append, List.length_nil] at h1
        omega
      obtain ⟨A2, cp2, rfl⟩ := OwnM.form HO.out
      go_wp2_with fail
      refine (sort_any _ _ O _ HO.out hOl).mono ?_
      rintro e w2 ⟨rfl, M, hM1, hM2, hM3, hM4⟩
      have hlen := hM1.length_eq
      rw [← hlen] at hM3 hM4
      have HM := Lib.hid (And.intro hM1 (And.intro hM2 (And.intro hM3 hM4)))
      clear hM1 hM2 hM3 hM4 hlen
      go_wp2_with fail
      go_ret
      obtain ⟨hM1, hM2, hM3, hM4⟩ := HM.out
      have hlen := hM1.length_eq
      rw [hlen] at hM3 hM4
      have hne : ∀ g, (Value.slice A2 O.length cp2).ownBlock = some g → w.heap.size + 1 ≤ g := fun g hg => (HO.out.lt g hg).1
      have hGX : GrownX (fun i => w.heap.size + 1 ≤ i) wr w2 := ⟨hM4.os, hM4.tape, hM4.output, hM4.size, fun i hi hx => hM4.block i hi (fun e => hx (hne i e.symm))⟩
      have hpm : (O ++ K).Perm S := by have := HP.out; rwa [List.append_nil] at this
      have hpd : (O ++ K).Pairwise (fun p q => p.k ≠ q.k) := (hpm.pairwise_iff (fun a => fun e => a e.symm)).2 hkeys.out
      have hfil : O = (O ++ K).filter (peerF peer) ∧ K = (O ++ K).filter (fun x => !(peerF peer) x) := by
        constructor
        · rw [List.filter_append, List.filter_eq_self.2 HFO.out, List.filter_eq_nil_iff.2 (fun p hp => by rw [HFK.out p hp]; simp), List.append_nil]
        · rw [List.filter_append, List.filter_eq_nil_iff.2 (fun p hp => by rw [HFO.out p hp]; simp), List.filter_eq_self.2 (fun p hp => by rw [HFK.out p hp]; rfl), List.nil_append]
      refine ⟨_, M, SC, rfl, hM2 ?_, ?_, ⟨?_, ?_, N1, ?_, ?_⟩, ?_, hM3.lower (by omega), ?_⟩
      · exact (List.pairwise_append.1 hpd).1.imp (fun hne e => hne (by rw [e]))
      · refine hM1.trans ?_
        rw [hfil.1]
        exact hpm.filter (peerF peer)
      · exact HB.out.grownX hGX (by omega)
      · exact HR.out.map.grownX hGX (by omega)
      · intro p hp
        refine HOK.out p (hpm.mem_iff.1 (List.mem_append_right _ ?_))
        have := HPC.out.mem_iff.1 hp
        rwa [List.append_nil] at this
      · have h1 := HPC.out.length_eq
        have h2 := hpm.length_eq
        have h3 := HLEN.out
        simp only [List.length_append, List.length_nil] at h1 h2
        omega
      · have := HPC.out
        rw [List.append_nil] at this
        refine this.trans ?_
        rw [hfil.2]
        exact hpm.filter (fun x => !(peerF peer) x)
      · exact HG.out.new_ hGX (fun i hi => by omega)
    · obtain ⟨p, hi2, rfl, rfl⟩ := tmL_back hi
      obtain ⟨n, k⟩ := p
      have hpm : (⟨n, k⟩ : Tm) ∈ SC := HPC.out.mem_iff.2 (List.mem_append_right _ (List.mem_of_getElem? hi2))
      obtain ⟨hkok, hnb⟩ := HOK.out _ (HP.out.mem_iff.1 (List.mem_append_right _ (List.mem_append_right _ (List.mem_of_getElem? hi2))))
      simp only at hkok hnb
      obtain ⟨kl, hkl⟩ := wk_key k hkok
      obtain ⟨j, hj⟩ := List.getElem?_of_mem hpm
      have hscd : SC.Pairwise (fun p q => p.k ≠ q.k) := by
        have h1 := (HP.out.pairwise_iff (fun a => fun e => a e.symm)).2 hkeys.out
        exact (HPC.out.pairwise_iff (fun a => fun e => a e.symm)).2 (List.pairwise_append.1 h1).2.1
      have hpe := perm_eraseIdx SL i _ hi2
      have hpj := perm_eraseIdx SC j _ hj
      have hmid : (K ++ SL).Perm (⟨n, k⟩ :: (K ++ SL.eraseIdx i)) := ((hpe.symm).append_left K).trans List.perm_middle
      have hdel : (SC.eraseIdx j).Perm (K ++ SL.eraseIdx i) := ((hpj.trans HPC.out).trans hmid).cons_inv
      have hleft : ∀ q ∈ tmL (SL.eraseIdx i), q.1 ≠ k.v := tmL_no (fun q hq e => by
        have h1 : (⟨n, k⟩ :: SC.eraseIdx j).Pairwise (fun p q : Tm => p.k ≠ q.k) := (hpj.pairwise_iff (fun a => fun e => a e.symm)).2 hscd
        exact (List.pairwise_cons.1 h1).1 q (hdel.mem_iff.2 (List.mem_append_right _ hq)) e.symm)
      rw [tmL_erase] at hrg
      have N3 : wr.heap.size ≠ m := by omega
      have hGq : GrownX (fun j => j = w.heap.size) wr wq := GrownX.of_row hgr rfl
      have hmeas : Hid ((SL.eraseIdx i).length < SL.length) := by
        show _ < _
        obtain ⟨hil, _⟩ := List.getElem?_eq_some_iff.1 hi2
        rw [List.length_eraseIdx_of_lt hil]
        omega
      have hml : Hid (wr.rangeLeft m w.heap.size = SL.length) := by
        show _ = _
        rw [HR.out.left_eq]
        simp [tmL]
      have HBq := Lib.hid ((HB.out.grownX hGq (by omega)).alloc (.cells #[.int .i64 k.kind, .string k.peer, .int .i64 k.fam] 30))
      have HRq := Lib.hid (hrg.grownX (X := fun _ => False) (GrownX.of_below (Below.alloc (Below.refl wq.heap.size wq) (Nat.le_refl _) (.cells #[.int .i64 k.kind, .string k.peer, .int .i64 k.fam] 30))) (fun h => h) (fun h => h))
      have HOq : Hid (FiredAt (wq.alloc (.cells #[.int .i64 k.kind, .string k.peer, .int .i64 k.fam] 30)) (w.heap.size + 1) u5 O) := OwnM.alloc (OwnM.keep HO.out (fun g hg => hGq.block g (HO.out.lt g hg).2 (by have := (HO.out.lt g hg).1; omega))) _
      have HGq : Hid (GrownX (fun i => i = m) w (wq.alloc (.cells #[.int .i64 k.kind, .string k.peer, .int .i64 k.fam] 30))) := (HG.out.new_ hGq (fun i hi => by omega)).trans (GrownX.of_below ((Below.refl _ _).alloc (Nat.le_refl _) _))
      have HKq : Hid (CellsAt (wq.alloc (.cells #[.int .i64 k.kind, .string k.peer, .int .i64 k.fam] 30)) wr.heap.size #[.int .i64 k.kind, .string k.peer, .int .i64 k.fam] 30) := by
        have h := CellsAt.new wq #[.int .i64 k.kind, .string k.peer, .int .i64 k.fam] 30
        rw [hzq] at h
        exact h
      have HMq : Hid (MapAt Try.prog 30 (wq.alloc (.cells #[.int .i64 k.kind, .string k.peer, .int .i64 k.fam] 30)) m (tmL SC)) := HRq.out.map
      have hzz : (wq.alloc (.cells #[.int .i64 k.kind, .string k.peer, .int .i64 k.fam] 30)).heap.size = wr.heap.size + 1 := by rw [World.size_alloc, hzq]
      have HJ := Lib.hid hj
      have HKL := Lib.hid hkl
      have HKO := Lib.hid hkok
      have HDEL := Lib.hid hdel
      have HLEFT := Lib.hid hleft
      have HMID := Lib.hid hmid
      rw [WK.agg] at hrun hent
      clear hi hi2 hj hkl hkok hdel hleft hmid hpe hpj hscd hpm hrg hgr hGq HB HR HO HG
      go_wp2_with fail
      generalize hW : wq.alloc (.cells #[.int .i64 k.kind, .string k.peer, .int .i64 k.fam] 30) = W at *
      clear hrun hent hW
      obtain ⟨k0, k1, k2⟩ := HKq.out.c3
      go_wp2_with fail
      refine (drop_any W c peer n k _ (HCP.out.grownX HGq.out N7)).mono ?_
      rintro e w3 ⟨rfl, hb3⟩
      have HB3 := Lib.hid (HBq.out.below hb3 HBq.out.lt)
      have HK3 := Lib.hid (HKq.out.below hb3 HKq.out.lt)
      have HR3 := Lib.hid (HRq.out.grownX (X := fun _ => False) (GrownX.of_below hb3) (fun h => h) (fun h => h))
      have HO3 : Hid (FiredAt w3 (w.heap.size + 1) u5 O) := OwnM.below HOq.out hb3 (Nat.le_refl _)
      have HG3 : Hid (GrownX (fun i => i = m) w w3) := HGq.out.trans (GrownX.of_below hb3)
      have HNK : Hid (¬ u5.ownBlock = some wr.heap.size) := by
        intro e
        have := HOLT.out _ e
        omega
      have hz3 : wr.heap.size + 1 ≤ w3.heap.size := by have := hb3.size; omega
      clear hb3 HBq HKq HRq HOq HGq HMq k0 k1 k2
      generalize hF : (peerF peer) (⟨n, k⟩ : Tm) = T
      have HF := Lib.hid hF
      clear hF
      cases T
      · go_wp2_with fail
        refine ⟨⟨O, K ++ [(⟨n, k⟩ : Tm)], SL.eraseIdx i, SC, HB3.out, HR3.out, ?_, ?_, HFO.out, ?_, HO3.out, HG3.out⟩, ?_⟩
        · refine (HPC.out.trans HMID.out).trans ?_
          rw [List.append_assoc]
          exact List.perm_middle.symm
        · refine List.Perm.trans (List.Perm.append_left O ?_) HP.out
          refine List.Perm.trans ?_ HMID.out.symm
          rw [List.append_assoc]
          exact List.perm_middle
        · intro p hp
          rcases List.mem_append.1 hp with hp | hp
          · exact HFK.out p hp
          · rw [List.mem_singleton] at hp
            subst hp
            exact HF.out
        · rw [hml.out, HR3.out.left_eq]
          simpa [tmL] using hmeas.out
      · obtain ⟨A2, cp2, rfl⟩ := OwnM.form HO3.out
        have hOl : O.length ≤ 1024 := by
          have h1 := HP.out.length_eq
          have h2 := HLEN.out
          simp only [List.length_append] at h1
          omega
        obtain ⟨k0, k1, k2⟩ := HK3.out.c3
        go_wp2_with (at_builtin; refine wpList_append_m rfl (.tmp 23) (.tmp 27) 25 25 rfl (w.heap.size + 1) 32 i0 _ 4 40 Try.underlying25 hi0 hz0 hz1 hz2 rfl ?b0 _ O.length (flatT O) rfl ?b1 _ 1 (flatT [⟨n, k⟩]) rfl ?b2 ?b3 ?b4 ?b5 ?b6)
        case b0 => omega
        case b1 => exact OwnM.alloc HO3.out _
        case b2 => exact Src.new (w := w3) _ _ Try.underlying25 rfl (fun u hu => flatT_one [⟨n, k⟩] u hu)
        case b3 => (unfold maxLen; omega)
        case b4 => omega
        case b5 =>
          simp
          omega
        intro v' w5 hown hgr hat
        have hnb5 : ∀ g, (Value.slice A2 O.length cp2).ownBlock = some g → w.heap.size + 1 ≤ g := fun g hg => (HO3.out.lt g hg).1
        have hX5 : GrownX (fun i => (Value.slice A2 O.length cp2).ownBlock = some i) (w3.alloc (.cells #[.int .u64 (n : Nat), .int .i64 k.kind, .string k.peer, .int .i64 k.fam] 32)) w5 := ⟨hgr.os, hgr.tape, hgr.output, hgr.size, fun i hi hx => hgr.block i hi (fun e => hx e.symm)⟩
        have hX6 : GrownX (fun i => (Value.slice A2 O.length cp2).ownBlock = some i) w3 w5 := (GrownX.of_below ((Below.refl _ _).alloc (Nat.le_refl _) _)).trans hX5
        have hgb : ∀ i, (Value.slice A2 O.length cp2).ownBlock = some i → i ≠ b ∧ i ≠ m ∧ i ≠ w.heap.size := fun i hi => by have := hnb5 i hi; omega
        have hkey : ¬ (Value.slice A2 O.length cp2).ownBlock = some wr.heap.size := HNK.out
        have HB7 := Lib.hid (HB3.out.grownX hX6 (fun e => (hgb _ e).1 rfl))
        have HK7 := Lib.hid (HK3.out.grownX hX6 hkey)
        have HR7 := Lib.hid (HR3.out.grownX hX6 (fun e => (hgb _ e).2.1 rfl) (fun e => (hgb _ e).2.2 rfl))
        have HG7 : Hid (GrownX (fun i => i = m) w w5) := HG3.out.new_ hX6 (fun i hi => by have := hnb5 i hi; omega)
        have HO7 : Hid (FiredAt w5 (w.heap.size + 1) v' (O ++ [⟨n, k⟩])) := by
          show OwnM _ _ _ _ _ _ _
          rw [flatT_append, List.length_append]
          exact hown
        have hlt5 := HK7.out.lt
        clear hown hgr hat hnb5 hX5 hX6 hgb hkey HB3 HK3 HR3 HG3 HO3 k0 k1 k2
        have c0 := HB7.out.c1
        obtain ⟨k0, k1, k2⟩ := HK7.out.c3
        have N5 : wr.heap.size ≠ m := N3
        go_wp2_with fail
        have hR8 : RangeAt Try.prog 30 w5.drew m w.heap.size (tmL SC) (tmL (SL.eraseIdx i)) := HR7.out.keep rfl rfl
        obtain ⟨W1, e1, g1, R1, z1⟩ := hR8.delete_ (t := 48) (ty := 0) (by omega) wkLaw Try.underlying48 HKL.out (tmL_at HJ.out) HLEFT.out
        rw [tmL_erase] at R1
        have hG9 : GrownX (fun i => i = m) w5 W1 := (GrownX.of_below (below_drewN (Below.refl _ _) 1)).trans (GrownX.of_row g1 rfl)
        have HB9 := Lib.hid (HB7.out.grownX hG9 N1)
        have HO9 : Hid (FiredAt W1 (w.heap.size + 1) v' (O ++ [⟨n, k⟩])) := OwnM.keep HO7.out (fun g hg => hG9.block g (HO7.out.lt g hg).2 (by have := (HO7.out.lt g hg).1; omega))
        have HG9 := Lib.hid (HG7.out.trans hG9)
        have HR9 := Lib.hid R1
        rw [WK.agg] at e1
        clear hR8 R1 z1 hG9
        refine wp_region_held_drew (S := fun w' => CellsAt w' b #[.map (some m)] 50 ∧ CellsAt w' wr.heap.size #[.int .i64 k.kind, .string k.peer, .int .i64 k.fam] 30) (by kernel_rfl) (And.intro (HB7.out.drew 1) (HK7.out.drew 1)) (fun hHeld => ?_)
        refine wpAnyH_take (i := 0) (oi := { dst := some 29, op := Op.move (Operand.tmp 0), type := 23, pos := "wheel.go:86", after := #[], guard := none }) (v := ?_) rfl (by kernel_rfl) (by kernel_rfl) (by kernel_rfl) (fun _ _ _ h => h) (Or.inl ⟨by rfl, ?_⟩) hHeld ?_
        rotate_left
        · intro w hSw
          clear hSw
          go_simp
          try with_reducible rfl
        try simp only [Act.put, List.setIfInBounds_toArray, List.set_cons_zero, List.set_cons_succ]
        refine wpAnyH_take (i := 1) (oi := { dst := some 30, op := Op.nilCheck (Operand.tmp 29), type := 0, pos := "wheel.go:86", after := #[{ on := 0, ground := Ground.data }], guard := none }) (v := ?_) rfl (by kernel_rfl) (by kernel_rfl) (by kernel_rfl) (fun _ _ _ h => h) (Or.inl ⟨by rfl, ?_⟩) hHeld ?_
        rotate_left
        · intro w hSw
          clear hSw
          go_simp
          try with_reducible rfl
        try simp only [Act.put, List.setIfInBounds_toArray, List.set_cons_zero, List.set_cons_succ]
        refine wpAnyH_take (i := 2) (oi := { dst := some 31, op := Op.fieldAddr 50 (Operand.tmp 30) 0, type := 0, pos := "wheel.go:86", after := #[{ on := 1, ground := Ground.data }], guard := none }) (v := ?_) rfl (by kernel_rfl) (by kernel_rfl) (by kernel_rfl) (fun _ _ _ h => h) (Or.inl ⟨by rfl, ?_⟩) hHeld ?_
        rotate_left
        · intro w hSw
          clear hSw
          go_simp
          try with_reducible rfl
        try simp only [Act.put, List.setIfInBounds_toArray, List.set_cons_zero, List.set_cons_succ]
        refine wpAnyH_take (i := 3) (oi := { dst := some 32, op := Op.load 48 (Operand.tmp 31), type := 48, pos := "wheel.go:86", after := #[{ on := 2, ground := Ground.data }], guard := none }) (v := ?_) rfl (by kernel_rfl) (by kernel_rfl) (by kernel_rfl) (fun _ _ _ h => h) (Or.inl ⟨by rfl, ?_⟩) hHeld ?_
        rotate_left
        · intro w hSw
          obtain ⟨q1, q2⟩ := hSw
          have c0 := q1.c1
          obtain ⟨k0, k1, k2⟩ := q2.c3
          go_simp
          try with_reducible rfl
        try simp only [Act.put, List.setIfInBounds_toArray, List.set_cons_zero, List.set_cons_succ]
        refine wpAnyH_take (i := 4) (oi := { dst := some 33, op := Op.load 30 (Operand.tmp 6), type := 30, pos := "wheel.go:86", after := #[], guard := none }) (v := ?_) rfl (by kernel_rfl) (by kernel_rfl) (by kernel_rfl) (fun _ _ _ h => h) (Or.inl ⟨by rfl, ?_⟩) hHeld ?_
        rotate_left
        · intro w hSw
          obtain ⟨q1, q2⟩ := hSw
          have c0 := q1.c1
          obtain ⟨k0, k1, k2⟩ := q2.c3
          go_simp
          try with_reducible rfl
        try simp only [Act.put, List.setIfInBounds_toArray, List.set_cons_zero, List.set_cons_succ]
        refine wpAnyH_ready (rs := [5]) (by kernel_rfl) (by simp) ?_
        refine AllReadyH.cons (o := { dst := none, op := Op.call { callee := Callee.builtin Builtin.delete, args := #[Operand.tmp 32, Operand.tmp 33], argTypes := #[48, 30] }, type := 0, pos := "wheel.go:86", after := #[{ on := 3, ground := Ground.data }, { on := 4, ground := Ground.data }], guard := none }) rfl (fun K hK => ?_) AllReadyH.nil
        go_simp
        skip
        refine hK.out _ _ (And.intro (hHeld.1.row g1 N1) (hHeld.2.row g1 N5)) (fun hHeld => ?_)
        clear hK K
        try simp only [Act.put, List.setIfInBounds_toArray, List.set_cons_zero, List.set_cons_succ]
        refine wpAnyH_done (by kernel_rfl) ?_ _
        clear hHeld
        go_wp2_with fail
        refine ⟨⟨O ++ [(⟨n, k⟩ : Tm)], K, SL.eraseIdx i, SC.eraseIdx j, HB9.out, HR9.out, HDEL.out, ?_, ?_, HFK.out, HO9.out, HG9.out⟩, ?_⟩
        · refine List.Perm.trans ?_ HP.out
          rw [List.append_assoc]
          exact List.Perm.append_left O HMID.out.symm
        · intro p hp
          rcases List.mem_append.1 hp with hp | hp
          · exact HFO.out p hp
          · rw [List.mem_singleton] at hp
            subst hp
            exact HF.out
        · rw [hml.out, HR9.out.left_eq]
          simpa [tmL] using hmeas.out
theorem wtake_any (w : World) (b m now : Nat) (S : List Tm) (h : WheelAt w b m S) : Calls Try.prog 8 #[.pointer (some ⟨b, 0, none⟩), .int .u64 now] w (PickPost w b m S (dueF now)) := by
  have H := Lib.hid (pick_due w b m now S h)
  clear h
  go_enter Try.func8, Try.ntmps8
  go_wp2_with fail
  refine H.out.mono ?_
  rintro e w1 ⟨v, O, K, rfl, hp⟩
  have HP := Lib.hid hp
  clear hp
  go_wp2_with fail
  go_ret
  exact ⟨v, O, K, rfl, HP.out⟩
def DropPost (w : World) (b m : Nat) (S : List Tm) (peer : ByteArray) (e : Ending) (w' : World) : Prop :=
  ∃ K, e = .returned (.int .i64 ((S.filter (peerF peer)).length : Nat)) ∧ WheelAt w' b m K ∧ K.Perm (S.filter fun x => !peerF peer x) ∧ GrownX (fun i => i = m) w w'
theorem wdrop_any (w : World) (b m : Nat) (peer : ByteArray) (S : List Tm) (h : WheelAt w b m S) : Calls Try.prog 15 #[.pointer (some ⟨b, 0, none⟩), .string peer] w (DropPost w b m S peer) := by
  have hlt := h.lt.2
  have H := Lib.hid (pick_drop _ b m w.heap.size peer 9 S (h.alloc (.cells #[.string peer] 9)) (CellsAt.new w #[.string peer] 9) (by omega))
  clear h
  go_enter Try.func15, Try.ntmps15
  go_wp2_with fail
  refine H.out.mono ?_
  rintro e w1 ⟨v, O, K, rfl, h1, h2, h3, h4, h5, h6⟩
  obtain ⟨A2, c2, rfl⟩ := OwnM.form h5
  have HP := Lib.hid (And.intro h2 (And.intro h3 (And.intro h4 h6)))
  clear h1 h2 h3 h4 h5 h6
  go_wp2_with fail
  go_ret
  obtain ⟨h2, h3, h4, h6⟩ := HP.out
  exact ⟨K, ret_int (by rw [h2.length_eq]), h3, h4, (GrownX.of_below ((Below.refl _ _).alloc (Nat.le_refl _) _)).trans h6⟩
end Go.Proofs.Ytcgegaahdbnacaa
