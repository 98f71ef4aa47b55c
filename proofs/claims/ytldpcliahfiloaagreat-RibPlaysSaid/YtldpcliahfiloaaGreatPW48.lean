/-
  Several texts in one.
-/
import Derived.Test.YtldpcliahfiloaaGreatPW47
set_option linter.unusedVariables false
set_option linter.unusedSimpArgs false
namespace Go.Proofs.YtldpcliahfiloaaGreat
open Go.RowKit Go.MapKept Go.Shelf
open Go.ChangeShapes Go.WideShapes Go.ChangeAt
open Go.Lib hiding intOf
open Go.Sort hiding Below

theorem CellsAt.setO {w : World} {b g o : Nat} {cs : Array Value} {T : TypeId} {u : Value} (h : CellsAt w b cs T) (hne : b ≠ g) : CellsAt (w.setCell ⟨g, o, none⟩ u) b cs T := (Below.heap_setCell w ⟨g, o, none⟩ u b hne).trans h
theorem SpT.header {w : World} {base top j g : Nat} {a : Atr} {s : Sg} (h : SpT w base top a) (ok : s.as_.length ≤ s.cap ∧ s.cap ≤ 9223372036854775807) (hj : a.segs[j]? = some s) (hA : a.pA = some ⟨g, 0, none⟩) :
    ∃ A' m' c', w.cell? ⟨g, j * 2 + 1, none⟩ = some (.slice A' m' c') ∧ m' ≤ c' ∧ c' ≤ 9223372036854775807 ∧ Spot w base top A' (m' * 1) 33 := by
  rcases h.hd j s g hj hA with e | e
  · exact ⟨s.A, s.as_.length, s.cap, e, ok.1, ok.2, h.as_ s (List.mem_of_getElem? hj)⟩
  · exact ⟨none, 0, 0, e, Nat.le_refl _, by decide, ⟨fun hp => absurd hp (by decide)⟩⟩
set_option maxRecDepth 100000 in
set_option maxHeartbeats 16000000 in
theorem spoil22_gen {w : World} {b1 t1 b2 t2 c : Nat} {A : Option Addr} {L : List Td} (h : SpS w w b1 t1 b2 t2 A L 0) (hok : ∀ t ∈ L, AtrOk w t.a) (hlc1 : L.length ≤ c) (hlc2 : c ≤ 9223372036854775807) (hL : L.length ≤ 1000) :
    Calls Tryz.prog 10 #[.slice A L.length c] w fun e w' => e = .returned (.tuple #[]) ∧ GrownX (fun i => (b1 ≤ i ∧ i < t1) ∨ (b2 ≤ i ∧ i < t2)) w w' := by
  have HS0 := Lib.hid h
  have HOK : Hid (∀ t ∈ L, AtrOk w t.a) := hok
  have HT1 := Lib.hid h.top1
  have HT2 := Lib.hid h.top2
  clear h hok
  go_enter Tryz.func10, Tryz.ntmps10
  go_wp2_with fail
  go_loopw [2] (fun i wr => ∃ n : Nat, i = .int .i64 n ∧ n ≤ L.length ∧ Hid (SpS w wr b1 t1 b2 t2 A L n)) (fun i _ => L.length + 1 - (intOf i).toNat)
  case atStart => exact ⟨0, rfl, Nat.zero_le _, HS0.out⟩
  case round =>
    clear HS0
    obtain ⟨wq, hwq⟩ : ∃ x, x = wr := ⟨_, rfl⟩
    subst hwq
    obtain ⟨n, rfl, hn, HS⟩ := hrel
    by_cases hlt : n < L.length
    · as_aux_lemma =>
      obtain ⟨t, ht⟩ : ∃ x, L[n]? = some x := ⟨L[n]'hlt, List.getElem?_eq_getElem _⟩
      obtain ⟨gl, hA, hgb, hgt, hth, hgty⟩ := HS.out.sl.at_ (by decide) hlt
      subst hA
      have HRG := Lib.hid (rows_mid (HS.out.rows n t gl (Nat.le_refl _) ht rfl))
      have HTM := Lib.hid (List.mem_of_getElem? ht)
      have HTA : Hid (AtrOk w t.a) := HOK.out t (List.mem_of_getElem? ht)
      have HGB : Hid (b2 ≤ gl ∧ gl < t2) := ⟨hgb, hgt⟩
      have HN : Hid (∀ cs : Array Value, CellsAt (wq.alloc (.cells cs 41)) wq.heap.size cs 41) := fun cs => CellsAt.new _ _ _
      have HNT := Lib.hid ht
      clear hth hgty hgb hgt ht
      generalize ha : t.a = a at HRG HTA
      have HAE := Lib.hid ha
      clear ha
      have hp1 := HTA.out.plen
      have hp2 : a.pC ≤ 9223372036854775807 := HTA.out.pcap
      have hm1 := HTA.out.mlen
      have hm2 : a.mC ≤ 9223372036854775807 := HTA.out.mcap
      have hk1 := HTA.out.klen
      have hk2 : a.kC ≤ 9223372036854775807 := HTA.out.kcap
      have HSC : Hid (∀ s ∈ a.segs, s.as_.length ≤ s.cap ∧ s.cap ≤ 9223372036854775807) := fun s hs => ⟨(HTA.out.segs s hs).len, (HTA.out.segs s hs).cap⟩
      go_upto_region 4 with (with_reducible show wpList _ _ _ (_ :: _) _ _; first | refine wpList_load_attrs_at rfl (.tmp 17) rfl gl (n * 29 + 6) rfl a HRG.out ?_ | refine wpList_store_attrs_row rfl (.tmp 3) (.tmp 18) rfl wq.heap.size rfl a rfl _ (HN.out _) rfl ?_)
      refine rb_name fun V hV => ?_
      obtain ⟨bx, hbx⟩ : ∃ x, x = wq.heap.size := ⟨_, rfl⟩
      have HVB : Hid (Below wq.heap.size wq V) := by rw [hV]; exact ((Below.refl _ _).alloc (Nat.le_refl _) _).grown (grown_setRow' _ _ _) (by simp) (fun q hq => by cases hq; exact Nat.le_refl _)
      have HC0 : Hid (CellsAt V bx a.ar 41) := by rw [hV, hbx]; exact (HN.out _).setRow' _
      have HSV : Hid (SpS w V b1 t1 b2 t2 (some ⟨gl, 0, none⟩) L n) := HS.out.grow HVB.out
      have HBX : Hid (w.heap.size ≤ bx) := by show _ ≤ _; rw [hbx]; exact HS.out.bel.size
      have HGA : Hid (∀ wz, SpS w wz b1 t1 b2 t2 (some ⟨gl, 0, none⟩) L n → SpT wz b1 t1 a) := fun wz hz => by
        have h := hz.ats t HTM.out
        rwa [HAE.out] at h
      have HATY : Hid (∀ wz g, SpS w wz b1 t1 b2 t2 (some ⟨gl, 0, none⟩) L n → CellsAt wz bx a.ar 41 → g < t1 → bx ≠ g) := fun wz g _ _ hg => by have := HBX.out; have := HT1.out; omega
      try rw [← hbx]
      clear hV hbx HVB HN HRG HS HTA
      try simp only [Act.put]
      obtain ⟨c0, c1, c2, c3, c4, c5, c6, c7, c8, c9, c10, c11, c12, c13, c14, c15⟩ := atr_cells HC0.out
      go_wp2_with fail
      clear c0 c1 c2 c3 c4 c5 c6 c7 c8 c9 c10 c11 c12 c13 c14 c15
      go_loopw [4] (fun i wr => ∃ k : Nat, k ≤ a.comms.length ∧ i = .int .i64 k ∧ Hid (SpS w wr b1 t1 b2 t2 (some ⟨gl, 0, none⟩) L n) ∧ Hid (CellsAt wr bx a.ar 41)) (fun i _ => a.comms.length + 1 - (intOf i).toNat)
      case atStart => exact ⟨0, by omega, rfl, HSV.out, HC0.out⟩
      case round =>
        clear HSV HC0
        obtain ⟨k, hk, rfl, HS, HC⟩ := hrel
        obtain ⟨c0, c1, c2, c3, c4, c5, c6, c7, c8, c9, c10, c11, c12, c13, c14, c15⟩ := atr_cells HC.out
        by_cases hlt2 : k < a.comms.length
        · obtain ⟨g, hA, hb1, hb2, hth, hty⟩ := (HGA.out _ HS.out).m.at_ (by decide) hlt2
          have HGB2 := Lib.hid hb1
          have HGT2 := Lib.hid hb2
          have HTY := Lib.hid hty
          rw [hA] at c10
          clear hA hb1 hb2 hty
          obtain ⟨v0, hv0, hf0⟩ := there_one hth
          clear hth
          go_wp2_with fail
          exact ⟨⟨k + 1, by omega, by go_num, HS.out.set32 HTY.out ⟨HGB2.out, HGT2.out⟩, HC.out.setO (HATY.out _ _ HS.out HC.out HGT2.out)⟩, by simp [intOf]; omega⟩
        · go_wp2_with fail
          clear hlt2 hk c0 c1 c2 c3 c4 c5 c6 c7 c8 c9 c10 c11 c12 c13 c14 c15
          go_loopw [5] (fun i wr => ∃ k : Nat, k ≤ a.segs.length ∧ i = .int .i64 k ∧ Hid (SpS w wr b1 t1 b2 t2 (some ⟨gl, 0, none⟩) L n) ∧ Hid (CellsAt wr bx a.ar 41)) (fun i _ => a.segs.length + 1 - (intOf i).toNat)
          case atStart => exact ⟨0, by omega, rfl, HS.out, HC.out⟩
          case round =>
            clear HS HC
            obtain ⟨k, hk, rfl, HS, HC⟩ := hrel
            obtain ⟨c0, c1, c2, c3, c4, c5, c6, c7, c8, c9, c10, c11, c12, c13, c14, c15⟩ := atr_cells HC.out
            by_cases hlt2 : k < a.segs.length
            · obtain ⟨s, hs⟩ : ∃ s, a.segs[k]? = some s := ⟨a.segs[k], List.getElem?_eq_getElem hlt2⟩
              obtain ⟨g0, hA0, hg1, hg2, hth0, hty0⟩ := (HGA.out _ HS.out).p.at_ (by decide) hlt2
              obtain ⟨A', m', cc', q0, hmc, hcm, hsp⟩ := (HGA.out _ HS.out).header (HSC.out s (List.mem_of_getElem? hs)) hs hA0
              have HA0 := Lib.hid hA0
              have HG1 := Lib.hid hg1
              have HG2 := Lib.hid hg2
              have HSP := Lib.hid hsp
              have HQ0 := Lib.hid q0
              rw [hA0] at c1
              clear hA0 hg1 hg2 hth0 hty0 hsp hs
              go_wp2_with fail
              clear c0 c1 c2 c3 c4 c5 c6 c7 c8 c9 c10 c11 c12 c13 c14 c15 q0
              go_loopw [6] (fun i wz => ∃ j : Nat, j ≤ m' ∧ i = .int .i64 j ∧ Hid (SpS w wz b1 t1 b2 t2 (some ⟨gl, 0, none⟩) L n) ∧ Hid (CellsAt wz bx a.ar 41) ∧ Hid (Spot wz b1 t1 A' (m' * 1) 33) ∧ Hid (wz.cell? ⟨g0, k * 2 + 1, none⟩ = some (.slice A' m' cc'))) (fun i _ => m' + 1 - (intOf i).toNat)
              case atStart => exact ⟨0, by omega, rfl, HS.out, HC.out, HSP.out, HQ0.out⟩
              case round =>
                clear HS HC HSP HQ0
                obtain ⟨j, hj, rfl, HS, HC, HSP, HQ0⟩ := hrel
                obtain ⟨c0, c1, c2, c3, c4, c5, c6, c7, c8, c9, c10, c11, c12, c13, c14, c15⟩ := atr_cells HC.out
                rw [HA0.out] at c1
                have q0 := HQ0.out
                obtain ⟨g00, hA00, _, _, hth0, hty0⟩ := (HGA.out _ HS.out).p.at_ (by decide) hlt2
                have e0 : g00 = g0 := by
                  rw [HA0.out] at hA00
                  injection hA00 with e
                  injection e with e _ _
                  exact e.symm
                subst e0
                have HTY0 := Lib.hid hty0
                have HTH0 := Lib.hid hth0
                clear hA00 hth0 hty0
                by_cases hlt3 : j < m'
                · obtain ⟨g, hA, hb1, hb2, hth, hty⟩ := HSP.out.at_ (by decide) hlt3
                  obtain ⟨v0, hv0, hf0⟩ := there_one hth
                  have hne : g00 ≠ g := typ_ne HTY0.out hty (by decide)
                  have HNE := Lib.hid hne
                  have HGB2 := Lib.hid hb1
                  have HGT2 := Lib.hid hb2
                  have HTY := Lib.hid hty
                  have HAA := Lib.hid hA
                  rw [hA] at q0
                  clear hA hb1 hb2 hth hty hne
                  go_wp2_with fail
                  refine ⟨⟨j + 1, by omega, by go_num, HS.out.set32 HTY.out ⟨HGB2.out, HGT2.out⟩, HC.out.setO (HATY.out _ _ HS.out HC.out HGT2.out), HSP.out.setCell, ?_⟩, by simp [intOf]; omega⟩
                  show _ = _
                  rw [World.cell?_setCell_other _ _ _ _ (by intro e; injection e with e _ _; exact HNE.out e.symm)]
                  exact HQ0.out
                · obtain rfl : j = m' := by omega
                  have HTH : Hid (wr.there g00 (k * 2) (#[Value.int .i64 0, .slice none 0 0] : Array Value).size) := HTH0.out
                  have HNB : Hid (bx ≠ g00) := HATY.out _ _ HS.out HC.out HG2.out
                  go_wp2_with (with_reducible show wpList _ _ _ (_ :: _) _ _; refine wpList_store_mid rfl 88 (.tmp 60) (.tmp 59) rfl g00 (k * 2) #[.int .i64 0, .slice none 0 0] rfl rfl HTH.out (by kernel_rfl) (by kernel_rfl) ?_)
                  go_wp2_with fail
                  exact ⟨⟨k + 1, by omega, by go_num, HS.out.setSeg HTH0.out HTY0.out ⟨HG1.out, HG2.out⟩, HC.out.setCells' HNB.out⟩, by simp [intOf]; omega⟩
            · go_wp2_with fail
              clear hlt2 hk c0 c1 c2 c3 c4 c5 c6 c7 c8 c9 c10 c11 c12 c13 c14 c15
              go_loopw [7] (fun i wr => ∃ k : Nat, k ≤ a.clus.length ∧ i = .int .i64 k ∧ Hid (SpS w wr b1 t1 b2 t2 (some ⟨gl, 0, none⟩) L n) ∧ Hid (CellsAt wr bx a.ar 41)) (fun i _ => a.clus.length + 1 - (intOf i).toNat)
              case atStart => exact ⟨0, by omega, rfl, HS.out, HC.out⟩
              case round =>
                clear HS HC
                obtain ⟨k, hk, rfl, HS, HC⟩ := hrel
                obtain ⟨c0, c1, c2, c3, c4, c5, c6, c7, c8, c9, c10, c11, c12, c13, c14, c15⟩ := atr_cells HC.out
                by_cases hlt2 : k < a.clus.length
                · obtain ⟨g, hA, hb1, hb2, hth, hty⟩ := (HGA.out _ HS.out).k.at_ (by decide) hlt2
                  have HGB2 := Lib.hid hb1
                  have HGT2 := Lib.hid hb2
                  have HTY := Lib.hid hty
                  rw [hA] at c15
                  clear hA hb1 hb2 hty
                  obtain ⟨v0, hv0, hf0⟩ := there_one hth
                  clear hth
                  go_wp2_with fail
                  exact ⟨⟨k + 1, by omega, by go_num, HS.out.set32 HTY.out ⟨HGB2.out, HGT2.out⟩, HC.out.setO (HATY.out _ _ HS.out HC.out HGT2.out)⟩, by simp [intOf]; omega⟩
                · obtain ⟨_, hA, _, _, hth, hty⟩ := HS.out.sl.at_ (by decide) hlt
                  injection hA with hA
                  injection hA with hA _ _
                  subst hA
                  have HTH : Hid (wr.there gl (n * 29) (pathAr noPk 0 noAtr false).size) := hth
                  have HTY := Lib.hid hty
                  clear hth hty c0 c1 c2 c3 c4 c5 c6 c7 c8 c9 c10 c11 c12 c13 c14
                  go_wp2_with (with_reducible show wpList _ _ _ (_ :: _) _ _; refine wpList_store_mid rfl 64 (.tmp 75) (.tmp 74) rfl gl (n * 29) (pathAr noPk 0 noAtr false) rfl rfl HTH.out (by as_aux_lemma => kernel_rfl) (path_ones _ _ _ _) ?_)
                  go_wp2_with fail
                  exact ⟨⟨n + 1, by go_num, by omega, HS.out.setPath rfl HTY.out HGB.out⟩, by simp [intOf]; omega⟩
    · have hnL : n = L.length := by omega
      subst hnL
      go_wp2_with fail
      go_end0
      exact ⟨rfl, HS.out.bel⟩
theorem spoil22_any {w : World} {base c : Nat} {A : Option Addr} {L : List Td} (h : PhsAt w base (.slice A L.length c) L) (hb : base ≤ w.heap.size) (hL : L.length ≤ 1000) :
    Calls Tryz.prog 10 #[.slice A L.length c] w fun e w' => e = .returned (.tuple #[]) ∧ Below base w w' := by
  have hlc : L.length ≤ c ∧ c ≤ 9223372036854775807 := by
    obtain ⟨A2, c2, hv, _, h1, h2⟩ := OwnL.rd paF_len (show OwnL w base _ 29 paF _ L from h.own)
    injection hv with e1 e2 e3
    subst e3
    exact ⟨h1, h2⟩
  refine (spoil22_gen (SpS.start h) (fun t ht => (h.at_ t ht).ok) hlc.1 hlc.2 hL).mono ?_
  rintro e w' ⟨h1, h2⟩
  exact ⟨h1, h2.below (Below.refl base w) (fun i hi => by rcases hi with hi | hi <;> exact hi.1) hb⟩
end Go.Proofs.YtldpcliahfiloaaGreat
