/-
  Several texts in one.
-/
import Derived.Test.YtojiieghjhjoaaaGreatAT49
set_option linter.unusedVariables false
set_option linter.unusedSimpArgs false
namespace Go.Proofs.YtojiieghjhjoaaaGreat
open Go.RowKit Go.MapKept Go.Shelf
open Go.Lib hiding intOf

theorem cell_heap {w w' : World} {g i : Nat} (h : w'.heap[g]? = w.heap[g]?) : w'.cell? ⟨g, i, none⟩ = w.cell? ⟨g, i, none⟩ := by
  simp only [World.cell?, h]
/-- what spoil has in hand: hi is above all that is the attributes' own -/
structure SpX (w0 w : World) (base hi : Nat) (a : Atr) : Prop where
  box : CellsAt w w0.heap.size a.ar 33
  bel : GrownX (fun b => base ≤ b ∧ b < hi) w0 w
  p : Spot w base hi a.pA (a.segs.length * 2) 67
  as_ : ∀ s ∈ a.segs, Spot w base hi s.A (s.as_.length * 1) 22
  m : Spot w base hi a.mA (a.comms.length * 1) 22
  x : Spot w base hi a.xA (a.exts.length * 1) 25
  l : Spot w base hi a.lA (a.larges.length * 3) 81
  k : Spot w base hi a.kA (a.clus.length * 1) 22
  le : hi ≤ w0.heap.size
theorem SpX.setCell {w0 w : World} {base hi g i : Nat} {a : Atr} {u : Value} (h : SpX w0 w base hi a) (h1 : base ≤ g) (h2 : g < hi) : SpX w0 (w.setCell ⟨g, i, none⟩ u) base hi a :=
  have hl := h.le
  ⟨(Below.heap_setCell w ⟨g, i, none⟩ u _ (by show w0.heap.size ≠ g; omega)).trans h.box, h.bel.trans (GrownX.of_row (grown_setCell w ⟨g, i, none⟩ u) ⟨h1, h2⟩), h.p.setCell, fun s hs => (h.as_ s hs).setCell, h.m.setCell, h.x.setCell, h.l.setCell, h.k.setCell, h.le⟩
theorem SpX.setCells {w0 w : World} {base hi g i : Nat} {a : Atr} {vs : List Value} (h : SpX w0 w base hi a) (h1 : base ≤ g) (h2 : g < hi) : SpX w0 (w.setCells g i vs) base hi a :=
  have hl := h.le
  ⟨((grown_setCells g vs i w).block _ h.box.lt (fun e => by injection e with e; omega)).trans h.box, h.bel.trans (GrownX.of_row (grown_setCells g vs i w) ⟨h1, h2⟩), h.p.setCells, fun s hs => (h.as_ s hs).setCells, h.m.setCells, h.x.setCells, h.l.setCells, h.k.setCells, h.le⟩
set_option maxRecDepth 100000 in
set_option maxHeartbeats 16000000 in
theorem spoil28_in (a : Atr) (base : Nat) (w0 w : World) (h : AtO w0 base a) (hsame : ∀ i, base ≤ i → i < w0.heap.size → w.heap[i]? = w0.heap[i]?) (hle : w0.heap.size ≤ w.heap.size) :
    Calls Tryz.prog 20 #[.agg a.ar] w fun e w' => e = .returned (.tuple #[]) ∧ GrownX (fun b => base ≤ b ∧ b < w0.heap.size) w w' := by
  have ok := h.ok
  have hp1 := ok.plen
  have hp2 : a.pC ≤ 9223372036854775807 := ok.pcap
  have hm1 := ok.mlen
  have hm2 : a.mC ≤ 9223372036854775807 := ok.mcap
  have hx1 := ok.xlen
  have hx2 : a.xC ≤ 9223372036854775807 := ok.xcap
  have hl1 := ok.llen
  have hl2 : a.lC ≤ 9223372036854775807 := ok.lcap
  have hk1 := ok.klen
  have hk2 : a.kC ≤ 9223372036854775807 := ok.kcap
  have HSC : Hid (∀ s ∈ a.segs, s.as_.length ≤ s.cap ∧ s.cap ≤ 9223372036854775807) := fun s hs => ⟨(ok.segs s hs).len, (ok.segs s hs).cap⟩
  have hown : OwnM w0 base 67 2 (.slice a.pA a.segs.length a.pC) a.segs.length (a.segs.flatMap Sg.cs) := h.path.own
  have HS0 : Hid (SpX w (w.alloc (.cells a.ar 33)) base w0.heap.size a) := by
    have ha : Below w.heap.size w (w.alloc (.cells a.ar 33)) := (Below.refl _ _).alloc (Nat.le_refl _) _
    have keep : ∀ {A : Option Addr} {m : Nat} {T : TypeId}, Spot w0 base w0.heap.size A m T → Spot (w.alloc (.cells a.ar 33)) base w0.heap.size A m T := fun hs => ⟨fun hp => by
      obtain ⟨g, g1, g2, g3, g4, cur, fr, g5⟩ := hs.x hp
      have hblk := (ha.block g (by omega)).trans (hsame g g2 g3)
      refine ⟨g, g1, g2, g3, fun j hj => ?_, cur, fr, hblk.trans g5⟩
      have h4 := g4 j hj
      refine ⟨by rw [cell_heap hblk]; exact h4.1, ?_⟩
      have h5 := h4.2
      simp only [World.frozen?] at h5 ⊢
      rw [hblk]
      exact h5⟩
    exact ⟨CellsAt.new _ _ _, GrownX.of_below ha, keep (Spot.of_own hown (Nat.le_refl _)), fun s hs => keep (Spot.of_own (h.path.as_ s hs).1 (Nat.le_refl _)), keep (Spot.of_own h.comms (Nat.le_refl _)), keep (Spot.of_own h.exts (Nat.le_refl _)), keep (Spot.of_own h.larges (Nat.le_refl _)), keep (Spot.of_own h.clus (Nat.le_refl _)), hle⟩
  have HH0 : Hid (Heads (w.alloc (.cells a.ar 33)) a 0) := fun j s g _ hj hg => by
    have hjl : j < a.segs.length := (List.getElem?_eq_some_iff.1 hj).1
    obtain ⟨g2, cap, hv, hb, hgl, _, _, hcell, _⟩ := OwnM.cells hown (by omega)
    injection hv with e1 e2 e3
    rw [hg] at e1
    injection e1 with e1
    injection e1 with e1 _ _
    subst e1
    have h1 := hcell (j * 2 + 1) _ (flat_at Sg.cs_len a.segs j s 1 (.slice s.A s.as_.length s.cap) hj rfl)
    exact (cell_heap ((((Below.refl w.heap.size w).alloc (Nat.le_refl _) _).block g (by omega)).trans (hsame g hb hgl))).trans h1
  clear ok hown h hsame
  generalize hV : w.alloc (.cells a.ar 33) = V at HS0 HH0
  have HV := Lib.hid hV
  clear hV
  go_enter Tryz.func20, Tryz.ntmps20
  go_upto_region 1 with fail
  change Code.wp _ _ _ _ (w.alloc (.cells a.ar 33))
  rw [HV.out]
  clear HV
  go_wp2_with fail
  go_loopw [2] (fun i wr => ∃ k : Nat, k ≤ a.segs.length ∧ i = .int .i64 k ∧ Hid (SpX w wr base w0.heap.size a) ∧ Hid (Heads wr a k)) (fun i _ => a.segs.length + 1 - (intOf i).toNat)
  case atStart => exact ⟨0, by omega, rfl, HS0.out, HH0.out⟩
  case round =>
    clear HS0 HH0
    obtain ⟨k, hk, rfl, HS, HH⟩ := hrel
    obtain ⟨c0, c1, c2, c3, c4, c5, c6, c7, c8, c9, c10, c11, c12, c13, c14, c15⟩ := atr_cells HS.out.box
    by_cases hlt : k < a.segs.length
    · obtain ⟨s, hs⟩ : ∃ s, a.segs[k]? = some s := ⟨a.segs[k], List.getElem?_eq_getElem hlt⟩
      have hmem := List.mem_of_getElem? hs
      obtain ⟨hc1, hc2⟩ := HSC.out s hmem
      have HMEM := Lib.hid hmem
      have HSK := Lib.hid hs
      obtain ⟨g0, hA0, hg1, hg2, _, _⟩ := HS.out.p.at_ (by decide) hlt
      have HA0 := Lib.hid hA0
      have q0 := HH.out k s g0 (Nat.le_refl _) hs hA0
      clear hmem hs
      rw [hA0] at c1
      clear hA0
      go_wp2_with fail
      clear c0 c1 c2 c3 c4 c5 c6 c7 c8 c9 c10 c11 c12 c13 c14 c15 q0
      go_loopw [3] (fun i wz => ∃ j : Nat, j ≤ s.as_.length ∧ i = .int .i64 j ∧ Hid (SpX w wz base w0.heap.size a) ∧ Hid (Heads wz a k)) (fun i _ => s.as_.length + 1 - (intOf i).toNat)
      case atStart => exact ⟨0, by omega, rfl, HS.out, HH.out⟩
      case round =>
        clear HS HH
        obtain ⟨j, hj, rfl, HS, HH⟩ := hrel
        obtain ⟨c0, c1, c2, c3, c4, c5, c6, c7, c8, c9, c10, c11, c12, c13, c14, c15⟩ := atr_cells HS.out.box
        rw [HA0.out] at c1
        have q0 := HH.out k s g0 (Nat.le_refl _) HSK.out HA0.out
        by_cases hlt2 : j < s.as_.length
        · obtain ⟨g, hA, hb1, hb2, hth, hty⟩ := (HS.out.as_ s HMEM.out).at_ (by decide) hlt2
          obtain ⟨v0, hv0, hf0⟩ := there_one hth
          obtain ⟨g00, hA00, _, _, _, hty0⟩ := HS.out.p.at_ (by decide) hlt
          have hne : g0 ≠ g := by
            rw [HA0.out] at hA00
            injection hA00 with e
            injection e with e _ _
            subst e
            intro e
            subst e
            obtain ⟨cur, fr, h1⟩ := hty
            obtain ⟨cur2, fr2, h2⟩ := hty0
            rw [h1] at h2
            injection h2 with h2
            injection h2 with _ h2
            exact absurd h2 (by decide)
          have HNE := Lib.hid hne
          have HGB := Lib.hid hb1
          have HGT := Lib.hid hb2
          rw [hA] at q0
          clear hA hb1 hb2 hth hty hA00 hty0 hne
          go_wp2_with fail
          refine ⟨⟨j + 1, by omega, by go_num, HS.out.setCell HGB.out HGT.out, fun j2 s2 g2 h1 h2 h3 => ?_⟩, by simp [intOf]; omega⟩
          rw [HA0.out] at h3
          injection h3 with h3
          injection h3 with h3 _ _
          subst h3
          rw [World.cell?_setCell_other _ _ _ _ (by intro e; injection e with e _ _; exact HNE.out e.symm)]
          exact HH.out j2 s2 g0 h1 h2 HA0.out
        · obtain rfl : j = s.as_.length := by omega
          obtain ⟨g00, hA00, hgb, hgt, hth, _⟩ := HS.out.p.at_ (by decide) hlt
          have e0 : g00 = g0 := by
            rw [HA0.out] at hA00
            injection hA00 with e
            injection e with e _ _
            exact e.symm
          subst e0
          have HTH : Hid (wr.there g00 (k * 2) (#[Value.int .i64 0, .slice none 0 0] : Array Value).size) := hth
          have HGB := Lib.hid hgb
          have HGT := Lib.hid hgt
          clear hth hA00 hgb hgt
          go_wp2_with (with_reducible show wpList _ _ _ (_ :: _) _ _; refine wpList_store_mid rfl 67 (.tmp 37) (.tmp 36) rfl g00 (k * 2) #[.int .i64 0, .slice none 0 0] rfl rfl HTH.out (by kernel_rfl) (by kernel_rfl) ?_)

          go_wp2_with fail
          refine ⟨⟨k + 1, by omega, by go_num, HS.out.setCells HGB.out HGT.out, fun j2 s2 g2 h1 h2 h3 => ?_⟩, by simp [intOf]; omega⟩
          rw [HA0.out] at h3
          injection h3 with h3
          injection h3 with h3 _ _
          subst h3
          rw [World.cell?_setCells_out g00 [.int .i64 0, .slice none 0 0] (k * 2) wr ⟨g00, j2 * 2 + 1, none⟩ (fun _ _ => .inr (by show k * 2 + 2 ≤ j2 * 2 + 1; omega))]
          exact HH.out j2 s2 g00 (by omega) h2 HA0.out
    · go_wp2_with fail
      clear hlt hk HH c0 c1 c2 c3 c4 c5 c6 c7 c8 c9 c10 c11 c12 c13 c14 c15
      go_loopw [4] (fun i wr => ∃ k : Nat, k ≤ a.comms.length ∧ i = .int .i64 k ∧ Hid (SpX w wr base w0.heap.size a)) (fun i _ => a.comms.length + 1 - (intOf i).toNat)
      case atStart => exact ⟨0, by omega, rfl, HS.out⟩
      case round =>
        clear HS
        obtain ⟨k, hk, rfl, HS⟩ := hrel
        obtain ⟨c0, c1, c2, c3, c4, c5, c6, c7, c8, c9, c10, c11, c12, c13, c14, c15⟩ := atr_cells HS.out.box
        by_cases hlt : k < a.comms.length
        · obtain ⟨g, hA, hb1, hb2, hth, hty⟩ := HS.out.m.at_ (by decide) hlt
          have HGB := Lib.hid hb1
          have HGT := Lib.hid hb2
          rw [hA] at c10
          clear hA hb1 hb2 hty
          obtain ⟨v0, hv0, hf0⟩ := there_one hth
          clear hth
          go_wp2_with fail
          exact ⟨⟨k + 1, by omega, by go_num, HS.out.setCell HGB.out HGT.out⟩, by simp [intOf]; omega⟩
        · go_wp2_with fail
          clear hlt hk c0 c1 c2 c3 c4 c5 c6 c7 c8 c9 c10 c11 c12 c13 c14 c15
          go_loopw [5] (fun i wr => ∃ k : Nat, k ≤ a.clus.length ∧ i = .int .i64 k ∧ Hid (SpX w wr base w0.heap.size a)) (fun i _ => a.clus.length + 1 - (intOf i).toNat)
          case atStart => exact ⟨0, by omega, rfl, HS.out⟩
          case round =>
            clear HS
            obtain ⟨k, hk, rfl, HS⟩ := hrel
            obtain ⟨c0, c1, c2, c3, c4, c5, c6, c7, c8, c9, c10, c11, c12, c13, c14, c15⟩ := atr_cells HS.out.box
            by_cases hlt : k < a.clus.length
            · obtain ⟨g, hA, hb1, hb2, hth, hty⟩ := HS.out.k.at_ (by decide) hlt
              have HGB := Lib.hid hb1
              have HGT := Lib.hid hb2
              rw [hA] at c15
              clear hA hb1 hb2 hty
              obtain ⟨v0, hv0, hf0⟩ := there_one hth
              clear hth
              go_wp2_with fail
              exact ⟨⟨k + 1, by omega, by go_num, HS.out.setCell HGB.out HGT.out⟩, by simp [intOf]; omega⟩
            · go_wp2_with fail
              clear hlt hk c0 c1 c2 c3 c4 c5 c6 c7 c8 c9 c10 c11 c12 c13 c14 c15
              go_loopw [6] (fun i wr => ∃ k : Nat, k ≤ a.exts.length ∧ i = .int .i64 k ∧ Hid (SpX w wr base w0.heap.size a)) (fun i _ => a.exts.length + 1 - (intOf i).toNat)
              case atStart => exact ⟨0, by omega, rfl, HS.out⟩
              case round =>
                clear HS
                obtain ⟨k, hk, rfl, HS⟩ := hrel
                obtain ⟨c0, c1, c2, c3, c4, c5, c6, c7, c8, c9, c10, c11, c12, c13, c14, c15⟩ := atr_cells HS.out.box
                by_cases hlt : k < a.exts.length
                · obtain ⟨g, hA, hb1, hb2, hth, hty⟩ := HS.out.x.at_ (by decide) hlt
                  have HGB := Lib.hid hb1
                  have HGT := Lib.hid hb2
                  rw [hA] at c11
                  clear hA hb1 hb2 hty
                  obtain ⟨v0, hv0, hf0⟩ := there_one hth
                  clear hth
                  go_wp2_with fail
                  exact ⟨⟨k + 1, by omega, by go_num, HS.out.setCell HGB.out HGT.out⟩, by simp [intOf]; omega⟩
                · go_wp2_with fail
                  go_end0
                  exact ⟨rfl, HS.out.bel⟩
end Go.Proofs.YtojiieghjhjoaaaGreat
