/-
  Paths of small numbers: of walked. Conditions: sizes.
-/
import Derived.Test.YtoamigfjpcniaaaDeR
set_option linter.unusedVariables false
set_option linter.unusedSimpArgs false
namespace Go.Proofs.Ytoamigfjpcniaaa
open Go.RowKit Go.MapKept Go.Shelf
open Go.Lib hiding intOf

theorem of_done {w V : World} {x : Spt} {at_ b sb : Nat} {A C : Option Addr} {c e : Nat} (M : Made w V x b (ofP x at_ (some ⟨sb, 0, none⟩) A C 1 c e)) (hb : w.heap.size + 1 < b) (hsb : b < sb) (HC : CellsAt V sb #[.int .i64 2, .slice A (asS x (x.long % 3)).length c] 84)
    (HU : U32Own V (b + 1) (.slice A (asS x (x.long % 3)).length c) (asS x (x.long % 3))) (HN : U32Own V (sb + 1) (.slice C (sv (x.clus % 3)).length e) (sv (x.clus % 3))) (h9 : w.heap.size + 1 ≠ sb) :
    ∃ A' B' C' c' d' e', Ending.returned (ofP x at_ (some ⟨sb, 0, none⟩) A C 1 c e).v = .returned (.agg (ofP x at_ A' B' C' c' d' e').cs) ∧ PtOk (V.setRow (w.heap.size + 1) (ofP x at_ (some ⟨sb, 0, none⟩) A C 1 c e).cs) (ofP x at_ A' B' C' c' d' e') ∧ (∀ g, PtBl (ofP x at_ A' B' C' c' d' e') g → w.heap.size ≤ g) ∧ Below w.heap.size w (V.setRow (w.heap.size + 1) (ofP x at_ (some ⟨sb, 0, none⟩) A C 1 c e).cs) := by
  have HC2 : CellsAt (V.setRow (w.heap.size + 1) (ofP x at_ (some ⟨sb, 0, none⟩) A C 1 c e).cs) sb #[.int .i64 2, .slice A (asS x (x.long % 3)).length c] 84 := (setRow_other _ _ _ _ (by omega)).trans HC
  have HU2 : U32Own (V.setRow (w.heap.size + 1) (ofP x at_ (some ⟨sb, 0, none⟩) A C 1 c e).cs) (b + 1) (.slice A (asS x (x.long % 3)).length c) (asS x (x.long % 3)) := OwnM.keep HU (fun g hg => setRow_other _ _ _ _ (by have := (OwnM.lt HU g hg).1; omega))
  have HN2 : U32Own (V.setRow (w.heap.size + 1) (ofP x at_ (some ⟨sb, 0, none⟩) A C 1 c e).cs) (sb + 1) (.slice C (sv (x.clus % 3)).length e) (sv (x.clus % 3)) := OwnM.keep HN (fun g hg => setRow_other _ _ _ _ (by have := (OwnM.lt HN g hg).1; omega))
  obtain ⟨A3, c3, hv3, r3, l3, m3⟩ := HU2.sg
  simp only [Value.slice.injEq, true_and] at hv3
  obtain ⟨rfl, rfl⟩ := hv3
  obtain ⟨A4, c4, hv4, r4, l4, m4⟩ := HN2.sg
  simp only [Value.slice.injEq, true_and] at hv4
  obtain ⟨rfl, rfl⟩ := hv4
  rw [sv_len] at l4
  refine ⟨some ⟨sb, 0, none⟩, A, C, 1, c, e, rfl, of_ok (fun _ => ⟨sb, 0, rfl, HC2.lt, fun i cs hi j u hu => ?_⟩) (Nat.le_refl _) (by decide) r3 l3 m3 r4 l4 m4, fun g hg => ?_, Go.below_setRow M.below (by omega) _⟩
  · match i, hi with
    | 0, hi =>
      obtain rfl : [Value.int .i64 2, .slice A (asS x (x.long % 3)).length c] = cs := Option.some.inj hi
      rw [show 0 + 0 * 2 + j = j by omega, HC2.c, ← Array.getElem?_toList]
      exact hu
    | i + 1, hi => cases hi
  · rcases hg with ⟨hl, off, hA⟩ | ⟨s, hs, hl, off, hA⟩ | ⟨hl, off, hA⟩
    · have hA2 : some (⟨sb, 0, none⟩ : Addr) = some ⟨g, off, none⟩ := hA
      simp only [Option.some.injEq, Addr.mk.injEq] at hA2
      omega
    · have hs2 : s = ⟨2, A, asS x (x.long % 3), c⟩ := List.mem_singleton.1 hs
      subst hs2
      have hA2 : A = some ⟨g, off, none⟩ := hA
      have := (OwnM.lt HU2 g (by rw [hA2]; rfl)).1
      omega
    · have hA2 : C = some ⟨g, off, none⟩ := hA
      have := (OwnM.lt HN2 g (by rw [hA2]; rfl)).1
      omega
set_option maxRecDepth 100000 in
set_option maxHeartbeats 4000000 in
theorem of_any (x : Spt) (at_ : Nat) (w : World) (hat : at_ < 10) (hx : x.Ok) :
    Calls Try.prog 32 #[x.v, .int .i64 at_] w fun e w' => ∃ A B C c d e', e = .returned (.agg (ofP x at_ A B C c d e').cs) ∧ PtOk w' (ofP x at_ A B C c d e') ∧ (∀ g, PtBl (ofP x at_ A B C c d e') g → w.heap.size ≤ g) ∧ Below w.heap.size w w' := by
  obtain ⟨h1, h2, h3, h4, h5, h6, h7, h8, h9⟩ := hx
  have hsz0 : ((w.alloc (.cells #[.int .u8 (x.pref : Nat), .int .u8 (x.long : Nat), .int .u8 (x.origin : Nat), .int .u8 (x.med : Nat), .int .u8 (x.as_ : Nat), .int .u8 (x.kind : Nat), .int .u8 (x.cost : Nat), .int .u8 (x.id : Nat), .int .u8 (x.clus : Nat)] 75)).alloc (.cells zeroPt 38)).heap.size = w.heap.size + 2 := by simp
  have HC0 : Hid (CellsAt (((w.alloc (.cells #[.int .u8 (x.pref : Nat), .int .u8 (x.long : Nat), .int .u8 (x.origin : Nat), .int .u8 (x.med : Nat), .int .u8 (x.as_ : Nat), .int .u8 (x.kind : Nat), .int .u8 (x.cost : Nat), .int .u8 (x.id : Nat), .int .u8 (x.clus : Nat)] 75)).alloc (.cells zeroPt 38)).alloc (.cells #[.int .u8 10, .int .u8 0, .int .u8 0, .int .u8 ((x.cost : Int) % 4)] 5)) w.heap.size #[.int .u8 (x.pref : Nat), .int .u8 (x.long : Nat), .int .u8 (x.origin : Nat), .int .u8 (x.med : Nat), .int .u8 (x.as_ : Nat), .int .u8 (x.kind : Nat), .int .u8 (x.cost : Nat), .int .u8 (x.id : Nat), .int .u8 (x.clus : Nat)] 75) := ((CellsAt.new _ _ _).alloc _).alloc _
  have HC1 : Hid (CellsAt (((w.alloc (.cells #[.int .u8 (x.pref : Nat), .int .u8 (x.long : Nat), .int .u8 (x.origin : Nat), .int .u8 (x.med : Nat), .int .u8 (x.as_ : Nat), .int .u8 (x.kind : Nat), .int .u8 (x.cost : Nat), .int .u8 (x.id : Nat), .int .u8 (x.clus : Nat)] 75)).alloc (.cells zeroPt 38)).alloc (.cells #[.int .u8 10, .int .u8 0, .int .u8 0, .int .u8 ((x.cost : Int) % 4)] 5)) (w.heap.size + 1) zeroPt 38) := by
    have h := CellsAt.new (w.alloc (.cells #[.int .u8 (x.pref : Nat), .int .u8 (x.long : Nat), .int .u8 (x.origin : Nat), .int .u8 (x.med : Nat), .int .u8 (x.as_ : Nat), .int .u8 (x.kind : Nat), .int .u8 (x.cost : Nat), .int .u8 (x.id : Nat), .int .u8 (x.clus : Nat)] 75)) zeroPt 38
    rw [show (w.alloc (.cells #[.int .u8 (x.pref : Nat), .int .u8 (x.long : Nat), .int .u8 (x.origin : Nat), .int .u8 (x.med : Nat), .int .u8 (x.as_ : Nat), .int .u8 (x.kind : Nat), .int .u8 (x.cost : Nat), .int .u8 (x.id : Nat), .int .u8 (x.clus : Nat)] 75)).heap.size = w.heap.size + 1 by simp] at h
    exact h.alloc _
  have HC2 : Hid (CellsAt (((w.alloc (.cells #[.int .u8 (x.pref : Nat), .int .u8 (x.long : Nat), .int .u8 (x.origin : Nat), .int .u8 (x.med : Nat), .int .u8 (x.as_ : Nat), .int .u8 (x.kind : Nat), .int .u8 (x.cost : Nat), .int .u8 (x.id : Nat), .int .u8 (x.clus : Nat)] 75)).alloc (.cells zeroPt 38)).alloc (.cells #[.int .u8 10, .int .u8 0, .int .u8 0, .int .u8 ((x.cost : Int) % 4)] 5)) (w.heap.size + 1 + 1) #[.int .u8 10, .int .u8 0, .int .u8 0, .int .u8 ((x.cost % 4 : Nat) : Int)] 5) := by
    have h := CellsAt.new ((w.alloc (.cells #[.int .u8 (x.pref : Nat), .int .u8 (x.long : Nat), .int .u8 (x.origin : Nat), .int .u8 (x.med : Nat), .int .u8 (x.as_ : Nat), .int .u8 (x.kind : Nat), .int .u8 (x.cost : Nat), .int .u8 (x.id : Nat), .int .u8 (x.clus : Nat)] 75)).alloc (.cells zeroPt 38)) #[.int .u8 10, .int .u8 0, .int .u8 0, .int .u8 ((x.cost : Int) % 4)] 5
    rw [hsz0] at h
    exact h
  have HCV : Hid ((convert 93 9 (.slice (some ⟨w.heap.size + 1 + 1, 0, none⟩) 4 4)).run Try.prog (((w.alloc (.cells #[.int .u8 (x.pref : Nat), .int .u8 (x.long : Nat), .int .u8 (x.origin : Nat), .int .u8 (x.med : Nat), .int .u8 (x.as_ : Nat), .int .u8 (x.kind : Nat), .int .u8 (x.cost : Nat), .int .u8 (x.id : Nat), .int .u8 (x.clus : Nat)] 75)).alloc (.cells zeroPt 38)).alloc (.cells #[.int .u8 10, .int .u8 0, .int .u8 0, .int .u8 ((x.cost : Int) % 4)] 5)) = .ok (.string (hopS x)) (((w.alloc (.cells #[.int .u8 (x.pref : Nat), .int .u8 (x.long : Nat), .int .u8 (x.origin : Nat), .int .u8 (x.med : Nat), .int .u8 (x.as_ : Nat), .int .u8 (x.kind : Nat), .int .u8 (x.cost : Nat), .int .u8 (x.id : Nat), .int .u8 (x.clus : Nat)] 75)).alloc (.cells zeroPt 38)).alloc (.cells #[.int .u8 10, .int .u8 0, .int .u8 0, .int .u8 ((x.cost : Int) % 4)] 5))) := conv4 (x.cost % 4) (by omega) HC2.out
  have HB1 : Hid (Below w.heap.size w (((w.alloc (.cells #[.int .u8 (x.pref : Nat), .int .u8 (x.long : Nat), .int .u8 (x.origin : Nat), .int .u8 (x.med : Nat), .int .u8 (x.as_ : Nat), .int .u8 (x.kind : Nat), .int .u8 (x.cost : Nat), .int .u8 (x.id : Nat), .int .u8 (x.clus : Nat)] 75)).alloc (.cells zeroPt 38)).alloc (.cells #[.int .u8 10, .int .u8 0, .int .u8 0, .int .u8 ((x.cost : Int) % 4)] 5))) := (((Below.refl _ _).alloc (Nat.le_refl _) _).alloc (by simp) _).alloc (by simp; omega) _
  have hs1 : (((w.alloc (.cells #[.int .u8 (x.pref : Nat), .int .u8 (x.long : Nat), .int .u8 (x.origin : Nat), .int .u8 (x.med : Nat), .int .u8 (x.as_ : Nat), .int .u8 (x.kind : Nat), .int .u8 (x.cost : Nat), .int .u8 (x.id : Nat), .int .u8 (x.clus : Nat)] 75)).alloc (.cells zeroPt 38)).alloc (.cells #[.int .u8 10, .int .u8 0, .int .u8 0, .int .u8 ((x.cost : Int) % 4)] 5)).heap.size = w.heap.size + 3 := by simp
  have HO := Lib.hid (ofQ_ones x at_ 0 0 none [] 0 none 0 0)
  have HL : Hid (w.heap.size + 1 < (((w.alloc (.cells #[.int .u8 (x.pref : Nat), .int .u8 (x.long : Nat), .int .u8 (x.origin : Nat), .int .u8 (x.med : Nat), .int .u8 (x.as_ : Nat), .int .u8 (x.kind : Nat), .int .u8 (x.cost : Nat), .int .u8 (x.id : Nat), .int .u8 (x.clus : Nat)] 75)).alloc (.cells zeroPt 38)).alloc (.cells #[.int .u8 10, .int .u8 0, .int .u8 0, .int .u8 ((x.cost : Int) % 4)] 5)).heap.size) := by
    show _ < _
    omega
  clear HC2 hsz0 hs1
  unfold Spt.v
  go_enter Try.func32, Try.ntmps32
  go_wp2_with fail
  rw [HCV.out]
  clear HCV
  generalize (((w.alloc (.cells #[.int .u8 (x.pref : Nat), .int .u8 (x.long : Nat), .int .u8 (x.origin : Nat), .int .u8 (x.med : Nat), .int .u8 (x.as_ : Nat), .int .u8 (x.kind : Nat), .int .u8 (x.cost : Nat), .int .u8 (x.id : Nat), .int .u8 (x.clus : Nat)] 75)).alloc (.cells zeroPt 38)).alloc (.cells #[.int .u8 10, .int .u8 0, .int .u8 0, .int .u8 ((x.cost : Int) % 4)] 5)) = W at *
  go_wp2_with (with_reducible show wpList _ _ _ (_ :: _) _ _; refine wpList_made_new (w := w) (x := x) rfl (.tmp 5) (.tmp 29) rfl rfl (ofQ x at_ 0 0 none [] 0 none 0 0) rfl rfl HO HC0 HC1 HB1 HL ?_)
  intro V0 M0
  clear HC0 HC1 HB1 HO
  have hW := HL.out
  clear HL
  generalize W.heap.size = b at *
  clear W
  obtain ⟨s0, s1, s3, s4, s5, s7, s8⟩ := M0.out.c
  have l11 := (M0.out.box.c 11).trans (show (ofQ x at_ 0 0 none [] 0 none 0 0).cs[11]? = some (.bool (decide ((0 : Int) < (x.pref : Int) % 3))) from by kernel_rfl)
  have l9 := (M0.out.box.c 9).trans (show (ofQ x at_ 0 0 none [] 0 none 0 0).cs[9]? = some (.bool (decide ((0 : Int) < (x.med : Int) % 3))) from by kernel_rfl)
  by_cases hp : (0 : Int) < (x.pref : Int) % 3
  · have HE1 : Hid ((ofQ x at_ 0 0 none [] 0 none 0 0).cs.setIfInBounds 12 (.int .u32 (99 + (x.pref : Int) % 3)) = (ofQ x at_ (99 + (x.pref : Int) % 3) 0 none [] 0 none 0 0).cs) := by
      show _ = _
      kernel_rfl
    go_wp2_with (with_reducible show wpList _ _ _ (_ :: _) _ _; refine wpList_made_set rfl 28 (.tmp 39) (.tmp 37) rfl 12 rfl (.int .u32 (99 + (x.pref : Int) % 3)) rfl (by kernel_rfl) M0 (ofQ x at_ (99 + (x.pref : Int) % 3) 0 none [] 0 none 0 0) HE1 (by omega) rfl ?_)
    intro V1 M1 _ _
    clear s0 s1 s3 s4 s5 s7 s8 l11 l9
    obtain ⟨s0, s1, s3, s4, s5, s7, s8⟩ := M1.out.c
    have l9 := (M1.out.box.c 9).trans (show (ofQ x at_ (99 + (x.pref : Int) % 3) 0 none [] 0 none 0 0).cs[9]? = some (.bool (decide ((0 : Int) < (x.med : Int) % 3))) from by kernel_rfl)
    by_cases hm : (0 : Int) < (x.med : Int) % 3
    · have HE2 : Hid ((ofQ x at_ (99 + (x.pref : Int) % 3) 0 none [] 0 none 0 0).cs.setIfInBounds 10 (.int .u32 ((x.med : Int) % 5)) = (ofQ x at_ (99 + (x.pref : Int) % 3) ((x.med : Int) % 5) none [] 0 none 0 0).cs) := by
        show _ = _
        kernel_rfl
      go_wp2_with (with_reducible show wpList _ _ _ (_ :: _) _ _; refine wpList_made_set rfl 28 (.tmp 48) (.tmp 46) rfl 10 rfl (.int .u32 ((x.med : Int) % 5)) rfl (by kernel_rfl) M1 (ofQ x at_ (99 + (x.pref : Int) % 3) ((x.med : Int) % 5) none [] 0 none 0 0) HE2 (by omega) rfl ?_)
      intro V2 M2 _ _
      have HMS : Hid (medS x = ((x.med : Int) % 5)) := by
        show _ = _
        unfold medS
        rw [if_pos hm]
      have HPS : Hid (prefS x = (99 + (x.pref : Int) % 3)) := by
        show _ = _
        unfold prefS
        rw [if_pos hp]
      have HM : Hid (Made w V2 x b (ofQ x at_ (prefS x) (medS x) none [] 0 none 0 0)) := by
        show Made _ _ _ _ _
        rw [HMS.out, HPS.out]
        exact M2.out
      obtain ⟨s0, s1, s3, s4, s5, s7, s8⟩ := HM.out.c
      have HMA : Hid (Made w (V2.alloc (.cells #[.int .u32 (1 + (x.as_ : Int) % 3)] 28)) x b (ofQ x at_ (prefS x) (medS x) none [] 0 none 0 0)) := HM.out.alloc _
      have HU0 : Hid (U32Own (V2.alloc (.cells #[.int .u32 (1 + (x.as_ : Int) % 3)] 28)) (b + 1) (.slice (some ⟨V2.heap.size, 0, none⟩) 1 1) (asS x 0)) := U32Own.one (n := 1 + x.as_ % 3) (CellsAt.new V2 #[.int .u32 (1 + (x.as_ : Int) % 3)] 28) (by have := HM.out.box.lt; omega)
      clear HMS HPS HM
      go_wp2_with fail
      go_loopw [6, 7] (fun o i wr => ∃ k : Nat, k ≤ x.long % 3 ∧ i = .int .i64 k ∧ Hid (Made w wr x b (ofQ x at_ (prefS x) (medS x) none [] 0 none 0 0)) ∧ Hid (U32Own wr (b + 1) o (asS x k))) (fun _ i _ => 4 - (intOf i).toNat)
      case atStart => exact ⟨0, by omega, rfl, HMA.out, HU0.out⟩
      case round =>
        obtain ⟨k, hk, rfl, HMr, HU⟩ := hrel
        clear HMA HU0 s0 s1 s3 s4 s5 s7 s8
        obtain ⟨s0, s1, s3, s4, s5, s7, s8⟩ := HMr.out.c
        obtain ⟨A2, cc2, rfl⟩ := OwnM.form HU.out
        have hbw := HMr.out.box.lt
        have hlen : (asS x k).length ≤ 1000000 := by unfold asS; rw [List.length_cons, List.length_replicate]; omega
        have HLEN := Lib.hid hlen
        clear hlen
        by_cases hlt : (k : Int) < (x.long : Int) % 3
        · have HC2 : Hid (CellsAt (wr.alloc (.cells #[.int .u32 9] 28)) wr.heap.size #[.int .u32 ((9 : Nat) : Int)] 28) := CellsAt.new _ _ _
          have HUa : Hid (U32Own (wr.alloc (.cells #[.int .u32 9] 28)) (b + 1) (.slice A2 (asS x k).length cc2) (asS x k)) := OwnM.alloc HU.out _
          have HBS : Hid (b + 1 ≤ (wr.alloc (.cells #[.int .u32 9] 28)).heap.size) := by
            show _ ≤ _
            simp
            omega
          go_wp2_with (with_reducible show wpList _ _ _ (_ :: _) _ _; refine wpList_append_u32 rfl (.tmp 63) (.tmp 64) rfl (b + 1) (.slice A2 (asS x k).length cc2) (asS x k) rfl HUa 9 wr.heap.size rfl HC2 HLEN.out HBS.out ?_)
          intro A3 cc3 w3 HN HBG HGR
          have HMn : Hid (Made w w3 x b (ofQ x at_ (prefS x) (medS x) none [] 0 none 0 0)) := HMr.out.grow (HBG.out _ _ ((Below.refl (b + 1) wr).alloc (by omega) _) (Nat.le_refl _))
          have HAS : Hid (asS x (k + 1) = asS x k ++ [9]) := by
            show _ = _
            unfold asS
            rw [List.replicate_succ']
            rfl
          have HN2 : Hid (U32Own w3 (b + 1) (.slice A3 ((asS x k).length + 1) cc3) (asS x (k + 1))) := by
            show U32Own _ _ _ _
            rw [HAS.out]
            exact HN.out
          go_wp2_with fail
          exact ⟨⟨k + 1, by omega, by go_num, HMn.out, HN2.out⟩, by simp [intOf]; omega⟩
        · obtain rfl : k = x.long % 3 := by omega
          generalize hsb : wr.heap.size = sb at hbw
          have HSB := Lib.hid hsb
          clear hsb
          have HMs : Hid (Made w (wr.alloc (.cells #[.int .i64 2, .slice A2 (asS x (x.long % 3)).length cc2] 84)) x b (ofQ x at_ (prefS x) (medS x) none [] 0 none 0 0)) := HMr.out.alloc _
          have HUs : Hid (U32Own (wr.alloc (.cells #[.int .i64 2, .slice A2 (asS x (x.long % 3)).length cc2] 84)) (b + 1) (.slice A2 (asS x (x.long % 3)).length cc2) (asS x (x.long % 3))) := OwnM.alloc HU.out _
          have HCs : Hid (CellsAt (wr.alloc (.cells #[.int .i64 2, .slice A2 (asS x (x.long % 3)).length cc2] 84)) wr.heap.size #[.int .i64 2, .slice A2 (asS x (x.long % 3)).length cc2] 84) := CellsAt.new _ _ _
          have HE7 : Hid ((ofQ x at_ (prefS x) (medS x) none [] 0 none 0 0).cs.setIfInBounds 7 (.slice (some ⟨wr.heap.size, 0, none⟩) 1 1) = (ofQ x at_ (prefS x) (medS x) (some ⟨wr.heap.size, 0, none⟩) [⟨2, A2, asS x (x.long % 3), cc2⟩] 1 none 0 0).cs) := by
            show _ = _
            kernel_rfl
          go_wp2_with (with_reducible show wpList _ _ _ (_ :: _) _ _; refine wpList_made_set rfl 29 (.tmp 70) (.tmp 68) rfl 7 rfl (.slice (some ⟨wr.heap.size, 0, none⟩) 1 1) rfl (by kernel_rfl) HMs (ofQ x at_ (prefS x) (medS x) (some ⟨wr.heap.size, 0, none⟩) [⟨2, A2, asS x (x.long % 3), cc2⟩] 1 none 0 0) HE7 (by omega) rfl ?_)
          intro V3 M3 HS3 HK3
          have HCS : Hid (CellsAt V3 wr.heap.size #[.int .i64 2, .slice A2 (asS x (x.long % 3)).length cc2] 84) := (HK3.out _ (by rw [HSB.out]; omega)).trans HCs.out
          have HUS : Hid (U32Own V3 (b + 1) (.slice A2 (asS x (x.long % 3)).length cc2) (asS x (x.long % 3))) := OwnM.keep HUs.out (fun g hg => HK3.out g (by have := (OwnM.lt HUs.out g hg).1; omega))
          have HLV : Hid (∀ g, (Value.slice A2 (asS x (x.long % 3)).length cc2).ownBlock = some g → g < V3.heap.size) := fun g hg => (OwnM.lt HUS.out g hg).2
          have hv3 : V3.heap.size = sb + 1 := by rw [HS3.out]; simp [HSB.out]
          rw [HSB.out] at HCS M3
          have HV3 := Lib.hid hv3
          clear HMr HU HMs HUs HCs HE7 HS3 HK3 HSB hv3 s0 s1 s3 s4 s5 s7 s8
          obtain ⟨s0, s1, s3, s4, s5, s7, s8⟩ := M3.out.c
          go_wp2_with fail
          go_loopw [8] (fun i wz => ∃ (k : Nat) (C : Option Addr) (e : Nat), k ≤ x.clus % 3 ∧ i = .int .i64 k ∧ Hid (Made w wz x b (ofQ x at_ (prefS x) (medS x) (some ⟨sb, 0, none⟩) [⟨2, A2, asS x (x.long % 3), cc2⟩] 1 C k e)) ∧ Hid (U32Own wz (sb + 1) (.slice C (sv k).length e) (sv k)) ∧ Hid (CellsAt wz sb #[.int .i64 2, .slice A2 (asS x (x.long % 3)).length cc2] 84) ∧ Hid (U32Own wz (b + 1) (.slice A2 (asS x (x.long % 3)).length cc2) (asS x (x.long % 3)))) (fun i _ => 4 - (intOf i).toNat)
          case atStart => exact ⟨0, none, 0, by omega, rfl, M3.out, OwnM.nil _ _ _ _, HCS.out, HUS.out⟩
          case round =>
            obtain ⟨k, C, e, hk, rfl, HMr, HU, HCr, HUr⟩ := hrel
            clear M3 HCS HUS s0 s1 s3 s4 s5 s7 s8
            obtain ⟨s0, s1, s3, s4, s5, s7, s8⟩ := HMr.out.c
            have l21 := (HMr.out.box.c 21).trans (show (ofQ x at_ (prefS x) (medS x) (some ⟨sb, 0, none⟩) [⟨2, A2, asS x (x.long % 3), cc2⟩] 1 C k e).cs[21]? = some (.slice C (sv k).length e) from by kernel_rfl)
            have hsr := HCr.out.lt
            have hlen : (sv k).length ≤ 1000000 := by rw [sv_len]; omega
            have HLEN := Lib.hid hlen
            clear hlen
            by_cases hlt2 : (k : Int) < (x.clus : Int) % 3
            · have HC2 : Hid (CellsAt (wr.alloc (.cells #[.int .u32 7] 28)) wr.heap.size #[.int .u32 ((7 : Nat) : Int)] 28) := CellsAt.new _ _ _
              have HUa : Hid (U32Own (wr.alloc (.cells #[.int .u32 7] 28)) (sb + 1) (.slice C (sv k).length e) (sv k)) := OwnM.alloc HU.out _
              have HBS : Hid (sb + 1 ≤ (wr.alloc (.cells #[.int .u32 7] 28)).heap.size) := by
                show _ ≤ _
                simp
                omega
              go_wp2_with (with_reducible show wpList _ _ _ (_ :: _) _ _; refine wpList_append_u32 rfl (.tmp 81) (.tmp 82) rfl (sb + 1) (.slice C (sv k).length e) (sv k) rfl HUa 7 wr.heap.size rfl HC2 HLEN.out HBS.out ?_)
              intro A3 cc3 w3 HN HBG HGR
              have HBI := Lib.hid (HBG.out _ _ ((Below.refl (sb + 1) wr).alloc (by omega) _) (Nat.le_refl _))
              have HMn : Hid (Made w w3 x b (ofQ x at_ (prefS x) (medS x) (some ⟨sb, 0, none⟩) [⟨2, A2, asS x (x.long % 3), cc2⟩] 1 C k e)) := HMr.out.grow (HBI.out.mono (by omega))
              have HCn : Hid (CellsAt w3 sb #[.int .i64 2, .slice A2 (asS x (x.long % 3)).length cc2] 84) := HCr.out.below HBI.out (by omega)
              have HUn : Hid (U32Own w3 (b + 1) (.slice A2 (asS x (x.long % 3)).length cc2) (asS x (x.long % 3))) := OwnM.keep HUr.out (fun g hg => HBI.out.block g (by have := HLV.out g hg; have := HV3.out; omega))
              have HAS : Hid (sv (k + 1) = sv k ++ [7]) := by
                show _ = _
                unfold sv
                rw [List.replicate_succ']
              have HE : Hid ((ofQ x at_ (prefS x) (medS x) (some ⟨sb, 0, none⟩) [⟨2, A2, asS x (x.long % 3), cc2⟩] 1 C k e).cs.setIfInBounds 21 (.slice A3 ((sv k).length + 1) cc3) = (ofQ x at_ (prefS x) (medS x) (some ⟨sb, 0, none⟩) [⟨2, A2, asS x (x.long % 3), cc2⟩] 1 A3 (k + 1) cc3).cs) := by
                show _ = _
                kernel_rfl
              go_wp2_with (with_reducible show wpList _ _ _ (_ :: _) _ _; refine wpList_made_set rfl 30 (.tmp 85) (.tmp 83) rfl 21 rfl (.slice A3 ((sv k).length + 1) cc3) rfl (by kernel_rfl) HMn (ofQ x at_ (prefS x) (medS x) (some ⟨sb, 0, none⟩) [⟨2, A2, asS x (x.long % 3), cc2⟩] 1 A3 (k + 1) cc3) HE (by omega) rfl ?_)
              intro V4 M4 HS4 HK4
              have HC4 : Hid (CellsAt V4 sb #[.int .i64 2, .slice A2 (asS x (x.long % 3)).length cc2] 84) := (HK4.out _ (by omega)).trans HCn.out
              have HU4 : Hid (U32Own V4 (b + 1) (.slice A2 (asS x (x.long % 3)).length cc2) (asS x (x.long % 3))) := OwnM.keep HUn.out (fun g hg => HK4.out g (by have := (OwnM.lt HUn.out g hg).1; omega))
              have HN4 : Hid (U32Own V4 (sb + 1) (.slice A3 (sv (k + 1)).length cc3) (sv (k + 1))) := by
                show U32Own _ _ _ _
                rw [HAS.out, List.length_append]
                exact OwnM.keep HN.out (fun g hg => HK4.out g (by have := (OwnM.lt HN.out g hg).1; omega))
              go_wp2_with fail
              exact ⟨⟨k + 1, A3, cc3, by omega, by go_num, M4.out, HN4.out, HC4.out, HU4.out⟩, by simp [intOf]; omega⟩
            · obtain rfl : k = x.clus % 3 := by omega
              have HE : Hid ((((((((ofQ x at_ (prefS x) (medS x) (some ⟨sb, 0, none⟩) [⟨2, A2, asS x (x.long % 3), cc2⟩] 1 C (x.clus % 3) e).cs.setIfInBounds 22 (.int .i64 (1 + (x.kind : Int) % 5))).setIfInBounds 23 (.string ⟨#[112]⟩)).setIfInBounds 24 (.int .u32 0)).setIfInBounds 25 (.int .u32 ((x.id : Int) % 3))).setIfInBounds 26 (.string ⟨#[]⟩)).setIfInBounds 27 (.string ⟨#[]⟩)) = (ofP x at_ (some ⟨sb, 0, none⟩) A2 C 1 cc2 e).cs) := by
                show _ = _
                kernel_rfl
              have HAL : Hid ((#[.int .i64 (1 + (x.kind : Int) % 5), .string ⟨#[112]⟩, .int .u32 0, .int .u32 ((x.id : Int) % 3), .string ⟨#[]⟩, .string ⟨#[]⟩] : Array Value).all (·.oneCell') = true) := by
                show _ = true
                exact Array.all_eq_true_iff_forall_mem.2 (fun u hu => by simp only [List.mem_toArray, List.mem_cons, List.not_mem_nil, or_false] at hu; rcases hu with rfl | rfl | rfl | rfl | rfl | rfl <;> rfl)
              go_wp2_with (with_reducible show wpList _ _ _ (_ :: _) _ _; refine wpList_made_src rfl (.tmp 96) (.tmp 95) rfl rfl (.int .i64 (1 + (x.kind : Int) % 5)) (.string ⟨#[112]⟩) (.int .u32 0) (.int .u32 ((x.id : Int) % 3)) (.string ⟨#[]⟩) (.string ⟨#[]⟩) rfl HMr (ofP x at_ (some ⟨sb, 0, none⟩) A2 C 1 cc2 e) HE HAL.out ?_)
              intro V5 M5 HS5 HK5
              have HON := Lib.hid (ofP_ones x at_ (some ⟨sb, 0, none⟩) A2 C 1 cc2 e)
              have HC5 : Hid (CellsAt V5 sb #[.int .i64 2, .slice A2 (asS x (x.long % 3)).length cc2] 84) := (HK5.out _ (by omega)).trans HCr.out
              have HU5 : Hid (U32Own V5 (b + 1) (.slice A2 (asS x (x.long % 3)).length cc2) (asS x (x.long % 3))) := OwnM.keep HUr.out (fun g hg => HK5.out g (by have := (OwnM.lt HUr.out g hg).1; omega))
              have HN5 : Hid (U32Own V5 (sb + 1) (.slice C (sv (x.clus % 3)).length e) (sv (x.clus % 3))) := OwnM.keep HU.out (fun g hg => HK5.out g (by have := (OwnM.lt HU.out g hg).1; omega))
              clear s0 s1 s3 s4 s5 s7 s8 l21 HMr HU HCr HUr HE
              go_wp2_with (with_reducible show wpList _ _ _ (_ :: _) _ _; first | refine wpList_load_path' rfl (.tmp 5) rfl b 0 rfl (ofP x at_ (some ⟨sb, 0, none⟩) A2 C 1 cc2 e) M5.out.box.range ?_ | refine wpList_over_path rfl (.tmp 4) (.tmp 97) rfl rfl (ofP x at_ (some ⟨sb, 0, none⟩) A2 C 1 cc2 e) rfl rfl M5.out.res HON.out ?_)
              refine bodyPost_ret (results_path rfl _ _ (w.heap.size + 1) (ofP x at_ (some ⟨sb, 0, none⟩) A2 C 1 cc2 e) rfl (setRow_heap _ _ _ _ _ _ M5.out.res)) rfl ?_
              exact of_done M5.out hW hbw HC5.out HU5.out HN5.out (by omega)
    · have HMS : Hid (medS x = 0) := by
        show _ = _
        unfold medS
        rw [if_neg (by omega)]
      have HPS : Hid (prefS x = (99 + (x.pref : Int) % 3)) := by
        show _ = _
        unfold prefS
        rw [if_pos hp]
      have HM : Hid (Made w V1 x b (ofQ x at_ (prefS x) (medS x) none [] 0 none 0 0)) := by
        show Made _ _ _ _ _
        rw [HMS.out, HPS.out]
        exact M1.out
      obtain ⟨s0, s1, s3, s4, s5, s7, s8⟩ := HM.out.c
      have HMA : Hid (Made w (V1.alloc (.cells #[.int .u32 (1 + (x.as_ : Int) % 3)] 28)) x b (ofQ x at_ (prefS x) (medS x) none [] 0 none 0 0)) := HM.out.alloc _
      have HU0 : Hid (U32Own (V1.alloc (.cells #[.int .u32 (1 + (x.as_ : Int) % 3)] 28)) (b + 1) (.slice (some ⟨V1.heap.size, 0, none⟩) 1 1) (asS x 0)) := U32Own.one (n := 1 + x.as_ % 3) (CellsAt.new V1 #[.int .u32 (1 + (x.as_ : Int) % 3)] 28) (by have := HM.out.box.lt; omega)
      clear HMS HPS HM
      go_wp2_with fail
      go_loopw [6, 7] (fun o i wr => ∃ k : Nat, k ≤ x.long % 3 ∧ i = .int .i64 k ∧ Hid (Made w wr x b (ofQ x at_ (prefS x) (medS x) none [] 0 none 0 0)) ∧ Hid (U32Own wr (b + 1) o (asS x k))) (fun _ i _ => 4 - (intOf i).toNat)
      case atStart => exact ⟨0, by omega, rfl, HMA.out, HU0.out⟩
      case round =>
        obtain ⟨k, hk, rfl, HMr, HU⟩ := hrel
        clear HMA HU0 s0 s1 s3 s4 s5 s7 s8
        obtain ⟨s0, s1, s3, s4, s5, s7, s8⟩ := HMr.out.c
        obtain ⟨A2, cc2, rfl⟩ := OwnM.form HU.out
        have hbw := HMr.out.box.lt
        have hlen : (asS x k).length ≤ 1000000 := by unfold asS; rw [List.length_cons, List.length_replicate]; omega
        have HLEN := Lib.hid hlen
        clear hlen
        by_cases hlt : (k : Int) < (x.long : Int) % 3
        · have HC2 : Hid (CellsAt (wr.alloc (.cells #[.int .u32 9] 28)) wr.heap.size #[.int .u32 ((9 : Nat) : Int)] 28) := CellsAt.new _ _ _
          have HUa : Hid (U32Own (wr.alloc (.cells #[.int .u32 9] 28)) (b + 1) (.slice A2 (asS x k).length cc2) (asS x k)) := OwnM.alloc HU.out _
          have HBS : Hid (b + 1 ≤ (wr.alloc (.cells #[.int .u32 9] 28)).heap.size) := by
            show _ ≤ _
            simp
            omega
          go_wp2_with (with_reducible show wpList _ _ _ (_ :: _) _ _; refine wpList_append_u32 rfl (.tmp 63) (.tmp 64) rfl (b + 1) (.slice A2 (asS x k).length cc2) (asS x k) rfl HUa 9 wr.heap.size rfl HC2 HLEN.out HBS.out ?_)
          intro A3 cc3 w3 HN HBG HGR
          have HMn : Hid (Made w w3 x b (ofQ x at_ (prefS x) (medS x) none [] 0 none 0 0)) := HMr.out.grow (HBG.out _ _ ((Below.refl (b + 1) wr).alloc (by omega) _) (Nat.le_refl _))
          have HAS : Hid (asS x (k + 1) = asS x k ++ [9]) := by
            show _ = _
            unfold asS
            rw [List.replicate_succ']
            rfl
          have HN2 : Hid (U32Own w3 (b + 1) (.slice A3 ((asS x k).length + 1) cc3) (asS x (k + 1))) := by
            show U32Own _ _ _ _
            rw [HAS.out]
            exact HN.out
          go_wp2_with fail
          exact ⟨⟨k + 1, by omega, by go_num, HMn.out, HN2.out⟩, by simp [intOf]; omega⟩
        · obtain rfl : k = x.long % 3 := by omega
          generalize hsb : wr.heap.size = sb at hbw
          have HSB := Lib.hid hsb
          clear hsb
          have HMs : Hid (Made w (wr.alloc (.cells #[.int .i64 2, .slice A2 (asS x (x.long % 3)).length cc2] 84)) x b (ofQ x at_ (prefS x) (medS x) none [] 0 none 0 0)) := HMr.out.alloc _
          have HUs : Hid (U32Own (wr.alloc (.cells #[.int .i64 2, .slice A2 (asS x (x.long % 3)).length cc2] 84)) (b + 1) (.slice A2 (asS x (x.long % 3)).length cc2) (asS x (x.long % 3))) := OwnM.alloc HU.out _
          have HCs : Hid (CellsAt (wr.alloc (.cells #[.int .i64 2, .slice A2 (asS x (x.long % 3)).length cc2] 84)) wr.heap.size #[.int .i64 2, .slice A2 (asS x (x.long % 3)).length cc2] 84) := CellsAt.new _ _ _
          have HE7 : Hid ((ofQ x at_ (prefS x) (medS x) none [] 0 none 0 0).cs.setIfInBounds 7 (.slice (some ⟨wr.heap.size, 0, none⟩) 1 1) = (ofQ x at_ (prefS x) (medS x) (some ⟨wr.heap.size, 0, none⟩) [⟨2, A2, asS x (x.long % 3), cc2⟩] 1 none 0 0).cs) := by
            show _ = _
            kernel_rfl
          go_wp2_with (with_reducible show wpList _ _ _ (_ :: _) _ _; refine wpList_made_set rfl 29 (.tmp 70) (.tmp 68) rfl 7 rfl (.slice (some ⟨wr.heap.size, 0, none⟩) 1 1) rfl (by kernel_rfl) HMs (ofQ x at_ (prefS x) (medS x) (some ⟨wr.heap.size, 0, none⟩) [⟨2, A2, asS x (x.long % 3), cc2⟩] 1 none 0 0) HE7 (by omega) rfl ?_)
          intro V3 M3 HS3 HK3
          have HCS : Hid (CellsAt V3 wr.heap.size #[.int .i64 2, .slice A2 (asS x (x.long % 3)).length cc2] 84) := (HK3.out _ (by rw [HSB.out]; omega)).trans HCs.out
          have HUS : Hid (U32Own V3 (b + 1) (.slice A2 (asS x (x.long % 3)).length cc2) (asS x (x.long % 3))) := OwnM.keep HUs.out (fun g hg => HK3.out g (by have := (OwnM.lt HUs.out g hg).1; omega))
          have HLV : Hid (∀ g, (Value.slice A2 (asS x (x.long % 3)).length cc2).ownBlock = some g → g < V3.heap.size) := fun g hg => (OwnM.lt HUS.out g hg).2
          have hv3 : V3.heap.size = sb + 1 := by rw [HS3.out]; simp [HSB.out]
          rw [HSB.out] at HCS M3
          have HV3 := Lib.hid hv3
          clear HMr HU HMs HUs HCs HE7 HS3 HK3 HSB hv3 s0 s1 s3 s4 s5 s7 s8
          obtain ⟨s0, s1, s3, s4, s5, s7, s8⟩ := M3.out.c
          go_wp2_with fail
          go_loopw [8] (fun i wz => ∃ (k : Nat) (C : Option Addr) (e : Nat), k ≤ x.clus % 3 ∧ i = .int .i64 k ∧ Hid (Made w wz x b (ofQ x at_ (prefS x) (medS x) (some ⟨sb, 0, none⟩) [⟨2, A2, asS x (x.long % 3), cc2⟩] 1 C k e)) ∧ Hid (U32Own wz (sb + 1) (.slice C (sv k).length e) (sv k)) ∧ Hid (CellsAt wz sb #[.int .i64 2, .slice A2 (asS x (x.long % 3)).length cc2] 84) ∧ Hid (U32Own wz (b + 1) (.slice A2 (asS x (x.long % 3)).length cc2) (asS x (x.long % 3)))) (fun i _ => 4 - (intOf i).toNat)
          case atStart => exact ⟨0, none, 0, by omega, rfl, M3.out, OwnM.nil _ _ _ _, HCS.out, HUS.out⟩
          case round =>
            obtain ⟨k, C, e, hk, rfl, HMr, HU, HCr, HUr⟩ := hrel
            clear M3 HCS HUS s0 s1 s3 s4 s5 s7 s8
            obtain ⟨s0, s1, s3, s4, s5, s7, s8⟩ := HMr.out.c
            have l21 := (HMr.out.box.c 21).trans (show (ofQ x at_ (prefS x) (medS x) (some ⟨sb, 0, none⟩) [⟨2, A2, asS x (x.long % 3), cc2⟩] 1 C k e).cs[21]? = some (.slice C (sv k).length e) from by kernel_rfl)
            have hsr := HCr.out.lt
            have hlen : (sv k).length ≤ 1000000 := by rw [sv_len]; omega
            have HLEN := Lib.hid hlen
            clear hlen
            by_cases hlt2 : (k : Int) < (x.clus : Int) % 3
            · have HC2 : Hid (CellsAt (wr.alloc (.cells #[.int .u32 7] 28)) wr.heap.size #[.int .u32 ((7 : Nat) : Int)] 28) := CellsAt.new _ _ _
              have HUa : Hid (U32Own (wr.alloc (.cells #[.int .u32 7] 28)) (sb + 1) (.slice C (sv k).length e) (sv k)) := OwnM.alloc HU.out _
              have HBS : Hid (sb + 1 ≤ (wr.alloc (.cells #[.int .u32 7] 28)).heap.size) := by
                show _ ≤ _
                simp
                omega
              go_wp2_with (with_reducible show wpList _ _ _ (_ :: _) _ _; refine wpList_append_u32 rfl (.tmp 81) (.tmp 82) rfl (sb + 1) (.slice C (sv k).length e) (sv k) rfl HUa 7 wr.heap.size rfl HC2 HLEN.out HBS.out ?_)
              intro A3 cc3 w3 HN HBG HGR
              have HBI := Lib.hid (HBG.out _ _ ((Below.refl (sb + 1) wr).alloc (by omega) _) (Nat.le_refl _))
              have HMn : Hid (Made w w3 x b (ofQ x at_ (prefS x) (medS x) (some ⟨sb, 0, none⟩) [⟨2, A2, asS x (x.long % 3), cc2⟩] 1 C k e)) := HMr.out.grow (HBI.out.mono (by omega))
              have HCn : Hid (CellsAt w3 sb #[.int .i64 2, .slice A2 (asS x (x.long % 3)).length cc2] 84) := HCr.out.below HBI.out (by omega)
              have HUn : Hid (U32Own w3 (b + 1) (.slice A2 (asS x (x.long % 3)).length cc2) (asS x (x.long % 3))) := OwnM.keep HUr.out (fun g hg => HBI.out.block g (by have := HLV.out g hg; have := HV3.out; omega))
              have HAS : Hid (sv (k + 1) = sv k ++ [7]) := by
                show _ = _
                unfold sv
                rw [List.replicate_succ']
              have HE : Hid ((ofQ x at_ (prefS x) (medS x) (some ⟨sb, 0, none⟩) [⟨2, A2, asS x (x.long % 3), cc2⟩] 1 C k e).cs.setIfInBounds 21 (.slice A3 ((sv k).length + 1) cc3) = (ofQ x at_ (prefS x) (medS x) (some ⟨sb, 0, none⟩) [⟨2, A2, asS x (x.long % 3), cc2⟩] 1 A3 (k + 1) cc3).cs) := by
                show _ = _
                kernel_rfl
              go_wp2_with (with_reducible show wpList _ _ _ (_ :: _) _ _; refine wpList_made_set rfl 30 (.tmp 85) (.tmp 83) rfl 21 rfl (.slice A3 ((sv k).length + 1) cc3) rfl (by kernel_rfl) HMn (ofQ x at_ (prefS x) (medS x) (some ⟨sb, 0, none⟩) [⟨2, A2, asS x (x.long % 3), cc2⟩] 1 A3 (k + 1) cc3) HE (by omega) rfl ?_)
              intro V4 M4 HS4 HK4
              have HC4 : Hid (CellsAt V4 sb #[.int .i64 2, .slice A2 (asS x (x.long % 3)).length cc2] 84) := (HK4.out _ (by omega)).trans HCn.out
              have HU4 : Hid (U32Own V4 (b + 1) (.slice A2 (asS x (x.long % 3)).length cc2) (asS x (x.long % 3))) := OwnM.keep HUn.out (fun g hg => HK4.out g (by have := (OwnM.lt HUn.out g hg).1; omega))
              have HN4 : Hid (U32Own V4 (sb + 1) (.slice A3 (sv (k + 1)).length cc3) (sv (k + 1))) := by
                show U32Own _ _ _ _
                rw [HAS.out, List.length_append]
                exact OwnM.keep HN.out (fun g hg => HK4.out g (by have := (OwnM.lt HN.out g hg).1; omega))
              go_wp2_with fail
              exact ⟨⟨k + 1, A3, cc3, by omega, by go_num, M4.out, HN4.out, HC4.out, HU4.out⟩, by simp [intOf]; omega⟩
            · obtain rfl : k = x.clus % 3 := by omega
              have HE : Hid ((((((((ofQ x at_ (prefS x) (medS x) (some ⟨sb, 0, none⟩) [⟨2, A2, asS x (x.long % 3), cc2⟩] 1 C (x.clus % 3) e).cs.setIfInBounds 22 (.int .i64 (1 + (x.kind : Int) % 5))).setIfInBounds 23 (.string ⟨#[112]⟩)).setIfInBounds 24 (.int .u32 0)).setIfInBounds 25 (.int .u32 ((x.id : Int) % 3))).setIfInBounds 26 (.string ⟨#[]⟩)).setIfInBounds 27 (.string ⟨#[]⟩)) = (ofP x at_ (some ⟨sb, 0, none⟩) A2 C 1 cc2 e).cs) := by
                show _ = _
                kernel_rfl
              have HAL : Hid ((#[.int .i64 (1 + (x.kind : Int) % 5), .string ⟨#[112]⟩, .int .u32 0, .int .u32 ((x.id : Int) % 3), .string ⟨#[]⟩, .string ⟨#[]⟩] : Array Value).all (·.oneCell') = true) := by
                show _ = true
                exact Array.all_eq_true_iff_forall_mem.2 (fun u hu => by simp only [List.mem_toArray, List.mem_cons, List.not_mem_nil, or_false] at hu; rcases hu with rfl | rfl | rfl | rfl | rfl | rfl <;> rfl)
              go_wp2_with (with_reducible show wpList _ _ _ (_ :: _) _ _; refine wpList_made_src rfl (.tmp 96) (.tmp 95) rfl rfl (.int .i64 (1 + (x.kind : Int) % 5)) (.string ⟨#[112]⟩) (.int .u32 0) (.int .u32 ((x.id : Int) % 3)) (.string ⟨#[]⟩) (.string ⟨#[]⟩) rfl HMr (ofP x at_ (some ⟨sb, 0, none⟩) A2 C 1 cc2 e) HE HAL.out ?_)
              intro V5 M5 HS5 HK5
              have HON := Lib.hid (ofP_ones x at_ (some ⟨sb, 0, none⟩) A2 C 1 cc2 e)
              have HC5 : Hid (CellsAt V5 sb #[.int .i64 2, .slice A2 (asS x (x.long % 3)).length cc2] 84) := (HK5.out _ (by omega)).trans HCr.out
              have HU5 : Hid (U32Own V5 (b + 1) (.slice A2 (asS x (x.long % 3)).length cc2) (asS x (x.long % 3))) := OwnM.keep HUr.out (fun g hg => HK5.out g (by have := (OwnM.lt HUr.out g hg).1; omega))
              have HN5 : Hid (U32Own V5 (sb + 1) (.slice C (sv (x.clus % 3)).length e) (sv (x.clus % 3))) := OwnM.keep HU.out (fun g hg => HK5.out g (by have := (OwnM.lt HU.out g hg).1; omega))
              clear s0 s1 s3 s4 s5 s7 s8 l21 HMr HU HCr HUr HE
              go_wp2_with (with_reducible show wpList _ _ _ (_ :: _) _ _; first | refine wpList_load_path' rfl (.tmp 5) rfl b 0 rfl (ofP x at_ (some ⟨sb, 0, none⟩) A2 C 1 cc2 e) M5.out.box.range ?_ | refine wpList_over_path rfl (.tmp 4) (.tmp 97) rfl rfl (ofP x at_ (some ⟨sb, 0, none⟩) A2 C 1 cc2 e) rfl rfl M5.out.res HON.out ?_)
              refine bodyPost_ret (results_path rfl _ _ (w.heap.size + 1) (ofP x at_ (some ⟨sb, 0, none⟩) A2 C 1 cc2 e) rfl (setRow_heap _ _ _ _ _ _ M5.out.res)) rfl ?_
              exact of_done M5.out hW hbw HC5.out HU5.out HN5.out (by omega)
  · by_cases hm : (0 : Int) < (x.med : Int) % 3
    · have HE2 : Hid ((ofQ x at_ 0 0 none [] 0 none 0 0).cs.setIfInBounds 10 (.int .u32 ((x.med : Int) % 5)) = (ofQ x at_ 0 ((x.med : Int) % 5) none [] 0 none 0 0).cs) := by
        show _ = _
        kernel_rfl
      go_wp2_with (with_reducible show wpList _ _ _ (_ :: _) _ _; refine wpList_made_set rfl 28 (.tmp 48) (.tmp 46) rfl 10 rfl (.int .u32 ((x.med : Int) % 5)) rfl (by kernel_rfl) M0 (ofQ x at_ 0 ((x.med : Int) % 5) none [] 0 none 0 0) HE2 (by omega) rfl ?_)
      intro V2 M2 _ _
      have HMS : Hid (medS x = ((x.med : Int) % 5)) := by
        show _ = _
        unfold medS
        rw [if_pos hm]
      have HPS : Hid (prefS x = 0) := by
        show _ = _
        unfold prefS
        rw [if_neg (by omega)]
      have HM : Hid (Made w V2 x b (ofQ x at_ (prefS x) (medS x) none [] 0 none 0 0)) := by
        show Made _ _ _ _ _
        rw [HMS.out, HPS.out]
        exact M2.out
      obtain ⟨s0, s1, s3, s4, s5, s7, s8⟩ := HM.out.c
      have HMA : Hid (Made w (V2.alloc (.cells #[.int .u32 (1 + (x.as_ : Int) % 3)] 28)) x b (ofQ x at_ (prefS x) (medS x) none [] 0 none 0 0)) := HM.out.alloc _
      have HU0 : Hid (U32Own (V2.alloc (.cells #[.int .u32 (1 + (x.as_ : Int) % 3)] 28)) (b + 1) (.slice (some ⟨V2.heap.size, 0, none⟩) 1 1) (asS x 0)) := U32Own.one (n := 1 + x.as_ % 3) (CellsAt.new V2 #[.int .u32 (1 + (x.as_ : Int) % 3)] 28) (by have := HM.out.box.lt; omega)
      clear HMS HPS HM
      go_wp2_with fail
      go_loopw [6, 7] (fun o i wr => ∃ k : Nat, k ≤ x.long % 3 ∧ i = .int .i64 k ∧ Hid (Made w wr x b (ofQ x at_ (prefS x) (medS x) none [] 0 none 0 0)) ∧ Hid (U32Own wr (b + 1) o (asS x k))) (fun _ i _ => 4 - (intOf i).toNat)
      case atStart => exact ⟨0, by omega, rfl, HMA.out, HU0.out⟩
      case round =>
        obtain ⟨k, hk, rfl, HMr, HU⟩ := hrel
        clear HMA HU0 s0 s1 s3 s4 s5 s7 s8
        obtain ⟨s0, s1, s3, s4, s5, s7, s8⟩ := HMr.out.c
        obtain ⟨A2, cc2, rfl⟩ := OwnM.form HU.out
        have hbw := HMr.out.box.lt
        have hlen : (asS x k).length ≤ 1000000 := by unfold asS; rw [List.length_cons, List.length_replicate]; omega
        have HLEN := Lib.hid hlen
        clear hlen
        by_cases hlt : (k : Int) < (x.long : Int) % 3
        · have HC2 : Hid (CellsAt (wr.alloc (.cells #[.int .u32 9] 28)) wr.heap.size #[.int .u32 ((9 : Nat) : Int)] 28) := CellsAt.new _ _ _
          have HUa : Hid (U32Own (wr.alloc (.cells #[.int .u32 9] 28)) (b + 1) (.slice A2 (asS x k).length cc2) (asS x k)) := OwnM.alloc HU.out _
          have HBS : Hid (b + 1 ≤ (wr.alloc (.cells #[.int .u32 9] 28)).heap.size) := by
            show _ ≤ _
            simp
            omega
          go_wp2_with (with_reducible show wpList _ _ _ (_ :: _) _ _; refine wpList_append_u32 rfl (.tmp 63) (.tmp 64) rfl (b + 1) (.slice A2 (asS x k).length cc2) (asS x k) rfl HUa 9 wr.heap.size rfl HC2 HLEN.out HBS.out ?_)
          intro A3 cc3 w3 HN HBG HGR
          have HMn : Hid (Made w w3 x b (ofQ x at_ (prefS x) (medS x) none [] 0 none 0 0)) := HMr.out.grow (HBG.out _ _ ((Below.refl (b + 1) wr).alloc (by omega) _) (Nat.le_refl _))
          have HAS : Hid (asS x (k + 1) = asS x k ++ [9]) := by
            show _ = _
            unfold asS
            rw [List.replicate_succ']
            rfl
          have HN2 : Hid (U32Own w3 (b + 1) (.slice A3 ((asS x k).length + 1) cc3) (asS x (k + 1))) := by
            show U32Own _ _ _ _
            rw [HAS.out]
            exact HN.out
          go_wp2_with fail
          exact ⟨⟨k + 1, by omega, by go_num, HMn.out, HN2.out⟩, by simp [intOf]; omega⟩
        · obtain rfl : k = x.long % 3 := by omega
          generalize hsb : wr.heap.size = sb at hbw
          have HSB := Lib.hid hsb
          clear hsb
          have HMs : Hid (Made w (wr.alloc (.cells #[.int .i64 2, .slice A2 (asS x (x.long % 3)).length cc2] 84)) x b (ofQ x at_ (prefS x) (medS x) none [] 0 none 0 0)) := HMr.out.alloc _
          have HUs : Hid (U32Own (wr.alloc (.cells #[.int .i64 2, .slice A2 (asS x (x.long % 3)).length cc2] 84)) (b + 1) (.slice A2 (asS x (x.long % 3)).length cc2) (asS x (x.long % 3))) := OwnM.alloc HU.out _
          have HCs : Hid (CellsAt (wr.alloc (.cells #[.int .i64 2, .slice A2 (asS x (x.long % 3)).length cc2] 84)) wr.heap.size #[.int .i64 2, .slice A2 (asS x (x.long % 3)).length cc2] 84) := CellsAt.new _ _ _
          have HE7 : Hid ((ofQ x at_ (prefS x) (medS x) none [] 0 none 0 0).cs.setIfInBounds 7 (.slice (some ⟨wr.heap.size, 0, none⟩) 1 1) = (ofQ x at_ (prefS x) (medS x) (some ⟨wr.heap.size, 0, none⟩) [⟨2, A2, asS x (x.long % 3), cc2⟩] 1 none 0 0).cs) := by
            show _ = _
            kernel_rfl
          go_wp2_with (with_reducible show wpList _ _ _ (_ :: _) _ _; refine wpList_made_set rfl 29 (.tmp 70) (.tmp 68) rfl 7 rfl (.slice (some ⟨wr.heap.size, 0, none⟩) 1 1) rfl (by kernel_rfl) HMs (ofQ x at_ (prefS x) (medS x) (some ⟨wr.heap.size, 0, none⟩) [⟨2, A2, asS x (x.long % 3), cc2⟩] 1 none 0 0) HE7 (by omega) rfl ?_)
          intro V3 M3 HS3 HK3
          have HCS : Hid (CellsAt V3 wr.heap.size #[.int .i64 2, .slice A2 (asS x (x.long % 3)).length cc2] 84) := (HK3.out _ (by rw [HSB.out]; omega)).trans HCs.out
          have HUS : Hid (U32Own V3 (b + 1) (.slice A2 (asS x (x.long % 3)).length cc2) (asS x (x.long % 3))) := OwnM.keep HUs.out (fun g hg => HK3.out g (by have := (OwnM.lt HUs.out g hg).1; omega))
          have HLV : Hid (∀ g, (Value.slice A2 (asS x (x.long % 3)).length cc2).ownBlock = some g → g < V3.heap.size) := fun g hg => (OwnM.lt HUS.out g hg).2
          have hv3 : V3.heap.size = sb + 1 := by rw [HS3.out]; simp [HSB.out]
          rw [HSB.out] at HCS M3
          have HV3 := Lib.hid hv3
          clear HMr HU HMs HUs HCs HE7 HS3 HK3 HSB hv3 s0 s1 s3 s4 s5 s7 s8
          obtain ⟨s0, s1, s3, s4, s5, s7, s8⟩ := M3.out.c
          go_wp2_with fail
          go_loopw [8] (fun i wz => ∃ (k : Nat) (C : Option Addr) (e : Nat), k ≤ x.clus % 3 ∧ i = .int .i64 k ∧ Hid (Made w wz x b (ofQ x at_ (prefS x) (medS x) (some ⟨sb, 0, none⟩) [⟨2, A2, asS x (x.long % 3), cc2⟩] 1 C k e)) ∧ Hid (U32Own wz (sb + 1) (.slice C (sv k).length e) (sv k)) ∧ Hid (CellsAt wz sb #[.int .i64 2, .slice A2 (asS x (x.long % 3)).length cc2] 84) ∧ Hid (U32Own wz (b + 1) (.slice A2 (asS x (x.long % 3)).length cc2) (asS x (x.long % 3)))) (fun i _ => 4 - (intOf i).toNat)
          case atStart => exact ⟨0, none, 0, by omega, rfl, M3.out, OwnM.nil _ _ _ _, HCS.out, HUS.out⟩
          case round =>
            obtain ⟨k, C, e, hk, rfl, HMr, HU, HCr, HUr⟩ := hrel
            clear M3 HCS HUS s0 s1 s3 s4 s5 s7 s8
            obtain ⟨s0, s1, s3, s4, s5, s7, s8⟩ := HMr.out.c
            have l21 := (HMr.out.box.c 21).trans (show (ofQ x at_ (prefS x) (medS x) (some ⟨sb, 0, none⟩) [⟨2, A2, asS x (x.long % 3), cc2⟩] 1 C k e).cs[21]? = some (.slice C (sv k).length e) from by kernel_rfl)
            have hsr := HCr.out.lt
            have hlen : (sv k).length ≤ 1000000 := by rw [sv_len]; omega
            have HLEN := Lib.hid hlen
            clear hlen
            by_cases hlt2 : (k : Int) < (x.clus : Int) % 3
            · have HC2 : Hid (CellsAt (wr.alloc (.cells #[.int .u32 7] 28)) wr.heap.size #[.int .u32 ((7 : Nat) : Int)] 28) := CellsAt.new _ _ _
              have HUa : Hid (U32Own (wr.alloc (.cells #[.int .u32 7] 28)) (sb + 1) (.slice C (sv k).length e) (sv k)) := OwnM.alloc HU.out _
              have HBS : Hid (sb + 1 ≤ (wr.alloc (.cells #[.int .u32 7] 28)).heap.size) := by
                show _ ≤ _
                simp
                omega
              go_wp2_with (with_reducible show wpList _ _ _ (_ :: _) _ _; refine wpList_append_u32 rfl (.tmp 81) (.tmp 82) rfl (sb + 1) (.slice C (sv k).length e) (sv k) rfl HUa 7 wr.heap.size rfl HC2 HLEN.out HBS.out ?_)
              intro A3 cc3 w3 HN HBG HGR
              have HBI := Lib.hid (HBG.out _ _ ((Below.refl (sb + 1) wr).alloc (by omega) _) (Nat.le_refl _))
              have HMn : Hid (Made w w3 x b (ofQ x at_ (prefS x) (medS x) (some ⟨sb, 0, none⟩) [⟨2, A2, asS x (x.long % 3), cc2⟩] 1 C k e)) := HMr.out.grow (HBI.out.mono (by omega))
              have HCn : Hid (CellsAt w3 sb #[.int .i64 2, .slice A2 (asS x (x.long % 3)).length cc2] 84) := HCr.out.below HBI.out (by omega)
              have HUn : Hid (U32Own w3 (b + 1) (.slice A2 (asS x (x.long % 3)).length cc2) (asS x (x.long % 3))) := OwnM.keep HUr.out (fun g hg => HBI.out.block g (by have := HLV.out g hg; have := HV3.out; omega))
              have HAS : Hid (sv (k + 1) = sv k ++ [7]) := by
                show _ = _
                unfold sv
                rw [List.replicate_succ']
              have HE : Hid ((ofQ x at_ (prefS x) (medS x) (some ⟨sb, 0, none⟩) [⟨2, A2, asS x (x.long % 3), cc2⟩] 1 C k e).cs.setIfInBounds 21 (.slice A3 ((sv k).length + 1) cc3) = (ofQ x at_ (prefS x) (medS x) (some ⟨sb, 0, none⟩) [⟨2, A2, asS x (x.long % 3), cc2⟩] 1 A3 (k + 1) cc3).cs) := by
                show _ = _
                kernel_rfl
              go_wp2_with (with_reducible show wpList _ _ _ (_ :: _) _ _; refine wpList_made_set rfl 30 (.tmp 85) (.tmp 83) rfl 21 rfl (.slice A3 ((sv k).length + 1) cc3) rfl (by kernel_rfl) HMn (ofQ x at_ (prefS x) (medS x) (some ⟨sb, 0, none⟩) [⟨2, A2, asS x (x.long % 3), cc2⟩] 1 A3 (k + 1) cc3) HE (by omega) rfl ?_)
              intro V4 M4 HS4 HK4
              have HC4 : Hid (CellsAt V4 sb #[.int .i64 2, .slice A2 (asS x (x.long % 3)).length cc2] 84) := (HK4.out _ (by omega)).trans HCn.out
              have HU4 : Hid (U32Own V4 (b + 1) (.slice A2 (asS x (x.long % 3)).length cc2) (asS x (x.long % 3))) := OwnM.keep HUn.out (fun g hg => HK4.out g (by have := (OwnM.lt HUn.out g hg).1; omega))
              have HN4 : Hid (U32Own V4 (sb + 1) (.slice A3 (sv (k + 1)).length cc3) (sv (k + 1))) := by
                show U32Own _ _ _ _
                rw [HAS.out, List.length_append]
                exact OwnM.keep HN.out (fun g hg => HK4.out g (by have := (OwnM.lt HN.out g hg).1; omega))
              go_wp2_with fail
              exact ⟨⟨k + 1, A3, cc3, by omega, by go_num, M4.out, HN4.out, HC4.out, HU4.out⟩, by simp [intOf]; omega⟩
            · obtain rfl : k = x.clus % 3 := by omega
              have HE : Hid ((((((((ofQ x at_ (prefS x) (medS x) (some ⟨sb, 0, none⟩) [⟨2, A2, asS x (x.long % 3), cc2⟩] 1 C (x.clus % 3) e).cs.setIfInBounds 22 (.int .i64 (1 + (x.kind : Int) % 5))).setIfInBounds 23 (.string ⟨#[112]⟩)).setIfInBounds 24 (.int .u32 0)).setIfInBounds 25 (.int .u32 ((x.id : Int) % 3))).setIfInBounds 26 (.string ⟨#[]⟩)).setIfInBounds 27 (.string ⟨#[]⟩)) = (ofP x at_ (some ⟨sb, 0, none⟩) A2 C 1 cc2 e).cs) := by
                show _ = _
                kernel_rfl
              have HAL : Hid ((#[.int .i64 (1 + (x.kind : Int) % 5), .string ⟨#[112]⟩, .int .u32 0, .int .u32 ((x.id : Int) % 3), .string ⟨#[]⟩, .string ⟨#[]⟩] : Array Value).all (·.oneCell') = true) := by
                show _ = true
                exact Array.all_eq_true_iff_forall_mem.2 (fun u hu => by simp only [List.mem_toArray, List.mem_cons, List.not_mem_nil, or_false] at hu; rcases hu with rfl | rfl | rfl | rfl | rfl | rfl <;> rfl)
              go_wp2_with (with_reducible show wpList _ _ _ (_ :: _) _ _; refine wpList_made_src rfl (.tmp 96) (.tmp 95) rfl rfl (.int .i64 (1 + (x.kind : Int) % 5)) (.string ⟨#[112]⟩) (.int .u32 0) (.int .u32 ((x.id : Int) % 3)) (.string ⟨#[]⟩) (.string ⟨#[]⟩) rfl HMr (ofP x at_ (some ⟨sb, 0, none⟩) A2 C 1 cc2 e) HE HAL.out ?_)
              intro V5 M5 HS5 HK5
              have HON := Lib.hid (ofP_ones x at_ (some ⟨sb, 0, none⟩) A2 C 1 cc2 e)
              have HC5 : Hid (CellsAt V5 sb #[.int .i64 2, .slice A2 (asS x (x.long % 3)).length cc2] 84) := (HK5.out _ (by omega)).trans HCr.out
              have HU5 : Hid (U32Own V5 (b + 1) (.slice A2 (asS x (x.long % 3)).length cc2) (asS x (x.long % 3))) := OwnM.keep HUr.out (fun g hg => HK5.out g (by have := (OwnM.lt HUr.out g hg).1; omega))
              have HN5 : Hid (U32Own V5 (sb + 1) (.slice C (sv (x.clus % 3)).length e) (sv (x.clus % 3))) := OwnM.keep HU.out (fun g hg => HK5.out g (by have := (OwnM.lt HU.out g hg).1; omega))
              clear s0 s1 s3 s4 s5 s7 s8 l21 HMr HU HCr HUr HE
              go_wp2_with (with_reducible show wpList _ _ _ (_ :: _) _ _; first | refine wpList_load_path' rfl (.tmp 5) rfl b 0 rfl (ofP x at_ (some ⟨sb, 0, none⟩) A2 C 1 cc2 e) M5.out.box.range ?_ | refine wpList_over_path rfl (.tmp 4) (.tmp 97) rfl rfl (ofP x at_ (some ⟨sb, 0, none⟩) A2 C 1 cc2 e) rfl rfl M5.out.res HON.out ?_)
              refine bodyPost_ret (results_path rfl _ _ (w.heap.size + 1) (ofP x at_ (some ⟨sb, 0, none⟩) A2 C 1 cc2 e) rfl (setRow_heap _ _ _ _ _ _ M5.out.res)) rfl ?_
              exact of_done M5.out hW hbw HC5.out HU5.out HN5.out (by omega)
    · have HMS : Hid (medS x = 0) := by
        show _ = _
        unfold medS
        rw [if_neg (by omega)]
      have HPS : Hid (prefS x = 0) := by
        show _ = _
        unfold prefS
        rw [if_neg (by omega)]
      have HM : Hid (Made w V0 x b (ofQ x at_ (prefS x) (medS x) none [] 0 none 0 0)) := by
        show Made _ _ _ _ _
        rw [HMS.out, HPS.out]
        exact M0.out
      obtain ⟨s0, s1, s3, s4, s5, s7, s8⟩ := HM.out.c
      have HMA : Hid (Made w (V0.alloc (.cells #[.int .u32 (1 + (x.as_ : Int) % 3)] 28)) x b (ofQ x at_ (prefS x) (medS x) none [] 0 none 0 0)) := HM.out.alloc _
      have HU0 : Hid (U32Own (V0.alloc (.cells #[.int .u32 (1 + (x.as_ : Int) % 3)] 28)) (b + 1) (.slice (some ⟨V0.heap.size, 0, none⟩) 1 1) (asS x 0)) := U32Own.one (n := 1 + x.as_ % 3) (CellsAt.new V0 #[.int .u32 (1 + (x.as_ : Int) % 3)] 28) (by have := HM.out.box.lt; omega)
      clear HMS HPS HM
      go_wp2_with fail
      go_loopw [6, 7] (fun o i wr => ∃ k : Nat, k ≤ x.long % 3 ∧ i = .int .i64 k ∧ Hid (Made w wr x b (ofQ x at_ (prefS x) (medS x) none [] 0 none 0 0)) ∧ Hid (U32Own wr (b + 1) o (asS x k))) (fun _ i _ => 4 - (intOf i).toNat)
      case atStart => exact ⟨0, by omega, rfl, HMA.out, HU0.out⟩
      case round =>
        obtain ⟨k, hk, rfl, HMr, HU⟩ := hrel
        clear HMA HU0 s0 s1 s3 s4 s5 s7 s8
        obtain ⟨s0, s1, s3, s4, s5, s7, s8⟩ := HMr.out.c
        obtain ⟨A2, cc2, rfl⟩ := OwnM.form HU.out
        have hbw := HMr.out.box.lt
        have hlen : (asS x k).length ≤ 1000000 := by unfold asS; rw [List.length_cons, List.length_replicate]; omega
        have HLEN := Lib.hid hlen
        clear hlen
        by_cases hlt : (k : Int) < (x.long : Int) % 3
        · have HC2 : Hid (CellsAt (wr.alloc (.cells #[.int .u32 9] 28)) wr.heap.size #[.int .u32 ((9 : Nat) : Int)] 28) := CellsAt.new _ _ _
          have HUa : Hid (U32Own (wr.alloc (.cells #[.int .u32 9] 28)) (b + 1) (.slice A2 (asS x k).length cc2) (asS x k)) := OwnM.alloc HU.out _
          have HBS : Hid (b + 1 ≤ (wr.alloc (.cells #[.int .u32 9] 28)).heap.size) := by
            show _ ≤ _
            simp
            omega
          go_wp2_with (with_reducible show wpList _ _ _ (_ :: _) _ _; refine wpList_append_u32 rfl (.tmp 63) (.tmp 64) rfl (b + 1) (.slice A2 (asS x k).length cc2) (asS x k) rfl HUa 9 wr.heap.size rfl HC2 HLEN.out HBS.out ?_)
          intro A3 cc3 w3 HN HBG HGR
          have HMn : Hid (Made w w3 x b (ofQ x at_ (prefS x) (medS x) none [] 0 none 0 0)) := HMr.out.grow (HBG.out _ _ ((Below.refl (b + 1) wr).alloc (by omega) _) (Nat.le_refl _))
          have HAS : Hid (asS x (k + 1) = asS x k ++ [9]) := by
            show _ = _
            unfold asS
            rw [List.replicate_succ']
            rfl
          have HN2 : Hid (U32Own w3 (b + 1) (.slice A3 ((asS x k).length + 1) cc3) (asS x (k + 1))) := by
            show U32Own _ _ _ _
            rw [HAS.out]
            exact HN.out
          go_wp2_with fail
          exact ⟨⟨k + 1, by omega, by go_num, HMn.out, HN2.out⟩, by simp [intOf]; omega⟩
        · obtain rfl : k = x.long % 3 := by omega
          generalize hsb : wr.heap.size = sb at hbw
          have HSB := Lib.hid hsb
          clear hsb
          have HMs : Hid (Made w (wr.alloc (.cells #[.int .i64 2, .slice A2 (asS x (x.long % 3)).length cc2] 84)) x b (ofQ x at_ (prefS x) (medS x) none [] 0 none 0 0)) := HMr.out.alloc _
          have HUs : Hid (U32Own (wr.alloc (.cells #[.int .i64 2, .slice A2 (asS x (x.long % 3)).length cc2] 84)) (b + 1) (.slice A2 (asS x (x.long % 3)).length cc2) (asS x (x.long % 3))) := OwnM.alloc HU.out _
          have HCs : Hid (CellsAt (wr.alloc (.cells #[.int .i64 2, .slice A2 (asS x (x.long % 3)).length cc2] 84)) wr.heap.size #[.int .i64 2, .slice A2 (asS x (x.long % 3)).length cc2] 84) := CellsAt.new _ _ _
          have HE7 : Hid ((ofQ x at_ (prefS x) (medS x) none [] 0 none 0 0).cs.setIfInBounds 7 (.slice (some ⟨wr.heap.size, 0, none⟩) 1 1) = (ofQ x at_ (prefS x) (medS x) (some ⟨wr.heap.size, 0, none⟩) [⟨2, A2, asS x (x.long % 3), cc2⟩] 1 none 0 0).cs) := by
            show _ = _
            kernel_rfl
          go_wp2_with (with_reducible show wpList _ _ _ (_ :: _) _ _; refine wpList_made_set rfl 29 (.tmp 70) (.tmp 68) rfl 7 rfl (.slice (some ⟨wr.heap.size, 0, none⟩) 1 1) rfl (by kernel_rfl) HMs (ofQ x at_ (prefS x) (medS x) (some ⟨wr.heap.size, 0, none⟩) [⟨2, A2, asS x (x.long % 3), cc2⟩] 1 none 0 0) HE7 (by omega) rfl ?_)
          intro V3 M3 HS3 HK3
          have HCS : Hid (CellsAt V3 wr.heap.size #[.int .i64 2, .slice A2 (asS x (x.long % 3)).length cc2] 84) := (HK3.out _ (by rw [HSB.out]; omega)).trans HCs.out
          have HUS : Hid (U32Own V3 (b + 1) (.slice A2 (asS x (x.long % 3)).length cc2) (asS x (x.long % 3))) := OwnM.keep HUs.out (fun g hg => HK3.out g (by have := (OwnM.lt HUs.out g hg).1; omega))
          have HLV : Hid (∀ g, (Value.slice A2 (asS x (x.long % 3)).length cc2).ownBlock = some g → g < V3.heap.size) := fun g hg => (OwnM.lt HUS.out g hg).2
          have hv3 : V3.heap.size = sb + 1 := by rw [HS3.out]; simp [HSB.out]
          rw [HSB.out] at HCS M3
          have HV3 := Lib.hid hv3
          clear HMr HU HMs HUs HCs HE7 HS3 HK3 HSB hv3 s0 s1 s3 s4 s5 s7 s8
          obtain ⟨s0, s1, s3, s4, s5, s7, s8⟩ := M3.out.c
          go_wp2_with fail
          go_loopw [8] (fun i wz => ∃ (k : Nat) (C : Option Addr) (e : Nat), k ≤ x.clus % 3 ∧ i = .int .i64 k ∧ Hid (Made w wz x b (ofQ x at_ (prefS x) (medS x) (some ⟨sb, 0, none⟩) [⟨2, A2, asS x (x.long % 3), cc2⟩] 1 C k e)) ∧ Hid (U32Own wz (sb + 1) (.slice C (sv k).length e) (sv k)) ∧ Hid (CellsAt wz sb #[.int .i64 2, .slice A2 (asS x (x.long % 3)).length cc2] 84) ∧ Hid (U32Own wz (b + 1) (.slice A2 (asS x (x.long % 3)).length cc2) (asS x (x.long % 3)))) (fun i _ => 4 - (intOf i).toNat)
          case atStart => exact ⟨0, none, 0, by omega, rfl, M3.out, OwnM.nil _ _ _ _, HCS.out, HUS.out⟩
          case round =>
            obtain ⟨k, C, e, hk, rfl, HMr, HU, HCr, HUr⟩ := hrel
            clear M3 HCS HUS s0 s1 s3 s4 s5 s7 s8
            obtain ⟨s0, s1, s3, s4, s5, s7, s8⟩ := HMr.out.c
            have l21 := (HMr.out.box.c 21).trans (show (ofQ x at_ (prefS x) (medS x) (some ⟨sb, 0, none⟩) [⟨2, A2, asS x (x.long % 3), cc2⟩] 1 C k e).cs[21]? = some (.slice C (sv k).length e) from by kernel_rfl)
            have hsr := HCr.out.lt
            have hlen : (sv k).length ≤ 1000000 := by rw [sv_len]; omega
            have HLEN := Lib.hid hlen
            clear hlen
            by_cases hlt2 : (k : Int) < (x.clus : Int) % 3
            · have HC2 : Hid (CellsAt (wr.alloc (.cells #[.int .u32 7] 28)) wr.heap.size #[.int .u32 ((7 : Nat) : Int)] 28) := CellsAt.new _ _ _
              have HUa : Hid (U32Own (wr.alloc (.cells #[.int .u32 7] 28)) (sb + 1) (.slice C (sv k).length e) (sv k)) := OwnM.alloc HU.out _
              have HBS : Hid (sb + 1 ≤ (wr.alloc (.cells #[.int .u32 7] 28)).heap.size) := by
                show _ ≤ _
                simp
                omega
              go_wp2_with (with_reducible show wpList _ _ _ (_ :: _) _ _; refine wpList_append_u32 rfl (.tmp 81) (.tmp 82) rfl (sb + 1) (.slice C (sv k).length e) (sv k) rfl HUa 7 wr.heap.size rfl HC2 HLEN.out HBS.out ?_)
              intro A3 cc3 w3 HN HBG HGR
              have HBI := Lib.hid (HBG.out _ _ ((Below.refl (sb + 1) wr).alloc (by omega) _) (Nat.le_refl _))
              have HMn : Hid (Made w w3 x b (ofQ x at_ (prefS x) (medS x) (some ⟨sb, 0, none⟩) [⟨2, A2, asS x (x.long % 3), cc2⟩] 1 C k e)) := HMr.out.grow (HBI.out.mono (by omega))
              have HCn : Hid (CellsAt w3 sb #[.int .i64 2, .slice A2 (asS x (x.long % 3)).length cc2] 84) := HCr.out.below HBI.out (by omega)
              have HUn : Hid (U32Own w3 (b + 1) (.slice A2 (asS x (x.long % 3)).length cc2) (asS x (x.long % 3))) := OwnM.keep HUr.out (fun g hg => HBI.out.block g (by have := HLV.out g hg; have := HV3.out; omega))
              have HAS : Hid (sv (k + 1) = sv k ++ [7]) := by
                show _ = _
                unfold sv
                rw [List.replicate_succ']
              have HE : Hid ((ofQ x at_ (prefS x) (medS x) (some ⟨sb, 0, none⟩) [⟨2, A2, asS x (x.long % 3), cc2⟩] 1 C k e).cs.setIfInBounds 21 (.slice A3 ((sv k).length + 1) cc3) = (ofQ x at_ (prefS x) (medS x) (some ⟨sb, 0, none⟩) [⟨2, A2, asS x (x.long % 3), cc2⟩] 1 A3 (k + 1) cc3).cs) := by
                show _ = _
                kernel_rfl
              go_wp2_with (with_reducible show wpList _ _ _ (_ :: _) _ _; refine wpList_made_set rfl 30 (.tmp 85) (.tmp 83) rfl 21 rfl (.slice A3 ((sv k).length + 1) cc3) rfl (by kernel_rfl) HMn (ofQ x at_ (prefS x) (medS x) (some ⟨sb, 0, none⟩) [⟨2, A2, asS x (x.long % 3), cc2⟩] 1 A3 (k + 1) cc3) HE (by omega) rfl ?_)
              intro V4 M4 HS4 HK4
              have HC4 : Hid (CellsAt V4 sb #[.int .i64 2, .slice A2 (asS x (x.long % 3)).length cc2] 84) := (HK4.out _ (by omega)).trans HCn.out
              have HU4 : Hid (U32Own V4 (b + 1) (.slice A2 (asS x (x.long % 3)).length cc2) (asS x (x.long % 3))) := OwnM.keep HUn.out (fun g hg => HK4.out g (by have := (OwnM.lt HUn.out g hg).1; omega))
              have HN4 : Hid (U32Own V4 (sb + 1) (.slice A3 (sv (k + 1)).length cc3) (sv (k + 1))) := by
                show U32Own _ _ _ _
                rw [HAS.out, List.length_append]
                exact OwnM.keep HN.out (fun g hg => HK4.out g (by have := (OwnM.lt HN.out g hg).1; omega))
              go_wp2_with fail
              exact ⟨⟨k + 1, A3, cc3, by omega, by go_num, M4.out, HN4.out, HC4.out, HU4.out⟩, by simp [intOf]; omega⟩
            · obtain rfl : k = x.clus % 3 := by omega
              have HE : Hid ((((((((ofQ x at_ (prefS x) (medS x) (some ⟨sb, 0, none⟩) [⟨2, A2, asS x (x.long % 3), cc2⟩] 1 C (x.clus % 3) e).cs.setIfInBounds 22 (.int .i64 (1 + (x.kind : Int) % 5))).setIfInBounds 23 (.string ⟨#[112]⟩)).setIfInBounds 24 (.int .u32 0)).setIfInBounds 25 (.int .u32 ((x.id : Int) % 3))).setIfInBounds 26 (.string ⟨#[]⟩)).setIfInBounds 27 (.string ⟨#[]⟩)) = (ofP x at_ (some ⟨sb, 0, none⟩) A2 C 1 cc2 e).cs) := by
                show _ = _
                kernel_rfl
              have HAL : Hid ((#[.int .i64 (1 + (x.kind : Int) % 5), .string ⟨#[112]⟩, .int .u32 0, .int .u32 ((x.id : Int) % 3), .string ⟨#[]⟩, .string ⟨#[]⟩] : Array Value).all (·.oneCell') = true) := by
                show _ = true
                exact Array.all_eq_true_iff_forall_mem.2 (fun u hu => by simp only [List.mem_toArray, List.mem_cons, List.not_mem_nil, or_false] at hu; rcases hu with rfl | rfl | rfl | rfl | rfl | rfl <;> rfl)
              go_wp2_with (with_reducible show wpList _ _ _ (_ :: _) _ _; refine wpList_made_src rfl (.tmp 96) (.tmp 95) rfl rfl (.int .i64 (1 + (x.kind : Int) % 5)) (.string ⟨#[112]⟩) (.int .u32 0) (.int .u32 ((x.id : Int) % 3)) (.string ⟨#[]⟩) (.string ⟨#[]⟩) rfl HMr (ofP x at_ (some ⟨sb, 0, none⟩) A2 C 1 cc2 e) HE HAL.out ?_)
              intro V5 M5 HS5 HK5
              have HON := Lib.hid (ofP_ones x at_ (some ⟨sb, 0, none⟩) A2 C 1 cc2 e)
              have HC5 : Hid (CellsAt V5 sb #[.int .i64 2, .slice A2 (asS x (x.long % 3)).length cc2] 84) := (HK5.out _ (by omega)).trans HCr.out
              have HU5 : Hid (U32Own V5 (b + 1) (.slice A2 (asS x (x.long % 3)).length cc2) (asS x (x.long % 3))) := OwnM.keep HUr.out (fun g hg => HK5.out g (by have := (OwnM.lt HUr.out g hg).1; omega))
              have HN5 : Hid (U32Own V5 (sb + 1) (.slice C (sv (x.clus % 3)).length e) (sv (x.clus % 3))) := OwnM.keep HU.out (fun g hg => HK5.out g (by have := (OwnM.lt HU.out g hg).1; omega))
              clear s0 s1 s3 s4 s5 s7 s8 l21 HMr HU HCr HUr HE
              go_wp2_with (with_reducible show wpList _ _ _ (_ :: _) _ _; first | refine wpList_load_path' rfl (.tmp 5) rfl b 0 rfl (ofP x at_ (some ⟨sb, 0, none⟩) A2 C 1 cc2 e) M5.out.box.range ?_ | refine wpList_over_path rfl (.tmp 4) (.tmp 97) rfl rfl (ofP x at_ (some ⟨sb, 0, none⟩) A2 C 1 cc2 e) rfl rfl M5.out.res HON.out ?_)
              refine bodyPost_ret (results_path rfl _ _ (w.heap.size + 1) (ofP x at_ (some ⟨sb, 0, none⟩) A2 C 1 cc2 e) rfl (setRow_heap _ _ _ _ _ _ M5.out.res)) rfl ?_
              exact of_done M5.out hW hbw HC5.out HU5.out HN5.out (by omega)
end Go.Proofs.Ytoamigfjpcniaaa
