/-
  Several texts in one.
-/
import Derived.Test.YtkcojblflebomaaGreatNR29
import Derived.Test.YtkcojblflebomaaGreatNR23
import Derived.Test.YtkcojblflebomaaGreatNR28
set_option linter.unusedVariables false
set_option linter.unusedSimpArgs false
namespace Go.Proofs.YtkcojblflebomaaGreat
open Go.RowKit Go.MapKept Go.Shelf
open Go.Lib hiding intOf

/-- what reads one thing of so many bytes -/
def OneRd {α : Type} (f : FuncId) (S : Nat) (E : α → Value) (one : ByteArray → α) : Prop :=
  ∀ (b : Nat) (s : ByteArray) (w : World), RdAt w b s → S ≤ s.size → (s.size : Int) ≤ 140737488351232 → Calls Tryz.prog f #[.pointer (some ⟨b, 0, none⟩)] w fun e w' => e = .returned (E (one s)) ∧ RdAt w' b (nx s S) ∧ w.grownBy w' (some b)
set_option maxHeartbeats 4000000 in
theorem one4 : OneRd 113 4 (fun n : Nat => Value.int .u32 (n : Nat)) (fun s => hd s 4) := by
  intro b s w h hs hm
  show Calls _ _ _ _ fun e w' => e = .returned (.int .u32 (hd s 4 : Nat)) ∧ RdAt w' b (nx s 4) ∧ w.grownBy w' (some b)
  have HNU := Lib.hid (number_nx b s 4 w h (by decide) (by decide) hs (by omega))
  have hlt := h.lt
  have hn4 : hd s 4 < 4294967296 := hd_u32 s
  generalize hd s 4 = n at HNU hn4 ⊢
  have zw : IntKind.u32.wrap ((n : Nat) : Int) = ((n : Nat) : Int) := by rw [IntKind.wrap_u32]; omega
  clear h
  go_enter Tryz.func113, Tryz.ntmps113
  go_wp2_with fail
  refine HNU.out.mono ?_
  rintro e w1 ⟨rfl, hr, hg⟩
  have HR := Lib.hid hr
  have HG := Lib.hid hg
  clear hr hg
  go_wp2_with fail
  go_ret
  exact ⟨rfl, HR.out, HG.out⟩
theorem or_join32 (v c : Int) (h0 : 0 ≤ v) (h1 : v < 4294967296) (c0 : 0 ≤ c) (c1 : c < 4294967296) : bits .or .u64 (v * 4294967296) c = v * 4294967296 + c := by
  rw [u64_or _ _ (by omega) (by omega) (by omega) (by omega), nat_join 32 _ _ (by omega) (by omega)]
  omega
theorem beVal_cat : ∀ (r l : List UInt8), beVal (l ++ r) = beVal l * 256 ^ r.length + beVal r := by
  intro r
  induction r with
  | nil => intro l; simp [beVal]
  | cons a r ih =>
    intro l
    have h1 := ih (l ++ [a])
    have h2 := ih [a]
    rw [List.append_assoc, beVal_snoc] at h1
    have e : beVal [a] = a.toNat := by simp [beVal]
    rw [e] at h2
    simp only [List.singleton_append] at h1 h2
    rw [h1, h2, List.length_cons, Nat.pow_succ, Nat.add_mul, Nat.mul_assoc, Nat.mul_comm 256]
    omega
theorem hd_eight (s : ByteArray) (h : 8 ≤ s.size) : hd s 8 = hd s 4 * 4294967296 + hd (nx s 4) 4 := by
  unfold hd
  rw [nx_list]
  have e : s.data.toList.take 8 = s.data.toList.take 4 ++ (s.data.toList.drop 4).take 4 := by rw [← List.take_add]
  have hl : ((s.data.toList.drop 4).take 4).length = 4 := by
    have : s.data.toList.length = s.size := Array.length_toList
    rw [List.length_take, List.length_drop]
    omega
  rw [e, beVal_cat, hl]
theorem rd4 (b : Nat) (s : ByteArray) (w : World) (h : RdAt w b s) (hs : 4 ≤ s.size) (hm : (s.size : Int) ≤ 140737488351232) : Calls Tryz.prog 113 #[.pointer (some ⟨b, 0, none⟩)] w fun e w' => e = .returned (.int .u32 (hd s 4 : Nat)) ∧ RdAt w' b (nx s 4) ∧ w.grownBy w' (some b) := one4 b s w h hs hm
set_option maxHeartbeats 4000000 in
theorem one8 : OneRd 115 8 (fun n : Nat => Value.int .u64 (n : Nat)) (fun s => hd s 8) := by
  intro b s w h hs hm
  show Calls _ _ _ _ fun e w' => e = .returned (.int .u64 (hd s 8 : Nat)) ∧ RdAt w' b (nx s 8) ∧ w.grownBy w' (some b)
  have HON := Lib.hid rd4
  have HR := Lib.hid h
  have HV := Lib.hid (hd_eight s hs)
  have HT : Hid (nx (nx s 4) 4 = nx s 8) := nx_nx s 4 4
  have HTS : Hid ((nx s 4).size = s.size - 4) := nx_size s 4
  have h1 : hd s 4 < 4294967296 := hd_u32 s
  have h2 : hd (nx s 4) 4 < 4294967296 := hd_u32 _
  clear h
  go_enter Tryz.func115, Tryz.ntmps115
  go_wp2_with fail
  refine (HON.out b s w HR.out (by omega) hm).mono ?_
  rintro e w1 ⟨rfl, hr1, hg1⟩
  have HR1 := Lib.hid hr1
  have HG1 := Lib.hid hg1
  clear hr1 hg1
  go_wp2_with fail
  refine (HON.out b _ w1 HR1.out (by rw [HTS.out]; omega) (by rw [HTS.out]; omega)).mono ?_
  rintro e w2 ⟨rfl, hr2, hg2⟩
  have HR2 := Lib.hid hr2
  have HG2 := Lib.hid hg2
  clear hr2 hg2
  go_wp2_with fail
  go_ret
  refine ⟨?_, by rw [← HT.out]; exact HR2.out, grown_trans HG1.out HG2.out⟩
  rw [HV.out, Int.natCast_add, Int.natCast_mul]
  show Ending.returned (Value.int .u64 (bits .or .u64 _ _)) = _
  rw [or_join32 _ _ (by omega) (by omega) (by omega) (by omega)]
  rfl
theorem lg_size : (Tryz.prog.info? 59).map (·.size) = some 3 := by kernel_rfl
set_option maxHeartbeats 4000000 in
theorem one12 : OneRd 117 12 (fun x : Lg => Value.agg x.cs.toArray) (fun s => ⟨hd s 4, hd (nx s 4) 4, hd (nx s 8) 4⟩) := by
  intro b s w h hs hm
  show Calls _ _ _ _ fun e w' => e = .returned (.agg #[.int .u32 (hd s 4 : Nat), .int .u32 (hd (nx s 4) 4 : Nat), .int .u32 (hd (nx s 8) 4 : Nat)]) ∧ RdAt w' b (nx s 12) ∧ w.grownBy w' (some b)
  have HON := Lib.hid rd4
  have HTS : Hid ((nx s 4).size = s.size - 4) := nx_size s 4
  have HTS2 : Hid ((nx s 8).size = s.size - 8) := nx_size s 8
  have hlt := h.lt
  obtain ⟨V, hV⟩ : ∃ V, V = w.alloc (.cells #[.int .u32 0, .int .u32 0, .int .u32 0] 59) := ⟨_, rfl⟩
  have HC0 : Hid (CellsAt V w.heap.size #[.int .u32 0, .int .u32 0, .int .u32 0] 59) := by rw [hV]; exact CellsAt.new _ _ _
  have HR0 : Hid (RdAt V b s) := by rw [hV]; exact (Below.heap_alloc _ _ _ h.lt).trans h
  have HG0 : Hid (w.grownBy V (some b)) := by rw [hV]; exact grown_of_below ((Below.refl _ _).alloc (Nat.le_refl _) _) _
  have HT : Hid (nx (nx s 4) 4 = nx s 8) := nx_nx s 4 4
  have HT2 : Hid (nx (nx s 8) 4 = nx s 12) := nx_nx s 8 4
  clear h
  go_enter Tryz.func117, Tryz.ntmps117
  go_wp2_with fail
  rw [← hV]
  clear hV
  refine (HON.out b s V HR0.out (by omega) hm).mono ?_
  rintro e w1 ⟨rfl, hr1, hg1⟩
  have HR1 := Lib.hid hr1
  have HC1 : Hid (CellsAt w1 w.heap.size #[.int .u32 0, .int .u32 0, .int .u32 0] 59) := HC0.out.row hg1 (by omega)
  have HG1 : Hid (w.grownBy w1 (some b)) := grown_trans HG0.out hg1
  obtain ⟨n1, hn1⟩ : ∃ n, n = hd s 4 := ⟨_, rfl⟩
  rw [← hn1]
  have HN1 := Lib.hid hn1
  clear hn1
  clear hr1 hg1 HC0 HR0 HG0
  have HD1 : Hid (CellsAt (w1.alloc (.cells #[.int .u32 0, .int .u32 0, .int .u32 0] 59)) w1.heap.size #[.int .u32 0, .int .u32 0, .int .u32 0] 59) := CellsAt.new _ _ _
  go_wp2_with (with_reducible show wpList _ _ _ (_ :: _) _ _; refine wpList_store_row rfl 59 (.tmp 3) (.tmp 6) rfl w1.heap.size #[.int .u32 (n1 : Nat), .int .u32 0, .int .u32 0] rfl rfl 59 #[.int .u32 0, .int .u32 0, .int .u32 0] HD1.out lg_size rfl rfl ?_)
  obtain ⟨V1, hV1⟩ : ∃ V1, V1 = w1.alloc (.cells #[.int .u32 (n1 : Nat), .int .u32 0, .int .u32 0] 59) := ⟨_, rfl⟩
  rw [← hV1]
  have hl1 : b < w1.heap.size := HR1.out.lt
  have hl0 : w.heap.size < w1.heap.size := HC1.out.lt
  have hs1 : V1.heap.size = w1.heap.size + 1 := by rw [hV1]; simp
  have HE1 : Hid (CellsAt V1 w1.heap.size #[.int .u32 (n1 : Nat), .int .u32 0, .int .u32 0] 59) := by rw [hV1]; exact CellsAt.new _ _ _
  have HRV : Hid (RdAt V1 b (nx s 4)) := by rw [hV1]; exact (Below.heap_alloc _ _ _ hl1).trans HR1.out
  have HCV : Hid (CellsAt V1 w.heap.size #[.int .u32 0, .int .u32 0, .int .u32 0] 59) := by rw [hV1]; exact HC1.out.alloc _
  have HGV : Hid (w.grownBy V1 (some b)) := by rw [hV1]; exact grown_trans HG1.out (grown_of_below ((Below.refl _ _).alloc (Nat.le_refl _) _) _)
  obtain ⟨g, hg⟩ : ∃ g, g = w1.heap.size := ⟨_, rfl⟩
  rw [← hg] at HE1 hl1 hl0 ⊢
  clear hV1 HR1 HC1 HG1 HD1 hs1 hg
  refine (HON.out b _ V1 HRV.out (by rw [HTS.out]; omega) (by rw [HTS.out]; omega)).mono ?_
  rintro e w2 ⟨rfl, hr2, hg2⟩
  have HR2 : Hid (RdAt w2 b (nx s 8)) := by rw [← HT.out]; exact hr2
  have HC2 : Hid (CellsAt w2 w.heap.size #[.int .u32 0, .int .u32 0, .int .u32 0] 59) := HCV.out.row hg2 (by omega)
  have HE2 : Hid (CellsAt w2 g #[.int .u32 (n1 : Nat), .int .u32 0, .int .u32 0] 59) := HE1.out.row hg2 (by omega)
  have HG2 : Hid (w.grownBy w2 (some b)) := grown_trans HGV.out hg2
  obtain ⟨n2, hn2⟩ : ∃ n, n = hd (nx s 4) 4 := ⟨_, rfl⟩
  rw [← hn2]
  have HN2 := Lib.hid hn2
  clear hn2
  clear hr2 hg2 HRV HCV HGV HE1
  have e0 := (HE2.out.c 1).trans (show (#[Value.int .u32 (n1 : Nat), .int .u32 0, .int .u32 0] : Array Value)[1]? = some (.int .u32 0) from rfl)
  have e1 := HE2.out.unfrozen 1
  go_wp2_with fail
  obtain ⟨V2, hV2⟩ : ∃ V2, V2 = w2.setCell ⟨g, 1, none⟩ (.int .u32 (n2 : Nat)) := ⟨_, rfl⟩
  rw [← hV2]
  have HE3 : Hid (CellsAt V2 g #[.int .u32 (n1 : Nat), .int .u32 (n2 : Nat), .int .u32 0] 59) := by rw [hV2]; exact HE2.out.setAt 1 _
  have HR3 : Hid (RdAt V2 b (nx s 8)) := by rw [hV2]; exact (Below.heap_setCell w2 _ _ b (show b ≠ g by omega)).trans HR2.out
  have HC3 : Hid (CellsAt V2 w.heap.size #[.int .u32 0, .int .u32 0, .int .u32 0] 59) := by rw [hV2]; exact (Below.heap_setCell w2 _ _ w.heap.size (show w.heap.size ≠ g by omega)).trans HC2.out
  have HG3 : Hid (w.grownBy V2 (some b)) := by
    rw [hV2]
    have h := grown_setCell w2 ⟨g, 1, none⟩ (.int .u32 (n2 : Nat))
    have h1 := HG2.out
    exact ⟨h.os.trans h1.os, h.tape.trans h1.tape, h.output.trans h1.output, Nat.le_trans h1.size h.size, fun i hi hx => (Below.heap_setCell w2 _ _ i (show i ≠ g by omega)).trans (h1.block i hi hx)⟩
  clear hV2 e0 e1 HE2 HR2 HC2 HG2
  refine (HON.out b _ V2 HR3.out (by rw [HTS2.out]; omega) (by rw [HTS2.out]; omega)).mono ?_
  rintro e w3 ⟨rfl, hr3, hg3⟩
  have HR4 : Hid (RdAt w3 b (nx s 12)) := by rw [← HT2.out]; exact hr3
  have HC4 : Hid (CellsAt w3 w.heap.size #[.int .u32 0, .int .u32 0, .int .u32 0] 59) := HC3.out.row hg3 (by omega)
  have HE4 : Hid (CellsAt w3 g #[.int .u32 (n1 : Nat), .int .u32 (n2 : Nat), .int .u32 0] 59) := HE3.out.row hg3 (by omega)
  have HG4 : Hid (w.grownBy w3 (some b)) := grown_trans HG3.out hg3
  obtain ⟨n3, hn3⟩ : ∃ n, n = hd (nx s 8) 4 := ⟨_, rfl⟩
  rw [← hn3]
  have HN3 := Lib.hid hn3
  clear hn3
  clear hr3 hg3 HR3 HC3 HG3 HE3
  have e0 := (HE4.out.c 2).trans (show (#[Value.int .u32 (n1 : Nat), .int .u32 (n2 : Nat), .int .u32 0] : Array Value)[2]? = some (.int .u32 0) from rfl)
  have e1 := HE4.out.unfrozen 2
  go_upto_region 4 with fail
  obtain ⟨V3, hV3⟩ : ∃ V3, V3 = w3.setCell ⟨g, 2, none⟩ (.int .u32 (n3 : Nat)) := ⟨_, rfl⟩
  rw [← hV3]
  have HE5 : Hid (CellsAt V3 g #[.int .u32 (n1 : Nat), .int .u32 (n2 : Nat), .int .u32 (n3 : Nat)] 59) := by rw [hV3]; exact HE4.out.setAt 2 _
  have HR5 : Hid (RdAt V3 b (nx s 12)) := by rw [hV3]; exact (Below.heap_setCell w3 _ _ b (show b ≠ g by omega)).trans HR4.out
  have HC5 : Hid (CellsAt V3 w.heap.size #[.int .u32 0, .int .u32 0, .int .u32 0] 59) := by rw [hV3]; exact (Below.heap_setCell w3 _ _ w.heap.size (show w.heap.size ≠ g by omega)).trans HC4.out
  have HG5 : Hid (w.grownBy V3 (some b)) := by
    rw [hV3]
    have h := grown_setCell w3 ⟨g, 2, none⟩ (.int .u32 (n3 : Nat))
    have h1 := HG4.out
    exact ⟨h.os.trans h1.os, h.tape.trans h1.tape, h.output.trans h1.output, Nat.le_trans h1.size h.size, fun i hi hx => (Below.heap_setCell w3 _ _ i (show i ≠ g by omega)).trans (h1.block i hi hx)⟩
  clear hV3 e0 e1 HE4 HR4 HC4 HG4
  obtain ⟨c0, c1, c2⟩ := HE5.out.c3
  go_wp2_with (with_reducible show wpList _ _ _ (⟨none, _, _, _, _, _⟩ :: _) _ _; have hstop : True := trivial; revert hstop)
  intro _
  refine wpList_store_row rfl 59 (.tmp 2) (.tmp 13) rfl w.heap.size #[.int .u32 (n1 : Nat), .int .u32 (n2 : Nat), .int .u32 (n3 : Nat)] rfl rfl 59 #[.int .u32 0, .int .u32 0, .int .u32 0] HC5.out (by kernel_rfl) (by kernel_rfl) (by kernel_rfl) ?_
  have HRF : Hid (RdAt (V3.setRow w.heap.size #[.int .u32 (n1 : Nat), .int .u32 (n2 : Nat), .int .u32 (n3 : Nat)]) b (nx s 12)) := (setRow_other V3 w.heap.size b _ (by omega)).trans HR5.out
  have HGF : Hid (w.grownBy (V3.setRow w.heap.size #[.int .u32 (n1 : Nat), .int .u32 (n2 : Nat), .int .u32 (n3 : Nat)]) (some b)) := by
    have h1 := HG5.out
    exact ⟨h1.os, h1.tape, h1.output, by rw [setRow_size]; exact h1.size, fun i hi hx => (setRow_other V3 w.heap.size i _ (by omega)).trans (h1.block i hi hx)⟩
  have HCG : Hid (CellsAt (V3.setRow w.heap.size #[.int .u32 (n1 : Nat), .int .u32 (n2 : Nat), .int .u32 (n3 : Nat)]) w.heap.size #[.int .u32 (n1 : Nat), .int .u32 (n2 : Nat), .int .u32 (n3 : Nat)] 59) := setRow_heap V3 w.heap.size _ _ _ _ HC5.out
  clear c0 c1 c2
  go_wp2_with fail
  exact bodyPost_ret (results_cell_row rfl _ _ w.heap.size 59 #[.int .u32 (n1 : Nat), .int .u32 (n2 : Nat), .int .u32 (n3 : Nat)] (0, 0) _ rfl HCG.out Tryz.underlying59 rfl lg_size) rfl ⟨by rw [HN1.out, HN2.out, HN3.out], HRF.out, HGF.out⟩
end Go.Proofs.YtkcojblflebomaaGreat
