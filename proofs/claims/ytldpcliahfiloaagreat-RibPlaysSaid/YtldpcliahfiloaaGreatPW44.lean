/-
  Several texts in one.
-/
import Derived.Test.YtldpcliahfiloaaGreatPW43
set_option linter.unusedVariables false
set_option linter.unusedSimpArgs false
namespace Go.Proofs.YtldpcliahfiloaaGreat
open Go.RowKit Go.MapKept Go.Shelf
open Go.ChangeShapes Go.WideShapes Go.ChangeAt
open Go.ChangeMaps (open_string shut_string)
open Go.Lib hiding intOf
open Go.Sort hiding Below

/-- Gone -/
def goneD (C : List TdC) (k : Pk) : Bool × List TdC := if (placeF C k).2 = true then (true, C.take (placeF C k).1 ++ C.drop ((placeF C k).1 + 1)) else (false, C)
theorem Rel.goneD {M C : List TdC} (h : Rel M C) (k : Pk) : (getC M k).isSome = (Go.Proofs.YtldpcliahfiloaaGreat.goneD C k).1 ∧ Rel (delC M k) (Go.Proofs.YtldpcliahfiloaaGreat.goneD C k).2 := by
  unfold Go.Proofs.YtldpcliahfiloaaGreat.goneD
  cases hp : (placeF C k).2 with
  | true =>
    obtain ⟨t, _, _, e⟩ := (h.get k).1 hp
    rw [if_pos rfl, e]
    exact ⟨rfl, h.gone k hp⟩
  | false =>
    rw [if_neg (by decide), (h.get k).2 hp, h.gone' k hp]
    exact ⟨rfl, h⟩
def D22 (w w' : World) (A : Option Addr) (c : Nat) (L : List Td) (most : Int) (r : Bool × List TdC) (e : Ending) : Prop :=
  ∃ A' c' L', e = .returned (.tuple #[.agg (ribAr most A' (List.length L') c'), .bool r.1]) ∧ NewL w w' A c L A' c' L' ∧ L'.map Td.c = r.2
set_option maxRecDepth 100000 in
set_option maxHeartbeats 8000000 in
theorem gone22_any {w : World} {A : Option Addr} {c : Nat} {L : List Td} (h : PhL w A c L) (hs : Srt (L.map Td.c)) (hL : L.length < 900) (most : Int) (k : Pk) (hk : k.Ok) :
    Calls Tryz.prog 16 #[.agg (ribAr most A L.length c), .agg k.pf, .int .u32 (k.id : Nat)] w fun e w' => D22 w w' A c L most (goneD (L.map Td.c) k) e ∧ Below w.heap.size w w' := by
  have HP := Lib.hid h
  have HPL : Hid (∀ W, Below w.heap.size w W → Calls Tryz.prog 40 #[.slice A L.length c, .agg #[.int .i64 k.fam, .int .u64 k.rd, .string k.addr, .int .i64 k.len], .int .u32 (k.id : Nat)] W fun e w' => e = .returned (.tuple #[.int .i64 ((placeF (L.map Td.c) k).1 : Nat), .bool (placeF (L.map Td.c) k).2]) ∧ Below W.heap.size W w') := fun W hW => place_any (HP.out.below hW) (by omega) k hk
  have hlc := h.len
  have hcm := h.cap
  unfold maxLen at hcm
  have HLE := Lib.hid (placeF_le (L.map Td.c) k hs)
  have HLN : Hid ((L.map Td.c).length = L.length) := List.length_map ..
  have HLT9 := Lib.hid hL
  obtain ⟨r3, hr3⟩ : ∃ r3, r3 = goneD (L.map Td.c) k := ⟨_, rfl⟩
  rw [← hr3]
  unfold goneD at hr3
  have HRR := Lib.hid hr3
  clear h hs hr3
  unfold Pk.pf
  generalize placeF (L.map Td.c) k = r at HPL HLE HRR
  obtain ⟨i, is⟩ := r
  dsimp only at HPL HLE HRR
  go_enter Tryz.func16, Tryz.ntmps16
  go_upto_region 1 with fail
  refine rb_name fun V hV => ?_
  obtain ⟨s, hs⟩ : ∃ s, s = w.heap.size := ⟨_, rfl⟩
  have HR0 : Hid (CellsAt V s (ribAr most A L.length c) 27) := by rw [hV, hs]; exact ((CellsAt.new _ _ _).alloc _).alloc _
  have HK0 : Hid (CellsAt V (s + 1) #[.int .i64 k.fam, .int .u64 k.rd, .string k.addr, .int .i64 k.len] 32) := by
    have h := CellsAt.new (w.alloc (.cells (ribAr most A L.length c) 27)) #[.int .i64 k.fam, .int .u64 k.rd, .string k.addr, .int .i64 k.len] 32
    rw [World.size_alloc] at h
    rw [hV, hs]
    exact h.alloc _
  have HQ0 : Hid (CellsAt V (s + 2) (ribAr 0 none 0 0) 27) := by
    have h := CellsAt.new ((w.alloc (.cells (ribAr most A L.length c) 27)).alloc (.cells #[.int .i64 k.fam, .int .u64 k.rd, .string k.addr, .int .i64 k.len] 32)) (ribAr 0 none 0 0) 27
    rw [World.size_alloc, World.size_alloc] at h
    rw [hV, hs]
    exact h
  have HB : Hid (Below w.heap.size w V) := by rw [hV]; exact (((Below.refl _ _).alloc (Nat.le_refl _) _).alloc (by simp) _).alloc (by simp; omega) _
  have HS : Hid (s = w.heap.size) := hs
  rw [← hs]
  clear hV hs hk
  obtain ⟨a0, a1⟩ := HR0.out.c2
  obtain ⟨b0, b1, b2, b3⟩ := HK0.out.c4
  go_wp2_with fail
  refine (HPL.out V HB.out).mono ?_
  rintro e w5 ⟨rfl, hw2⟩
  have HB5 : Hid (Below w.heap.size w w5) := HB.out.trans (hw2.mono HB.out.size)
  have HR5 := Lib.hid (HR0.out.below hw2 HR0.out.lt)
  have HQ5 := Lib.hid (HQ0.out.below hw2 HQ0.out.lt)
  clear a0 a1 b0 b1 b2 b3 hw2 HPL HK0 HR0 HQ0 HB
  obtain ⟨a0, a1⟩ := HR5.out.c2
  cases is with
  | false =>
    have hr3 := HRR.out
    rw [if_neg (by decide)] at hr3
    subst hr3
    go_wp2_with (with_reducible show wpList _ _ _ (_ :: _) _ _; first | refine wpList_load_rib rfl (.tmp 3) rfl s rfl most A L.length c HR5.out ?_ | refine wpList_store_rib rfl (.tmp 6) (.tmp 21) rfl (s + 2) rfl most A L.length c rfl _ HQ5.out rfl ?_)
    have HF : Hid (CellsAt (w5.setRow (s + 2) (ribAr most A L.length c)) (s + 2) (ribAr most A L.length c) 27) := HQ5.out.setRow' _
    have HBF : Hid (Below w.heap.size w (w5.setRow (s + 2) (ribAr most A L.length c))) := HB5.out.grown (grown_setRow' _ _ _) HB5.out.size (fun q hq => by cases hq; have := HS.out; omega)
    exact bodyPost_ret (results_rib2 rfl _ _ (s + 2) most A L.length c (.bool false) rfl rfl HF.out) rfl ⟨⟨A, c, L, rfl, .inl ⟨rfl, rfl, rfl⟩, rfl⟩, HBF.out⟩
  | true =>
    have hr3 := HRR.out
    rw [if_pos rfl] at hr3
    have HRR3 := Lib.hid hr3
    clear hr3 HRR
    have hi2 : i + 1 ≤ L.length := by have := HLE.out.2 rfl; rw [HLN.out] at this; exact this
    have HPW := Lib.hid (HP.out.below HB5.out)
    obtain ⟨HU1, hu2, hu3⟩ := ph_upto HPW.out i (by omega)
    have HU2 := Lib.hid hu2
    have hlt9 : L.length < 900 := HLT9.out
    obtain ⟨B0, hB0⟩ : ∃ x, x = w5.heap.size := ⟨_, rfl⟩
    have HB0 : Hid (B0 = w5.heap.size) := hB0
    have HSB : Hid (s + 2 < B0) := by show _ < _; rw [hB0]; exact HQ5.out.lt
    have HWB : Hid (w.heap.size ≤ B0) := by show _ ≤ _; rw [hB0]; exact HB5.out.size
    have HZI : Hid (0 + i = i) := Nat.zero_add i
    have HU3 : Hid ((L.take i).length = i) := hu3
    clear hB0 hu3 hu2
    go_wp2_with (at_builtin; refine wpList_app_ph rfl (.tmp 22) (.tmp 26) rfl B0 none 0 0 [] rfl rfl (OwnM.nil _ _ _ _) (L.take i) A i c HU3.out rfl HU2.out i HZI.out (by omega) (Nat.le_of_eq HB0.out) ?_)
    intro A1 c1 w6 HO1 HW6
    have HBB6 : Hid (B0 ≤ w6.heap.size) := by show _ ≤ _; rw [HB0.out]; exact HW6.out.size
    have HL6 : Hid (([] ++ L.take i).length = i) := by show _ = _; rw [List.nil_append, List.length_take]; omega
    clear a0 a1 HU1 HU2 HU3 HZI HPW
    obtain ⟨a0, a1⟩ := (HR5.out.below HW6.out (Nat.lt_of_le_of_lt (Nat.le_add_right _ _) HSB.out)).c2
    have HPW8 := Lib.hid (HP.out.below (HB5.out.trans (HW6.out.mono HWB.out)))
    obtain ⟨A4, c4, hu4, hr4⟩ := ph_from HPW8.out (i + 1) (by omega)
    have HR4 := Lib.hid hr4
    have HD : Hid ((L.drop (i + 1)).length = L.length - (i + 1)) := List.length_drop ..
    obtain ⟨d, hd⟩ : ∃ d, d = (L.drop (i + 1)).length := ⟨_, rfl⟩
    have HD2 : Hid ((L.drop (i + 1)).length = d) := hd.symm
    have HD3 : Hid (d ≤ 900) := by have := HD.out; show _ ≤ _; omega
    rw [← hd] at hu4
    rw [Int.natCast_succ] at hu4
    clear hr4 hd
    obtain ⟨q, hq⟩ : ∃ q, q = i + d := ⟨_, rfl⟩
    have HQQ : Hid (i + d = q) := hq.symm
    have HQL : Hid (q ≤ 1000) := by have h1 := HD.out; have h2 := HD2.out; show _ ≤ _; omega
    clear hq
    go_wp2_with (at_builtin; refine wpList_app_ph rfl (.tmp 28) (.tmp 33) rfl B0 A1 i c1 ([] ++ L.take i) HL6.out rfl HO1.out (L.drop (i + 1)) A4 d c4 HD2.out rfl HR4.out q HQQ.out HQL.out HBB6.out ?_)
    intro A5 c5 w9 HO5 hb9
    have HW9 : Hid (Below B0 w5 w9) := HW6.out.trans hb9.out
    clear hb9 hu4 HO1 HR4 HBB6 HL6 a0 a1 HW6 HPW8
    have HQ9 := Lib.hid (HQ5.out.below HW9.out HSB.out)
    obtain ⟨a0, a1⟩ := (HR5.out.below HW9.out (Nat.lt_of_le_of_lt (Nat.le_add_right _ _) HSB.out)).c2
    go_wp2_with (with_reducible show wpList _ _ _ (_ :: _) _ _; first | refine wpList_store_rib rfl (.tmp 6) (.tmp 38) rfl (s + 2) rfl most A5 q c5 rfl _ HQ9.out rfl ?_)
    have HF : Hid (CellsAt (w9.setRow (s + 2) (ribAr most A5 q c5)) (s + 2) (ribAr most A5 q c5) 27) := HQ9.out.setRow' _
    have hgr := grown_setRow' w9 (s + 2) (ribAr most A5 q c5)
    have HB9 : Hid (Below w.heap.size w w9) := HB5.out.trans (HW9.out.mono HWB.out)
    have HBF : Hid (Below w.heap.size w (w9.setRow (s + 2) (ribAr most A5 q c5))) := HB9.out.grown hgr HB9.out.size (fun q hq => by cases hq; have := HS.out; omega)
    have HO9 : OwnL (w9.setRow (s + 2) (ribAr most A5 q c5)) B0 64 29 paF (.slice A5 q c5) (L.take i ++ L.drop (i + 1)) := OwnL.keep HO5.out (fun i h1 h2 => hgr.block i h2 (fun e => by injection e with e; have := HSB.out; omega))
    have HPF := HP.out.below HBF.out
    obtain ⟨hph, hql⟩ := ph_of HO9 (fun t ht => by
      rcases List.mem_append.1 ht with ht | ht
      · exact HPF.ok t (List.mem_of_mem_take ht)
      · exact HPF.ok t (List.mem_of_mem_drop ht))
    have hr3 := HRR3.out
    subst hr3
    exact bodyPost_ret (results_rib2 rfl _ _ (s + 2) most A5 q c5 (.bool true) rfl rfl HF.out) rfl ⟨⟨A5, c5, L.take i ++ L.drop (i + 1), by rw [← hql], .inr ⟨by rw [← hql]; exact OwnM.lower HO9 HWB.out, fun t ht => .inl ⟨t, by
      rcases List.mem_append.1 ht with ht | ht
      · exact List.mem_of_mem_take ht
      · exact List.mem_of_mem_drop ht, rfl, rfl, rfl⟩⟩, by
      show List.map Td.c (L.take i ++ L.drop (i + 1)) = _
      rw [List.map_append, List.map_take, List.map_drop]⟩, HBF.out⟩
/-- a row that is read, from a world on -/
theorem PhL.rowB {w : World} {A : Option Addr} {cap i : Nat} {L : List Td} {t : Td} (h : PhL w A cap L) (hi : L[i]? = some t) :
    ∃ b off, A = some ⟨b, off, none⟩ ∧ ∀ W, Below w.heap.size w W → W.rangeAt b (off + i * 29) t.pa.toList ∧ W.cell? ⟨b, off + i * 29, none⟩ = some (.int .i64 t.k.fam) := by
  obtain ⟨b, off, e, hr⟩ := h.row hi
  exact ⟨b, off, e, fun W hW => ⟨hr W hW, (hr W hW) 0 _ rfl⟩⟩
theorem filter_snoc {α : Type} (p : α → Bool) (L : List α) {i : Nat} {t : α} (h : L[i]? = some t) : (L.take (i + 1)).filter p = (L.take i).filter p ++ (if p t = true then [t] else []) := by
  rw [List.take_add_one, h, List.filter_append]
  show _ ++ List.filter p [t] = _
  cases hp : p t <;> simp [hp]
def famP (fam : Int) (t : Td) : Bool := decide (t.k.fam = fam)
set_option maxRecDepth 100000 in
set_option maxHeartbeats 8000000 in
theorem all22_any {w : World} {A : Option Addr} {c : Nat} {L : List Td} (h : PhL w A c L) (hL : L.length < 900) (most : Int) (fam : Int) :
    Calls Tryz.prog 8 #[.agg (ribAr most A L.length c), .int .i64 fam] w fun e w' => (∃ A' c', e = .returned (.slice A' (L.filter (famP fam)).length c') ∧ PhL w' A' c' (L.filter (famP fam))) ∧ Below w.heap.size w w' := by
  have HP := Lib.hid h
  have hlc := h.len
  have hcm := h.cap
  unfold maxLen at hcm
  have HLT9 := Lib.hid hL
  clear h
  unfold ribAr
  go_enter Tryz.func8, Tryz.ntmps8
  go_upto_region 1 with fail
  refine rb_name fun V hV => ?_
  obtain ⟨s, hs⟩ : ∃ s, s = w.heap.size := ⟨_, rfl⟩
  have HR0 : Hid (CellsAt V s #[.int .i64 most, .slice A L.length c] 27) := by rw [hV, hs]; exact CellsAt.new _ _ _
  have HB : Hid (Below w.heap.size w V) := by rw [hV]; exact (Below.refl _ _).alloc (Nat.le_refl _) _
  obtain ⟨B0, hB0⟩ : ∃ x, x = V.heap.size := ⟨_, rfl⟩
  have HB0 : Hid (B0 = V.heap.size) := hB0
  have HSB : Hid (s < B0) := by show _ < _; rw [hB0]; exact HR0.out.lt
  have HWB : Hid (w.heap.size ≤ B0) := by show _ ≤ _; rw [hB0]; exact HB.out.size
  rw [← hs]
  clear hV hs hB0
  obtain ⟨a0, a1⟩ := HR0.out.c2
  go_wp2_with fail
  go_loopw [6, 5] (fun i ov wr => ∃ (n : Nat) (A' : Option Addr) (m c' : Nat), i = .int .i64 n ∧ n ≤ L.length ∧ ov = .slice A' m c' ∧ Hid (((L.take n).filter (famP fam)).length = m) ∧ Hid (OwnL wr B0 64 29 paF (.slice A' m c') ((L.take n).filter (famP fam))) ∧ Hid (Below B0 V wr)) (fun i _ _ => L.length + 1 - (intOf i).toNat)
  case atStart => exact ⟨0, none, 0, 0, rfl, Nat.zero_le _, rfl, rfl, OwnM.nil _ _ _ _, Below.refl _ _⟩
  case round =>
    clear a0 a1
    obtain ⟨wq, hwq⟩ : ∃ x, x = wr := ⟨_, rfl⟩
    subst hwq
    obtain ⟨n, A', m, c', rfl, hn, rfl, HM, HO, HBq⟩ := hrel
    obtain ⟨a0, a1⟩ := (HR0.out.below HBq.out HSB.out).c2
    have HBw : Hid (Below w.heap.size w wq) := HB.out.trans (HBq.out.mono HWB.out)
    by_cases hlt : n < L.length
    · obtain ⟨t, ht⟩ : ∃ x, L[n]? = some x := ⟨L[n]'hlt, List.getElem?_eq_getElem _⟩
      obtain ⟨b, off, rfl, hrow⟩ := HP.out.rowB ht
      obtain ⟨hr1, f0⟩ := hrow wq HBw.out
      have HRG := Lib.hid hr1
      have hsn := filter_snoc (famP fam) L ht
      have hml : m ≤ 900 := by
        have h1 : ((L.take n).filter (famP fam)).length ≤ (L.take n).length := List.length_filter_le ..
        rw [HM.out, List.length_take] at h1
        have := HLT9.out
        omega
      clear hrow hr1
      by_cases hf : t.k.fam = fam
      · have hfp : famP fam t = true := decide_eq_true hf
        rw [hfp, if_pos rfl] at hsn
        have HSN := Lib.hid hsn
        rw [hf] at f0
        clear hsn hfp ht hf
        have HBB : Hid (B0 ≤ wq.heap.size) := by show _ ≤ _; rw [HB0.out]; exact HBq.out.size
        go_wp2_with (with_reducible show wpList _ _ _ (_ :: _) _ _; first | refine wpList_load_ph rfl (.tmp 27) rfl b (off + n * 29) rfl t HRG.out ?_ | refine wpList_build_ph rfl (.tmp 28) rfl t rfl ?_)
        intro gs w7 hgs0 hw70
        have hgs := hgs0.out
        have hw7 := hw70.out
        have HB76 : Hid (Below wq.heap.size wq w7) := by rw [hw7]; exact (Below.refl _ _).alloc (Nat.le_refl _) _
        have HX7 : Hid (Rd w7 (some ⟨gs, 0, none⟩) 29 ([t].map paF)) := by rw [hw7, hgs]; exact ph_one wq t
        have HO7 : Hid (OwnL w7 B0 64 29 paF (.slice A' m c') ((L.take n).filter (famP fam))) := OwnM.below HO.out HB76.out (Nat.le_refl _)
        have HBB7 : Hid (B0 ≤ w7.heap.size) := Nat.le_trans HBB.out HB76.out.size
        have HI1 : Hid (m + 1 = m + 1) := rfl
        clear hgs hw7 hgs0 hw70 HO HBB a0 a1 f0 HRG
        go_wp2_with (at_builtin; refine wpList_app_ph rfl (.tmp 23) (.tmp 29) rfl B0 A' m c' ((L.take n).filter (famP fam)) HM.out rfl HO7.out [t] (some ⟨gs, 0, none⟩) 1 1 rfl rfl HX7.out (m + 1) HI1.out (by omega) HBB7.out ?_)
        intro A3 c3 w8 HO3 hb8
        have HM8 : Hid (((L.take (n + 1)).filter (famP fam)).length = m + 1) := by show _ = _; rw [HSN.out, List.length_append, HM.out]; rfl
        have HO8 : Hid (OwnL w8 B0 64 29 paF (.slice A3 (m + 1) c3) ((L.take (n + 1)).filter (famP fam))) := by show OwnL _ _ _ _ _ _ _; rw [HSN.out]; exact HO3.out
        have HBV8 : Hid (Below B0 V w8) := (HBq.out.trans (HB76.out.mono (by rw [HB0.out]; exact HBq.out.size))).trans hb8.out
        clear HO3 hb8 HO7 HX7 HBB7 HB76 HM HSN
        go_wp2_with fail
        exact ⟨⟨n + 1, A3, m + 1, c3, by go_num, by omega, rfl, HM8.out, HO8.out, HBV8.out⟩, by simp [intOf]; omega⟩
      · have hfp : famP fam t = false := decide_eq_false hf
        rw [hfp, if_neg (by decide), List.append_nil] at hsn
        have HM8 : Hid (((L.take (n + 1)).filter (famP fam)).length = m) := by show _ = _; rw [hsn]; exact HM.out
        have HO8 : Hid (OwnL wq B0 64 29 paF (.slice A' m c') ((L.take (n + 1)).filter (famP fam))) := by show OwnL _ _ _ _ _ _ _; rw [hsn]; exact HO.out
        have hne2 : (t.k.fam == fam) = false := beq_false_of_ne hf
        clear hsn hfp ht HM HO HRG
        go_wp2_with fail
        exact ⟨⟨n + 1, A', m, c', by go_num, by omega, rfl, HM8.out, HO8.out, HBq.out⟩, by simp [intOf]; omega⟩
    · have hnL : n = L.length := by omega
      subst hnL
      have HM8 : Hid ((L.filter (famP fam)).length = m) := by have h := HM.out; rwa [List.take_length] at h
      have HO8 : OwnL wq B0 64 29 paF (.slice A' m c') (L.filter (famP fam)) := by have h := HO.out; rwa [List.take_length] at h
      have HPQ := HP.out.below HBw.out
      have HF := Lib.hid (ph_of HO8 (fun t ht => HPQ.ok t (List.mem_filter.1 ht).1))
      clear HM HO HO8 HPQ
      go_wp2_with fail
      go_ret
      exact ⟨⟨A', c', by rw [HM8.out]; rfl, HF.out.1⟩, HBw.out⟩
def markF (fam : Int) (t : Td) : Td := { t with stale := t.stale || decide (t.k.fam = fam) }
theorem markF_c (fam : Int) (L : List Td) : (L.map (markF fam)).map Td.c = markC fam (L.map Td.c) := by
  unfold markC
  rw [List.map_map, List.map_map]
  refine List.map_congr_left fun t ht => ?_
  show Td.c (markF fam t) = if t.k.fam = fam then { t.c with stale := true } else t.c
  unfold markF Td.c
  by_cases h : t.k.fam = fam
  · rw [if_pos h, decide_eq_true h, Bool.or_true]
  · rw [if_neg h, decide_eq_false h, Bool.or_false]
theorem map_snoc' {α β : Type} (f : α → β) (L : List α) {i : Nat} {t : α} (h : L[i]? = some t) : (L.take (i + 1)).map f = (L.take i).map f ++ [f t] := by
  rw [List.take_add_one, h, List.map_append]
  rfl
theorem pa_cells {w : World} {g : Nat} {t : Td} (h : CellsAt w g (pathAr t.k t.label t.a t.stale) 64) : w.cell? ⟨g, 0, none⟩ = some (.int .i64 t.k.fam) ∧ w.cell? ⟨g, 1, none⟩ = some (.int .u64 t.k.rd) ∧ w.cell? ⟨g, 2, none⟩ = some (.string t.k.addr) ∧ w.cell? ⟨g, 3, none⟩ = some (.int .i64 t.k.len) ∧ w.cell? ⟨g, 4, none⟩ = some (.int .u32 (t.k.id : Nat)) ∧ w.cell? ⟨g, 5, none⟩ = some (.int .u32 (t.label : Nat)) ∧ w.cell? ⟨g, 28, none⟩ = some (.bool t.stale) :=
  ⟨(h.c 0).trans rfl, (h.c 1).trans rfl, (h.c 2).trans rfl, (h.c 3).trans rfl, (h.c 4).trans rfl, (h.c 5).trans rfl, (h.c 28).trans rfl⟩
set_option maxRecDepth 100000 in
set_option maxHeartbeats 8000000 in
theorem mark22_any {w : World} {A : Option Addr} {c : Nat} {L : List Td} (h : PhL w A c L) (hL : L.length < 900) (most : Int) (fam : Int) :
    Calls Tryz.prog 21 #[.agg (ribAr most A L.length c), .int .i64 fam] w fun e w' => (∃ A' c', e = .returned (.agg (ribAr most A' (L.map (markF fam)).length c')) ∧ NewL w w' A c L A' c' (L.map (markF fam))) ∧ Below w.heap.size w w' := by
  have HP := Lib.hid h
  have hlc := h.len
  have hcm := h.cap
  unfold maxLen at hcm
  have HLT9 := Lib.hid hL
  have HML : Hid ((L.map (markF fam)).length = L.length) := List.length_map ..
  clear h
  go_enter Tryz.func21, Tryz.ntmps21
  go_upto_region 1 with fail
  refine rb_name fun V hV => ?_
  obtain ⟨s, hs⟩ : ∃ s, s = w.heap.size := ⟨_, rfl⟩
  have HR0 : Hid (CellsAt V s (ribAr most A L.length c) 27) := by rw [hV, hs]; exact (CellsAt.new _ _ _).alloc _
  have HQ0 : Hid (CellsAt V (s + 1) (ribAr 0 none 0 0) 27) := by
    have h := CellsAt.new (w.alloc (.cells (ribAr most A L.length c) 27)) (ribAr 0 none 0 0) 27
    rw [World.size_alloc] at h
    rw [hV, hs]
    exact h
  have HB : Hid (Below w.heap.size w V) := by rw [hV]; exact ((Below.refl _ _).alloc (Nat.le_refl _) _).alloc (by simp) _
  obtain ⟨B0, hB0⟩ : ∃ x, x = V.heap.size := ⟨_, rfl⟩
  have HB0 : Hid (B0 = V.heap.size) := hB0
  have HSB : Hid (s + 1 < B0) := by show _ < _; rw [hB0]; exact HQ0.out.lt
  have HWB : Hid (w.heap.size ≤ B0) := by show _ ≤ _; rw [hB0]; exact HB.out.size
  have HS : Hid (s = w.heap.size) := hs
  rw [← hs]
  clear hV hs hB0
  obtain ⟨a0, a1⟩ := HR0.out.c2
  go_wp2_with fail
  go_loopw [6, 5] (fun i ov wr => ∃ (n : Nat) (A' : Option Addr) (m c' : Nat), i = .int .i64 n ∧ n ≤ L.length ∧ ov = .slice A' m c' ∧ Hid (((L.take n).map (markF fam)).length = m) ∧ Hid (OwnL wr B0 64 29 paF (.slice A' m c') ((L.take n).map (markF fam))) ∧ Hid (Below B0 V wr)) (fun i _ _ => L.length + 1 - (intOf i).toNat)
  case atStart => exact ⟨0, none, 0, 0, rfl, Nat.zero_le _, rfl, rfl, OwnM.nil _ _ _ _, Below.refl _ _⟩
  case round =>
    clear a0 a1
    obtain ⟨wq, hwq⟩ : ∃ x, x = wr := ⟨_, rfl⟩
    subst hwq
    obtain ⟨n, A', m, c', rfl, hn, rfl, HM, HO, HBq⟩ := hrel
    obtain ⟨a0, a1⟩ := (HR0.out.below HBq.out (Nat.lt_of_le_of_lt (Nat.le_add_right _ _) HSB.out)).c2
    have HBw : Hid (Below w.heap.size w wq) := HB.out.trans (HBq.out.mono HWB.out)
    by_cases hlt : n < L.length
    · obtain ⟨t, ht⟩ : ∃ x, L[n]? = some x := ⟨L[n]'hlt, List.getElem?_eq_getElem _⟩
      obtain ⟨b, off, rfl, hrow⟩ := HP.out.rowB ht
      obtain ⟨hr1, _⟩ := hrow wq HBw.out
      have HRG := Lib.hid hr1
      have HSN := Lib.hid (map_snoc' (markF fam) L ht)
      have hml : m ≤ 900 := by
        have h1 := HM.out
        rw [List.length_map, List.length_take] at h1
        have := HLT9.out
        omega
      have HBB : Hid (B0 ≤ wq.heap.size) := by show _ ≤ _; rw [HB0.out]; exact HBq.out.size
      have HN : Hid (∀ cs : Array Value, CellsAt (wq.alloc (.cells cs 64)) wq.heap.size cs 64) := fun cs => CellsAt.new _ _ _
      clear hrow hr1 ht
      go_upto_region 6 with (with_reducible show wpList _ _ _ (_ :: _) _ _; first | refine wpList_load_ph rfl (.tmp 18) rfl b (off + n * 29) rfl t HRG.out ?_ | refine wpList_store_path rfl (.tmp 7) (.tmp 19) rfl wq.heap.size rfl t.k t.label t.a t.stale rfl _ (HN.out _) rfl ?_)
      refine rb_name fun V1 hV1 => ?_
      have HB1 : Hid (Below wq.heap.size wq V1) := by rw [hV1]; exact ((Below.refl _ _).alloc (Nat.le_refl _) _).grown (grown_setRow' _ _ _) (by simp) (fun q hq => by cases hq; exact Nat.le_refl _)
      obtain ⟨g, hg⟩ : ∃ x, x = wq.heap.size := ⟨_, rfl⟩
      have HC1 : Hid (CellsAt V1 g (pathAr t.k t.label t.a t.stale) 64) := by rw [hV1, hg]; exact (HN.out _).setRow' _
      have HG : Hid (g = wq.heap.size) := hg
      try rw [← hg]
      clear hV1 hg a0 a1 HRG HN
      obtain ⟨p0, _, _, _, _, _, p28⟩ := pa_cells HC1.out
      obtain ⟨b2, hb2⟩ : ∃ b2, b2 = (t.stale || decide (t.k.fam = fam)) := ⟨_, rfl⟩
      have HV : Hid (b2 = (t.stale || decide (t.k.fam = fam))) := hb2
      clear hb2
      simp only [Act.put]
      go_cut [28] (fun v wx => v = v ∧ Hid (∃ b2', b2' = b2 ∧ CellsAt wx g (pathAr t.k t.label t.a b2') 64) ∧ Hid (Below wq.heap.size wq wx))
      case first =>
        have HSET : Hid (∀ x : Bool, CellsAt (V1.setCell ⟨g, 28, none⟩ (.bool x)) g (pathAr t.k t.label t.a x) 64) := fun x => HC1.out.setAt 28 (.bool x)
        have HSB1 : Hid (∀ x : Bool, Below wq.heap.size wq (V1.setCell ⟨g, 28, none⟩ (.bool x))) := fun x => HB1.out.setCell (Nat.le_of_eq HG.out.symm) _
        have hfz : V1.frozen? ⟨g, 28, none⟩ = false := by
          simp only [World.frozen?]
          rw [show V1.heap[g]? = _ from HC1.out]
          simp
        cases hst : t.stale with
        | true =>
          rw [hst] at p28
          have e : b2 = true := by rw [HV.out, hst]; rfl
          clear HC1 HV HSN HM HO
          go_wp2_with fail
          go_meet
          exact ⟨trivial, ⟨true, e.symm, HSET.out true⟩, HSB1.out true⟩
        | false =>
          rw [hst] at p28
          by_cases hf : t.k.fam = fam
          · have e : b2 = true := by rw [HV.out, decide_eq_true hf, Bool.or_true]
            rw [hf] at p0
            clear HC1 HV HSN HM HO hf
            go_wp2_with fail
            go_meet
            exact ⟨trivial, ⟨true, e.symm, HSET.out true⟩, HSB1.out true⟩
          · have e : b2 = false := by rw [HV.out, decide_eq_false hf, hst]; rfl
            have hne2 : (t.k.fam == fam) = false := beq_false_of_ne hf
            clear HC1 HV HSN HM HO
            go_wp2_with fail
            go_meet
            exact ⟨trivial, ⟨false, e.symm, HSET.out false⟩, HSB1.out false⟩
      case rest =>
      obtain ⟨_, HC2, HB2⟩ := hcut
      obtain ⟨w6, hw6⟩ : ∃ x, x = wc := ⟨_, rfl⟩
      subst hw6
      have HP6 : Hid (w6.rangeAt g 0 (Td.pa (markF fam t)).toList) := by
        obtain ⟨b2', e1, h⟩ := HC2.out
        rw [e1, HV.out] at h
        exact h.range
      have HO6 : Hid (OwnL w6 B0 64 29 paF (.slice A' m c') ((L.take n).map (markF fam))) := OwnM.below HO.out HB2.out (Nat.le_refl _)
      have HBV6 : Hid (Below B0 V w6) := HBq.out.trans (HB2.out.mono (by rw [HB0.out]; exact HBq.out.size))
      have HBB6 : Hid (B0 ≤ w6.heap.size) := Nat.le_trans HBB.out HB2.out.size
      clear p0 p28 HC1 HC2 HB2 HB1 HV HO HBq HBB HG
      go_wp2_with (with_reducible show wpList _ _ _ (_ :: _) _ _; first | refine wpList_load_ph rfl (.tmp 7) rfl g 0 rfl (markF fam t) HP6.out ?_ | refine wpList_build_ph rfl (.tmp 31) rfl (markF fam t) rfl ?_)
      intro gs w7 hgs0 hw70
      have hgs := hgs0.out
      have hw7 := hw70.out
      have HB76 : Hid (Below w6.heap.size w6 w7) := by rw [hw7]; exact (Below.refl _ _).alloc (Nat.le_refl _) _
      have HX7 : Hid (Rd w7 (some ⟨gs, 0, none⟩) 29 ([markF fam t].map paF)) := by rw [hw7, hgs]; exact ph_one w6 _
      have HO7 : Hid (OwnL w7 B0 64 29 paF (.slice A' m c') ((L.take n).map (markF fam))) := OwnM.below HO6.out HB76.out (Nat.le_refl _)
      have HBB7 : Hid (B0 ≤ w7.heap.size) := Nat.le_trans HBB6.out HB76.out.size
      have HI1 : Hid (m + 1 = m + 1) := rfl
      clear hgs hw7 hgs0 hw70 HO6 HP6
      go_wp2_with (at_builtin; refine wpList_app_ph rfl (.tmp 30) (.tmp 32) rfl B0 A' m c' ((L.take n).map (markF fam)) HM.out rfl HO7.out [markF fam t] (some ⟨gs, 0, none⟩) 1 1 rfl rfl HX7.out (m + 1) HI1.out (by omega) HBB7.out ?_)
      intro A3 c3 w8 HO3 hb8
      have HM8 : Hid (((L.take (n + 1)).map (markF fam)).length = m + 1) := by show _ = _; rw [HSN.out, List.length_append, HM.out]; rfl
      have HO8 : Hid (OwnL w8 B0 64 29 paF (.slice A3 (m + 1) c3) ((L.take (n + 1)).map (markF fam))) := by
        show OwnL _ _ _ _ _ _ _
        rw [HSN.out, List.map_take]
        exact HO3.out
      have HBV8 : Hid (Below B0 V w8) := (HBV6.out.trans (HB76.out.mono HBB6.out)).trans hb8.out
      clear HO3 hb8 HO7 HX7 HBB7 HB76 HM HSN HBV6 HBB6
      go_wp2_with fail
      exact ⟨⟨n + 1, A3, m + 1, c3, by go_num, by omega, rfl, HM8.out, HO8.out, HBV8.out⟩, by simp [intOf]; omega⟩
    · have hnL : n = L.length := by omega
      subst hnL
      have HM8 : Hid ((L.map (markF fam)).length = m) := by have h := HM.out; rwa [List.take_length] at h
      have HO8 : OwnL wq B0 64 29 paF (.slice A' m c') (L.map (markF fam)) := by have h := HO.out; rwa [List.take_length] at h
      have HQ9 := Lib.hid (HQ0.out.below HBq.out HSB.out)
      clear HM HO
      go_wp2_with (with_reducible show wpList _ _ _ (_ :: _) _ _; first | refine wpList_store_rib rfl (.tmp 4) (.tmp 37) rfl (s + 1) rfl most A' m c' rfl _ HQ9.out rfl ?_)
      have HF : Hid (CellsAt (wq.setRow (s + 1) (ribAr most A' m c')) (s + 1) (ribAr most A' m c') 27) := HQ9.out.setRow' _
      have hgr := grown_setRow' wq (s + 1) (ribAr most A' m c')
      have HBF : Hid (Below w.heap.size w (wq.setRow (s + 1) (ribAr most A' m c'))) := HBw.out.grown hgr HBw.out.size (fun q hq => by cases hq; have := HS.out; omega)
      have HO9 := OwnL.keep HO8 (fun i h1 h2 => hgr.block i h2 (fun e => by injection e with e; have := HSB.out; omega))
      have HPF := HP.out.below HBF.out
      obtain ⟨hph, hql⟩ := ph_of HO9 (fun t ht => by
        obtain ⟨x, hx, rfl⟩ := List.mem_map.1 ht
        exact HPF.ok x hx)
      exact bodyPost_ret (results_rib1 rfl _ _ (s + 1) most A' m c' rfl HF.out) rfl ⟨⟨A', c', by rw [hql], .inr ⟨by rw [← hql]; exact OwnM.lower HO9 HWB.out, fun t ht => by
        obtain ⟨x, hx, rfl⟩ := List.mem_map.1 ht
        exact .inl ⟨x, hx, rfl, rfl, rfl⟩⟩⟩, HBF.out⟩
/-- told prefixes of paths -/
def nrT (t : Td) : Nr := ⟨t.k, t.label⟩
def takP (fam : Int) (st : Bool) (t : Td) : Bool := decide (t.k.fam = fam) && (t.stale || !st)
theorem filter_snocN {α : Type} (p : α → Bool) (L : List α) {i : Nat} {t : α} (h : L[i]? = some t) : (L.take (i + 1)).filter (fun x => !p x) = (L.take i).filter (fun x => !p x) ++ (if p t = true then [] else [t]) := by
  rw [List.take_add_one, h, List.filter_append]
  show _ ++ List.filter _ [t] = _
  cases hp : p t <;> simp [hp]
theorem OwnM.apart {w w' : World} {base base' C C' : Nat} {e e' : TypeId} {v v' : Value} {n n' : Nat} {xs xs' : List Value} (h : OwnM w base e C v n xs) (h' : OwnM w base' e' C' v' n' xs') (hne : e ≠ e') (hg : w.grownBy w' v'.ownBlock) : OwnM w' base e C v n xs := by
  have hgx : GrownX (fun i => v'.ownBlock = some i) w w' := ⟨hg.os, hg.tape, hg.output, hg.size, fun i hi hx => hg.block i hi (fun e => hx e.symm)⟩
  exact OwnM.keepT h hgx (fun i hi cs fr e0 => hne (OwnM.typ h' hi e0))
section
variable {ops : Array Oper} {rest : List Oper} {op : Oper} {a : Act} {W : World} {Q : Exit → Act → World → Prop}
/-- a list of paths grows, and turns nothing else -/
theorem wpList_app_phG (hgd : op.guard = none) (s p : Operand) (ho : op.op = .call { callee := .builtin .append, args := #[s, p], argTypes := #[25, 25] }) (base : Nat) (A0 : Option Addr) (n c0 : Nat) (O : List Td) (hn : O.length = n) (hs : a.eval s = .slice A0 n c0) (hown : OwnL W base 64 29 paF (.slice A0 n c0) O)
    (t : Td) (g : Nat) (hp : a.eval p = .slice (some ⟨g, 0, none⟩) 1 1) (hr : Rd W (some ⟨g, 0, none⟩) 29 ([t].map paF)) (hl : n + 1 ≤ 1000) (hb : base ≤ W.heap.size)
    (h : ∀ A' c' w', Hid (OwnL w' base 64 29 paF (.slice A' (n + 1) c') (O ++ [t])) → Hid (Below base W w') → Hid (W.grownBy w' (Value.slice A0 n c0).ownBlock) → wpList Tryz.prog ops Q rest (a.put op.dst (.slice A' (n + 1) c')) w') : wpList Tryz.prog ops Q (op :: rest) a W := by
  subst hn
  obtain ⟨i0, z0, hi0, hz0, hz1, hz2, hz3⟩ := infoPh
  refine wpList_append_m hgd s p 25 25 ho base 64 i0 z0 29 i0.bytes Tryz.underlying25 hi0 hz0 hz1 rfl hz2 (by decide) _ O.length (O.flatMap paF) hs hown _ [t].length _ hp (Rd.src Tryz.underlying25 (by decide) paF_len paF_one hr) (by unfold maxLen; simp; omega) (Nat.le_trans (Nat.mul_le_mul hl hz3) (by decide)) hb ?_
  intro v' w5 hown5 hgr hat
  have hBB : Below base W w5 := (Below.refl base W).grown hgr hb (fun q hq => (OwnM.lt hown q hq).1)
  obtain ⟨A6, c6, rfl⟩ := hown5.form
  have h2 : OwnL w5 base 64 29 paF (.slice A6 (O.length + 1) c6) (O ++ [t]) := by
    show OwnM _ _ _ _ _ _ _
    rw [List.length_append, List.flatMap_append]
    exact hown5
  exact h A6 c6 w5 h2 hBB hgr
/-- a list of told prefixes grows, and turns nothing else -/
theorem wpList_app_nlG (hgd : op.guard = none) (s p : Operand) (ho : op.op = .call { callee := .builtin .append, args := #[s, p], argTypes := #[73, 73] }) (base : Nat) (A0 : Option Addr) (n c0 : Nat) (O : List Nr) (hn : O.length = n) (hs : a.eval s = .slice A0 n c0) (hown : NlsAt W base (.slice A0 n c0) O)
    (x : Nr) (g : Nat) (hp : a.eval p = .slice (some ⟨g, 0, none⟩) 1 1) (hr : Rd W (some ⟨g, 0, none⟩) 6 ([x].map Nr.cs)) (hl : n + 1 ≤ 1000) (hb : base ≤ W.heap.size)
    (h : ∀ A' c' w', Hid (NlsAt w' base (.slice A' (n + 1) c') (O ++ [x])) → Hid (Below base W w') → Hid (W.grownBy w' (Value.slice A0 n c0).ownBlock) → wpList Tryz.prog ops Q rest (a.put op.dst (.slice A' (n + 1) c')) w') : wpList Tryz.prog ops Q (op :: rest) a W := by
  subst hn
  obtain ⟨i0, hi0, hz0, hz1, hz2⟩ := info_parts infoNl
  refine wpList_append_m hgd s p 73 73 ho base 35 i0 _ 6 48 Tryz.underlying73 hi0 hz0 hz1 hz2 rfl (by decide) _ O.length (flatNr O) hs hown _ [x].length _ hp (Rd.src (F := Nr.cs) (C := 6) Tryz.underlying73 (by decide) (fun x => rfl) nr_one hr) (by unfold maxLen; simp; omega) (by simp; omega) hb ?_
  intro v' w5 hown5 hgr hat
  have hBB : Below base W w5 := (Below.refl base W).grown hgr hb (fun q hq => (OwnM.lt hown q hq).1)
  obtain ⟨A6, c6, rfl⟩ := hown5.form
  have h2 : NlsAt w5 base (.slice A6 (O.length + 1) c6) (O ++ [x]) := by
    show OwnM _ _ _ _ _ _ _
    rw [List.length_append, flatNr_append]
    exact hown5
  exact h A6 c6 w5 h2 hBB hgr
end
theorem build_nl (k : Pk) (label : Nat) : ∀ W : World, (Instr.build 35 #[(0, .agg #[.int .i64 k.fam, .int .u64 k.rd, .string k.addr, .int .i64 k.len]), (1, .int .u32 (k.id : Nat)), (2, .int .u32 (label : Nat))]).run Tryz.prog W = .ok (.agg #[.int .i64 k.fam, .int .u64 k.rd, .string k.addr, .int .i64 k.len, .int .u32 (k.id : Nat), .int .u32 (label : Nat)]) W := fun W => run_build W _ _ _ (by kernel_rfl)
/-- a told prefix is built -/
theorem wpList_build_nlr {ops : Array Oper} {rest : List Oper} {op : Oper} {a : Act} {W : World} {Q : Exit → Act → World → Prop} (hgd : op.guard = none) (T1 T2 T3 : Operand) (ho : op.op = .build 35 #[(0, T1), (1, T2), (2, T3)]) (k : Pk) (label : Nat) (h1 : a.eval T1 = .agg #[.int .i64 k.fam, .int .u64 k.rd, .string k.addr, .int .i64 k.len]) (h2 : a.eval T2 = .int .u32 (k.id : Nat)) (h3 : a.eval T3 = .int .u32 (label : Nat))
    (h : wpList Tryz.prog ops Q rest (a.put op.dst (.agg #[.int .i64 k.fam, .int .u64 k.rd, .string k.addr, .int .i64 k.len, .int .u32 (k.id : Nat), .int .u32 (label : Nat)])) W) : wpList Tryz.prog ops Q (op :: rest) a W :=
  wpList_plain hgd fun _ hK => by
    have e : ((#[(0, T1), (1, T2), (2, T3)] : Array (Nat × Operand)).map fun (i, x) => (i, a.eval x)) = #[(0, .agg #[.int .i64 k.fam, .int .u64 k.rd, .string k.addr, .int .i64 k.len]), (1, .int .u32 (k.id : Nat)), (2, .int .u32 (label : Nat))] := by simp [h1, h2, h3]
    unfold Oper.wp execOp
    simp only [ho, Sem.run_bind, e, build_nl k label W, Result.andThen_ok]
    exact hK _ _ h
/-- one told prefix, as a slice literal -/
theorem wpList_build_nl1 {ops : Array Oper} {rest : List Oper} {op : Oper} {a : Act} {W : World} {Q : Exit → Act → World → Prop} (hgd : op.guard = none) (x : Operand) (ho : op.op = .buildSlice 73 1 #[(0, x)]) (r : Nr) (hx : a.eval x = .agg r.cs.toArray)
    (h : ∀ g w', Hid (g = W.heap.size) → Hid (w' = W.alloc (.cells r.cs.toArray 35)) → wpList Tryz.prog ops Q rest (a.put op.dst (.slice (some ⟨g, 0, none⟩) 1 1)) w') : wpList Tryz.prog ops Q (op :: rest) a W :=
  wpList_plain hgd fun _ hK => by
    obtain ⟨i0, hi0, hz0, hz1, hz2⟩ := info_parts infoNl
    have e : ([Value.agg r.cs.toArray].flatMap fun v => v.cells.toList).toArray = r.cs.toArray := by simp [Value.cells]
    have hk := hK _ _ (h _ _ rfl rfl)
    rw [← e] at hk
    refine wp_buildSlice 73 35 1 _ ho _ i0 _ Tryz.underlying73 hi0 hz0 (by rw [hz1]; decide) (by rw [hz1]; decide) ?_ hk
    rw [hz1]
    have hv : ((#[(0, x)] : Array (Nat × Operand)).map fun (i, x) => (i, a.eval x)).toList = ([Value.agg r.cs.toArray].zipIdx 0).map fun x => (x.2, x.1) := by simp [hx]
    rw [hv]
    refine Great.fill_whole (s := 6) (by decide) [Value.agg r.cs.toArray] _ (fun v hv => ?_) ?_
    · rw [List.mem_singleton] at hv
      subst hv
      rfl
    · simp
theorem nl_one (w : World) (x : Nr) : Rd (w.alloc (.cells x.cs.toArray 35)) (some ⟨w.heap.size, 0, none⟩) 6 ([x].map Nr.cs) := fun _ => by
  refine ⟨w.heap.size, 0, rfl, by rw [World.size_alloc]; omega, fun i cs hi j u hu => ?_⟩
  have h0 : i = 0 := by
    have := (List.getElem?_eq_some_iff.1 hi).1
    simp at this
    exact this
  subst h0
  simp only [List.map_cons, List.getElem?_cons_zero, Option.some.injEq] at hi
  subst hi
  simp only [Nat.zero_mul, Nat.zero_add]
  rw [(CellsAt.new w x.cs.toArray 35).c j]
  simpa using hu
set_option maxRecDepth 100000 in
set_option maxHeartbeats 8000000 in
theorem take22_any {w : World} {A : Option Addr} {c : Nat} {L : List Td} (h : PhL w A c L) (hL : L.length < 900) (most : Int) (fam : Int) (st : Bool) :
    Calls Tryz.prog 24 #[.agg (ribAr most A L.length c), .int .i64 fam, .bool st] w fun e w' => (∃ A' c' nv, e = .returned (.tuple #[.agg (ribAr most A' (L.filter fun t => !takP fam st t).length c'), nv]) ∧ NewL w w' A c L A' c' (L.filter fun t => !takP fam st t) ∧ NlsAt w' w.heap.size nv ((L.filter (takP fam st)).map nrT)) ∧ Below w.heap.size w w' := by
  have HP := Lib.hid h
  have hlc := h.len
  have hcm := h.cap
  unfold maxLen at hcm
  have HLT9 := Lib.hid hL
  clear h
  go_enter Tryz.func24, Tryz.ntmps24
  go_upto_region 1 with fail
  refine rb_name fun V hV => ?_
  obtain ⟨s, hs⟩ : ∃ s, s = w.heap.size := ⟨_, rfl⟩
  have HR0 : Hid (CellsAt V s (ribAr most A L.length c) 27) := by rw [hV, hs]; exact (CellsAt.new _ _ _).alloc _
  have HQ0 : Hid (CellsAt V (s + 1) (ribAr 0 none 0 0) 27) := by
    have h := CellsAt.new (w.alloc (.cells (ribAr most A L.length c) 27)) (ribAr 0 none 0 0) 27
    rw [World.size_alloc] at h
    rw [hV, hs]
    exact h
  have HB : Hid (Below w.heap.size w V) := by rw [hV]; exact ((Below.refl _ _).alloc (Nat.le_refl _) _).alloc (by simp) _
  obtain ⟨B0, hB0⟩ : ∃ x, x = V.heap.size := ⟨_, rfl⟩
  have HB0 : Hid (B0 = V.heap.size) := hB0
  have HSB : Hid (s + 1 < B0) := by show _ < _; rw [hB0]; exact HQ0.out.lt
  have HWB : Hid (w.heap.size ≤ B0) := by show _ ≤ _; rw [hB0]; exact HB.out.size
  have HS : Hid (s = w.heap.size) := hs
  rw [← hs]
  clear hV hs hB0
  obtain ⟨a0, a1⟩ := HR0.out.c2
  go_wp2_with fail
  go_loopw [10, 8, 9] (fun i lv ov wr => ∃ (n : Nat) (A' : Option Addr) (m c' : Nat) (A2 : Option Addr) (m2 c2 : Nat), i = .int .i64 n ∧ n ≤ L.length ∧ lv = .slice A' m c' ∧ ov = .slice A2 m2 c2 ∧ Hid (((L.take n).filter (fun t => !takP fam st t)).length = m ∧ (((L.take n).filter (takP fam st)).map nrT).length = m2) ∧ Hid (OwnL wr B0 64 29 paF (.slice A' m c') ((L.take n).filter (fun t => !takP fam st t))) ∧ Hid (NlsAt wr B0 (.slice A2 m2 c2) (((L.take n).filter (takP fam st)).map nrT)) ∧ Hid (Below B0 V wr)) (fun i _ _ _ => L.length + 1 - (intOf i).toNat)
  case atStart => exact ⟨0, none, 0, 0, none, 0, 0, rfl, Nat.zero_le _, rfl, rfl, ⟨rfl, rfl⟩, OwnM.nil _ _ _ _, OwnM.nil _ _ _ _, Below.refl _ _⟩
  case round =>
    clear a0 a1
    obtain ⟨wq, hwq⟩ : ∃ x, x = wr := ⟨_, rfl⟩
    subst hwq
    obtain ⟨n, A', m, c', A2, m2, c2, rfl, hn, rfl, rfl, HM, HO, HN2, HBq⟩ := hrel
    obtain ⟨a0, a1⟩ := (HR0.out.below HBq.out (Nat.lt_of_le_of_lt (Nat.le_add_right _ _) HSB.out)).c2
    have HBw : Hid (Below w.heap.size w wq) := HB.out.trans (HBq.out.mono HWB.out)
    by_cases hlt : n < L.length
    · as_aux_lemma =>
      obtain ⟨t, ht⟩ : ∃ x, L[n]? = some x := ⟨L[n]'hlt, List.getElem?_eq_getElem _⟩
      obtain ⟨b, off, rfl, hrow⟩ := HP.out.rowB ht
      obtain ⟨hr1, _⟩ := hrow wq HBw.out
      have HRG := Lib.hid hr1
      have HSN := Lib.hid (And.intro (filter_snocN (takP fam st) L ht) (filter_snoc (takP fam st) L ht))
      have HX := Lib.hid (HP.out.ok t (List.mem_of_getElem? ht)).1
      have hml : m ≤ 899 ∧ m2 ≤ 899 := by
        have h1 : ((L.take n).filter (fun t => !takP fam st t)).length ≤ (L.take n).length := List.length_filter_le ..
        have h2 : (((L.take n).filter (takP fam st)).map nrT).length ≤ (L.take n).length := by rw [List.length_map]; exact List.length_filter_le ..
        rw [HM.out.1, List.length_take] at h1
        rw [HM.out.2, List.length_take] at h2
        have := HLT9.out
        omega
      obtain ⟨hml1, hml2⟩ := hml
      have HBB : Hid (B0 ≤ wq.heap.size) := by show _ ≤ _; rw [HB0.out]; exact HBq.out.size
      have HN : Hid (∀ cs : Array Value, CellsAt (wq.alloc (.cells cs 64)) wq.heap.size cs 64) := fun cs => CellsAt.new _ _ _
      clear hrow hr1 ht
      go_upto_region 7 with (with_reducible show wpList _ _ _ (_ :: _) _ _; first | refine wpList_load_ph rfl (.tmp 22) rfl b (off + n * 29) rfl t HRG.out ?_ | refine wpList_store_path rfl (.tmp 11) (.tmp 23) rfl wq.heap.size rfl t.k t.label t.a t.stale rfl _ (HN.out _) rfl ?_)
      refine rb_name fun V1 hV1 => ?_
      have HB1 : Hid (Below wq.heap.size wq V1) := by rw [hV1]; exact ((Below.refl _ _).alloc (Nat.le_refl _) _).grown (grown_setRow' _ _ _) (by simp) (fun q hq => by cases hq; exact Nat.le_refl _)
      obtain ⟨g, hg⟩ : ∃ x, x = wq.heap.size := ⟨_, rfl⟩
      have HC1 : Hid (CellsAt V1 g (pathAr t.k t.label t.a t.stale) 64) := by rw [hV1, hg]; exact (HN.out _).setRow' _
      try rw [← hg]
      clear hV1 hg a0 a1 HRG HN
      have HO1 : Hid (OwnL V1 B0 64 29 paF (.slice A' m c') ((L.take n).filter (fun t => !takP fam st t))) := OwnM.below HO.out HB1.out (Nat.le_refl _)
      have HN1 : Hid (NlsAt V1 B0 (.slice A2 m2 c2) (((L.take n).filter (takP fam st)).map nrT)) := OwnM.below HN2.out HB1.out (Nat.le_refl _)
      have HBV1 : Hid (Below B0 V V1) := HBq.out.trans (HB1.out.mono (by rw [HB0.out]; exact HBq.out.size))
      have HBB1 : Hid (B0 ≤ V1.heap.size) := Nat.le_trans HBB.out HB1.out.size
      clear HO HN2 HB1 HBq HBB
      simp only [Act.put]
      obtain ⟨q, hq⟩ : ∃ q, q = takP fam st t := ⟨_, rfl⟩
      have HQQ := Lib.hid hq
      have HP1 : Hid (V1.rangeAt g 0 (Td.pa t).toList) := HC1.out.range
      clear hq
      go_cut [36] (fun v wx => v = .bool q ∧ wx = V1)
      case first =>
        obtain ⟨p0, _, _, _, _, _, p28⟩ := pa_cells HC1.out
        by_cases hf : t.k.fam = fam
        · have e0 : takP fam st t = (t.stale || !st) := by unfold takP; rw [decide_eq_true hf]; rfl
          rw [hf] at p0
          cases hst : t.stale with
          | true =>
            rw [hst] at p28
            obtain rfl : q = true := by rw [HQQ.out, e0, hst]; rfl
            clear hst e0 hf
            go_wp2_with fail
            go_meet
            exact ⟨rfl, rfl⟩
          | false =>
            rw [hst] at p28
            cases st with
            | true =>
              obtain rfl : q = false := by rw [HQQ.out, e0, hst]; rfl
              clear hst e0 hf
              go_wp2_with fail
              go_meet
              exact ⟨rfl, rfl⟩
            | false =>
              obtain rfl : q = true := by rw [HQQ.out, e0, hst]; rfl
              clear hst e0 hf
              go_wp2_with fail
              go_meet
              exact ⟨rfl, rfl⟩
        · obtain rfl : q = false := by rw [HQQ.out]; unfold takP; rw [decide_eq_false hf]; rfl
          have hne2 : (t.k.fam == fam) = false := beq_false_of_ne hf
          go_wp2_with fail
          go_meet
          exact ⟨rfl, rfl⟩
      case rest =>
      obtain ⟨rfl, hwc⟩ := hcut
      subst hwc
      obtain ⟨V1, hw5⟩ : ∃ x, x = wc := ⟨_, rfl⟩
      subst hw5
      obtain ⟨sn1, sn2⟩ := HSN.out
      rw [← HQQ.out] at sn1 sn2
      cases q with
      | true =>
        rw [if_pos rfl, List.append_nil] at sn1
        rw [if_pos rfl] at sn2
        have HSN1 := Lib.hid sn1
        have HSN2 := Lib.hid sn2
        obtain ⟨p0, p1, p2, p3, p4, p5, _⟩ := pa_cells HC1.out
        clear sn1 sn2 HSN HQQ HP1
        have hm2 := HM.out.2
        have HM2 : Hid ((((L.take n).filter (takP fam st)).map nrT).length = m2) := hm2
        clear hm2
        go_wp2_with (first | (with_reducible show wpList _ _ _ (⟨some 44, _, _, _, _, _⟩ :: _) _ _; refine wpList_build_nlr rfl (.tmp 39) (.tmp 41) (.tmp 43) rfl t.k t.label rfl rfl rfl ?_) | (with_reducible show wpList _ _ _ (⟨some 45, _, _, _, _, _⟩ :: _) _ _; refine wpList_build_nl1 rfl (.tmp 44) rfl (nrT t) rfl ?_))
        intro gs w7 hgs0 hw70
        have hgs := hgs0.out
        have hw7 := hw70.out
        have HAL : Hid (Below V1.heap.size V1 w7) := by rw [hw7]; exact (Below.refl _ _).alloc (Nat.le_refl _) _
        have HX7 : Hid (Rd w7 (some ⟨gs, 0, none⟩) 6 ([nrT t].map Nr.cs)) := by rw [hw7, hgs]; exact nl_one V1 (nrT t)
        have HN7 : Hid (NlsAt w7 B0 (.slice A2 m2 c2) (((L.take n).filter (takP fam st)).map nrT)) := OwnM.below HN1.out HAL.out (Nat.le_refl _)
        have HO7 : Hid (OwnL w7 B0 64 29 paF (.slice A' m c') ((L.take n).filter (fun t => !takP fam st t))) := OwnM.below HO1.out HAL.out (Nat.le_refl _)
        have HBB7 : Hid (B0 ≤ w7.heap.size) := Nat.le_trans HBB1.out HAL.out.size
        clear hgs hw7 hgs0 hw70 HO1 HN1
        go_wp2_with (at_builtin; refine wpList_app_nlG rfl (.tmp 37) (.tmp 45) rfl B0 A2 m2 c2 (((L.take n).filter (takP fam st)).map nrT) HM2.out rfl HN7.out (nrT t) gs rfl HX7.out (by omega) HBB7.out ?_)
        intro A3 c3 w8 HO3 hb8 hg8
        have HO8 : Hid (OwnL w8 B0 64 29 paF (.slice A' m c') ((L.take (n + 1)).filter (fun t => !takP fam st t))) := by
          show OwnL _ _ _ _ _ _ _
          rw [HSN1.out]
          exact OwnM.apart HO7.out HN7.out (by decide) hg8.out
        have HN8 : Hid (NlsAt w8 B0 (.slice A3 (m2 + 1) c3) (((L.take (n + 1)).filter (takP fam st)).map nrT)) := by
          show NlsAt _ _ _ _
          rw [HSN2.out, List.map_append]
          exact HO3.out
        have HM8 : Hid (((L.take (n + 1)).filter (fun t => !takP fam st t)).length = m ∧ (((L.take (n + 1)).filter (takP fam st)).map nrT).length = m2 + 1) := ⟨by rw [HSN1.out]; exact HM.out.1, by rw [HSN2.out, List.map_append, List.length_append, HM.out.2]; rfl⟩
        have HBV8 : Hid (Below B0 V w8) := (HBV1.out.trans (HAL.out.mono HBB1.out)).trans hb8.out
        clear HO3 hb8 hg8 HO7 HN7 HX7 HBB7 HM HSN1 HSN2 HAL p0 p1 p2 p3 p4 p5
        go_wp2_with fail
        exact ⟨⟨n + 1, A', m, c', A3, m2 + 1, c3, by go_num, by omega, rfl, rfl, HM8.out, HO8.out, HN8.out, HBV8.out⟩, by simp [intOf]; omega⟩
      | false =>
        rw [if_neg (by decide)] at sn1
        rw [if_neg (by decide), List.append_nil] at sn2
        have HSN1 := Lib.hid sn1
        have HSN2 := Lib.hid sn2
        clear sn1 sn2 HSN HQQ
        go_wp2_with (with_reducible show wpList _ _ _ (_ :: _) _ _; first | refine wpList_load_ph rfl (.tmp 11) rfl g 0 rfl t HP1.out ?_ | refine wpList_build_ph rfl (.tmp 48) rfl t rfl ?_)
        intro gs w7 hgs0 hw70
        have hgs := hgs0.out
        have hw7 := hw70.out
        have HB76 : Hid (Below V1.heap.size V1 w7) := by rw [hw7]; exact (Below.refl _ _).alloc (Nat.le_refl _) _
        have HX7 : Hid (Rd w7 (some ⟨gs, 0, none⟩) 29 ([t].map paF)) := by rw [hw7, hgs]; exact ph_one V1 _
        have HO7 : Hid (OwnL w7 B0 64 29 paF (.slice A' m c') ((L.take n).filter (fun t => !takP fam st t))) := OwnM.below HO1.out HB76.out (Nat.le_refl _)
        have HN7 : Hid (NlsAt w7 B0 (.slice A2 m2 c2) (((L.take n).filter (takP fam st)).map nrT)) := OwnM.below HN1.out HB76.out (Nat.le_refl _)
        have HBB7 : Hid (B0 ≤ w7.heap.size) := Nat.le_trans HBB1.out HB76.out.size
        have HM1 : Hid (((L.take n).filter (fun t => !takP fam st t)).length = m) := HM.out.1
        clear hgs hw7 hgs0 hw70 HO1 HN1 HP1
        go_wp2_with (at_builtin; refine wpList_app_phG rfl (.tmp 47) (.tmp 49) rfl B0 A' m c' ((L.take n).filter (fun t => !takP fam st t)) HM1.out rfl HO7.out t gs rfl HX7.out (by omega) HBB7.out ?_)
        intro A3 c3 w8 HO3 hb8 hg8
        have HO8 : Hid (OwnL w8 B0 64 29 paF (.slice A3 (m + 1) c3) ((L.take (n + 1)).filter (fun t => !takP fam st t))) := by
          show OwnL _ _ _ _ _ _ _
          rw [HSN1.out]
          exact HO3.out
        have HN8 : Hid (NlsAt w8 B0 (.slice A2 m2 c2) (((L.take (n + 1)).filter (takP fam st)).map nrT)) := by
          show NlsAt _ _ _ _
          rw [HSN2.out]
          exact OwnM.apart HN7.out HO7.out (by decide) hg8.out
        have HM8 : Hid (((L.take (n + 1)).filter (fun t => !takP fam st t)).length = m + 1 ∧ (((L.take (n + 1)).filter (takP fam st)).map nrT).length = m2) := ⟨by rw [HSN1.out, List.length_append, HM.out.1]; rfl, by rw [HSN2.out]; exact HM.out.2⟩
        have HBV8 : Hid (Below B0 V w8) := (HBV1.out.trans (HB76.out.mono HBB1.out)).trans hb8.out
        clear HO3 hb8 hg8 HO7 HN7 HX7 HBB7 HM HSN1 HSN2 HB76 HM1
        go_wp2_with fail
        exact ⟨⟨n + 1, A3, m + 1, c3, A2, m2, c2, by go_num, by omega, rfl, rfl, HM8.out, HO8.out, HN8.out, HBV8.out⟩, by simp [intOf]; omega⟩
    · have hnL : n = L.length := by omega
      subst hnL
      as_aux_lemma =>
      have HM8 : Hid ((L.filter (fun t => !takP fam st t)).length = m) := by have h := HM.out.1; rwa [List.take_length] at h
      have HO8 : OwnL wq B0 64 29 paF (.slice A' m c') (L.filter (fun t => !takP fam st t)) := by have h := HO.out; rwa [List.take_length] at h
      have HN8 : NlsAt wq B0 (.slice A2 m2 c2) ((L.filter (takP fam st)).map nrT) := by have h := HN2.out; rwa [List.take_length] at h
      have HQ9 := Lib.hid (HQ0.out.below HBq.out HSB.out)
      clear HM HO HN2
      go_wp2_with (with_reducible show wpList _ _ _ (_ :: _) _ _; first | refine wpList_store_rib rfl (.tmp 6) (.tmp 54) rfl (s + 1) rfl most A' m c' rfl _ HQ9.out rfl ?_)
      have HF : Hid (CellsAt (wq.setRow (s + 1) (ribAr most A' m c')) (s + 1) (ribAr most A' m c') 27) := HQ9.out.setRow' _
      have hgr := grown_setRow' wq (s + 1) (ribAr most A' m c')
      have HBF : Hid (Below w.heap.size w (wq.setRow (s + 1) (ribAr most A' m c'))) := HBw.out.grown hgr HBw.out.size (fun q hq => by cases hq; have := HS.out; omega)
      have HO9 := OwnL.keep HO8 (fun i h1 h2 => hgr.block i h2 (fun e => by injection e with e; have := HSB.out; omega))
      have HN9 : NlsAt (wq.setRow (s + 1) (ribAr most A' m c')) B0 (.slice A2 m2 c2) ((L.filter (takP fam st)).map nrT) := OwnM.keep HN8 (fun k hk => hgr.block k (OwnM.lt HN8 k hk).2 (fun e => by injection e with e; have h1 := (OwnM.lt HN8 k hk).1; have := HSB.out; omega))
      have HPF := HP.out.below HBF.out
      obtain ⟨hph, hql⟩ := ph_of HO9 (fun t ht => HPF.ok t (List.mem_filter.1 ht).1)
      exact bodyPost_ret (results_rib2 rfl _ _ (s + 1) most A' m c' (.slice A2 m2 c2) rfl rfl HF.out) rfl ⟨⟨A', c', _, by rw [hql], .inr ⟨by rw [← hql]; exact OwnM.lower HO9 HWB.out, fun t ht => .inl ⟨t, (List.mem_filter.1 ht).1, rfl, rfl, rfl⟩⟩, OwnM.lower HN9 HWB.out⟩, HBF.out⟩
end Go.Proofs.YtldpcliahfiloaaGreat
