/-
  Several texts in one.
-/
import Derived.Test.YtldpcliahfiloaaGreatPW49
set_option linter.unusedVariables false
set_option linter.unusedSimpArgs false
namespace Go.Proofs.YtldpcliahfiloaaGreat
open Go.RowKit Go.MapKept Go.Shelf
open Go.ChangeShapes Go.WideShapes Go.ChangeAt
open Go.ChangeMaps (open_string shut_string)
open Go.Lib hiding intOf
open Go.Sort hiding Below

theorem NlsAt.nrsOk {w : World} {base : Nat} {v : Value} {T : List Nr} (h : NlsAt w base v T) (hok : ∀ x ∈ T, x.Ok) : ∃ A c, v = .slice A T.length c ∧ NrsOk w A c T := by
  obtain ⟨A, c, e, hr, h1, h2⟩ := OwnL.rd (F := Nr.cs) (fun x => rfl) (show OwnL w base _ 6 Nr.cs v T from h)
  exact ⟨A, c, e, hr, h1, h2, hok⟩
theorem NrsOk.below {w w' : World} {A : Option Addr} {c : Nat} {L : List Nr} (h : NrsOk w A c L) (hb : Below w.heap.size w w') : NrsOk w' A c L := ⟨h.rd.below hb (Nat.le_refl _), h.len, h.cap, h.ok⟩
theorem taken_ok {M : List TdC} {O : List Pk} {T : List Nr} (hok : ∀ t ∈ M, t.k.Ok ∧ t.label < 4294967296) (hT : TakenQ M O T) : ∀ x ∈ T, x.Ok := fun x hx => by
  obtain ⟨t, ht, e, e2⟩ := hT.2 x hx
  exact ⟨by rw [← e]; exact (hok t ht).1, by rw [← e2]; exact (hok t ht).2⟩
theorem taken_eq {M : List TdC} {L : List Td} {O : List Pk} {T : List Nr} (h : Rel M (L.map Td.c)) (Q : TdC → Bool) (P : Td → Bool) (hPQ : ∀ t, P t = Q t.c) (ho : OrdP O) (hp : O.Perm ((M.filter Q).map (·.k))) (ht : TakenQ M O T) : T = (L.filter P).map nrT := by
  have hf : (L.map Td.c).filter Q = (L.filter P).map Td.c := by
    rw [List.filter_map]
    congr 1
    exact List.filter_congr fun t _ => (hPQ t).symm
  have hk : T.map (·.k) = (L.filter P).map (fun t => t.k) := by
    rw [ht.1, ord_keys h Q ho hp, hf, List.map_map]
    rfl
  refine List.ext_getElem? fun i => ?_
  have hi : (T.map (·.k))[i]? = ((L.filter P).map (fun t => t.k))[i]? := by rw [hk]
  rw [List.getElem?_map, List.getElem?_map] at hi
  rw [List.getElem?_map]
  cases hx : T[i]? with
  | none =>
    rw [hx] at hi
    cases hy : (L.filter P)[i]? with
    | none => rfl
    | some u => rw [hy] at hi; cases hi
  | some x =>
    rw [hx] at hi
    cases hy : (L.filter P)[i]? with
    | none => rw [hy] at hi; cases hi
    | some u =>
      rw [hy] at hi
      have e : x.k = u.k := Option.some.inj hi
      obtain ⟨t, ht1, ht2, ht3⟩ := ht.2 x (List.mem_of_getElem? hx)
      have hu : u.c ∈ M := h.1.mem_iff.1 (List.mem_map.2 ⟨u, (List.mem_filter.1 (List.mem_of_getElem? hy)).1, rfl⟩)
      have htu : t = u.c := key_one h.keys ht1 hu (ht2.trans e)
      have hlab : x.label = u.label := by rw [← ht3, htu]; rfl
      show some x = some (nrT u)
      obtain ⟨xk, xl⟩ := x
      dsimp only at e hlab
      rw [e, hlab]
      rfl
theorem taken_rel {M : List TdC} {L : List Td} {O : List Pk} (h : Rel M (L.map Td.c)) (Q : TdC → Bool) (P : Td → Bool) (hPQ : ∀ t, P t = Q t.c) (hp : O.Perm ((M.filter Q).map (·.k))) : Rel (delL O M) ((L.filter fun t => !P t).map Td.c) := by
  rw [left_eq h.keys hp]
  have e : (L.filter fun t => !P t).map Td.c = (L.map Td.c).filter fun t => !Q t := by
    rw [List.filter_map]
    congr 1
    exact List.filter_congr fun t _ => by show (!P t) = !Q t.c; rw [hPQ]
  rw [e]
  exact h.filter _
set_option maxRecDepth 100000 in
set_option maxHeartbeats 16000000 in
theorem step4_any {w : World} {b m : Nat} {most : Int} {M : List TdC} {A : Option Addr} {c : Nat} {L : List Td} (h : StP w b m most M A c L) (hlen : M.length ≤ 800) (z : Int) (hz : (wrap64 (z.tmod 7 + 7)).tmod 7 = 4) (k : Pk) (hk : k.Ok) (label : Nat) (hl : label < 4294967296) (a : Atr) (ha : AtrOk w a) (hsz : AtrSz a.c) (fam : Int) :
    Calls Tryz.prog 5 #[.pointer (some ⟨b, 0, none⟩), .agg (ribAr most A L.length c), .agg (doAr z k label a fam)] w fun e w' => StepPost w m most M A c L w' e := by
  obtain ⟨⟨base, hrib⟩, hph, hrel⟩ := h
  have HRIB := Lib.hid hrib
  have HPH := Lib.hid hph
  have HREL := Lib.hid hrel
  have HK := Lib.hid hk
  have HLB := Lib.hid hl
  have HAO := Lib.hid ha
  have HSZ := Lib.hid hsz
  have HZ := Lib.hid hz
  have HLEN : Hid (M.length ≤ 800) := hlen
  have hLl : L.length ≤ 800 := by have := hrel.len; rw [List.length_map] at this; omega
  clear hrib hph hrel hk hl ha hsz hz hlen
  go_enter Tryz.func5, Tryz.ntmps5
  go_upto_region 1 with fail
  refine rb_name fun V hV => ?_
  obtain ⟨s, hs⟩ : ∃ s, s = w.heap.size := ⟨_, rfl⟩
  have HR0 : Hid (CellsAt V s (ribAr most A L.length c) 27) := by rw [hV, hs]; exact ((CellsAt.new _ _ _).alloc _).alloc _
  have HD0 : Hid (CellsAt V (s + 1) (doAr z k label a fam) 43) := by
    have h := CellsAt.new (w.alloc (.cells (ribAr most A L.length c) 27)) (doAr z k label a fam) 43
    rw [World.size_alloc] at h
    rw [hV, hs]
    exact h.alloc _
  have HQ0 : Hid (CellsAt V (s + 2) (ribAr 0 none 0 0) 27) := by
    have h := CellsAt.new ((w.alloc (.cells (ribAr most A L.length c) 27)).alloc (.cells (doAr z k label a fam) 43)) (ribAr 0 none 0 0) 27
    rw [World.size_alloc, World.size_alloc] at h
    rw [hV, hs]
    exact h
  have HB : Hid (Below w.heap.size w V) := by rw [hV]; exact (((Below.refl _ _).alloc (Nat.le_refl _) _).alloc (by simp) _).alloc (by simp; omega) _
  have HS : Hid (s = w.heap.size) := hs
  have HRV : Hid (RibM V base b m most M) := HRIB.out.below HB.out
  have hms : m < s := by rw [hs]; exact HRIB.out.lt.2.1
  have hbs : b < s := by rw [hs]; exact HRIB.out.lt.1
  rw [← hs]
  clear hV hs
  obtain ⟨d0, ⟨d1, d2, d3, d4, d5, d6⟩, d23⟩ := do_cells HD0.out
  go_upto_region 2 with fail
  rw [HZ.out]
  clear HZ d0
  have HPQ : Hid (∀ t : Td, takP fam true t = (fun t => decide (t.k.fam = fam) && t.stale) t.c) := fun t => by (simp [takP, Td.c]; rfl)
  go_wp2_with fail
  refine (rsweep_any HRV.out fam).mono ?_
  rintro e w2 ⟨⟨ov, T, O, rfl, hnl, hord, hperm, htk, hr2⟩, hg2⟩
  have HTE : Hid (T = (L.filter (takP fam true)).map nrT) := taken_eq HREL.out (fun t => decide (t.k.fam = fam) && t.stale) (takP fam true) HPQ.out hord hperm htk
  have HRL : Hid (Rel (delL O M) ((L.filter fun t => !takP fam true t).map Td.c)) := taken_rel HREL.out (fun t => decide (t.k.fam = fam) && t.stale) (takP fam true) HPQ.out hperm
  have HLM : Hid ((delL O M).length ≤ M.length + 1) := Nat.le_trans (List.length_filter_le ..) (Nat.le_succ _)
  have HTL : Hid (T.length ≤ 1000) := by
    show _ ≤ _
    rw [HTE.out, List.length_map]
    exact Nat.le_trans (List.length_filter_le ..) (by omega)
  obtain ⟨A1, c1, rfl, hn1⟩ := hnl.nrsOk (taken_ok HRV.out.oks htk)
  have HN1 : Hid (NrsOk w2 A1 c1 T) := hn1
  have HTO : Hid (∀ x ∈ T, x.Ok) := taken_ok HRV.out.oks htk
  have HR2 : Hid (RibM w2 base b m most (delL O M)) := hr2
  have HG2 : Hid (GrownX (fun i => i = m) V w2) := hg2
  have HRB2 : Hid (CellsAt w2 s (ribAr most A L.length c) 27) := HR0.out.grownX hg2 (by omega)
  have HD2 : Hid (CellsAt w2 (s + 1) (doAr z k label a fam) 43) := HD0.out.grownX hg2 (by omega)
  have HQ2 : Hid (CellsAt w2 (s + 2) (ribAr 0 none 0 0) 27) := HQ0.out.grownX hg2 (by omega)
  have HP2 : Hid (PhL w2 A c L) := (HPH.out.below HB.out).keepX hg2 (fun i hi => by rw [hi]; exact HRV.out.mapBlk)
  have HTK : Hid (∀ W, Below w2.heap.size w2 W → Calls Tryz.prog 24 #[.agg (ribAr most A L.length c), .int .i64 fam, .bool true] W fun e w' => (∃ A' c' nv, e = .returned (.tuple #[.agg (ribAr most A' (L.filter fun t => !takP fam true t).length c'), nv]) ∧ NewL W w' A c L A' c' (L.filter fun t => !takP fam true t) ∧ NlsAt w' W.heap.size nv T) ∧ Below W.heap.size W w') := fun W hW => by
    have h := take22_any (HP2.out.below hW) (by omega) most fam true
    rwa [← HTE.out] at h
  have HMB := Lib.hid HRV.out.mapBlk
  generalize (L.filter fun t => !takP fam true t) = L2 at HTK HRL
  generalize delL O M = M2 at HR2 HRL HLM
  generalize hnt : T.length = nt at *
  have HNT := Lib.hid hnt
  clear hnl hord hperm htk hr2 hg2 hn1 hnt HTE d1 d2 d3 d4 d5 d6 d23 HR0 HD0 HQ0 HPQ
  obtain ⟨_, ⟨d1, d2, d3, d4, d5, d6⟩, d23⟩ := do_cells HD2.out
  go_wp2_with (with_reducible show wpList _ _ _ (_ :: _) _ _; refine wpList_load_rib rfl (.tmp 4) rfl s rfl most A L.length c HRB2.out ?_)
  refine (HTK.out w2 (Below.refl _ _)).mono ?_
  rintro e w3 ⟨⟨A', c', nv, rfl, hnew, hn3⟩, hb3⟩
  have HNEW : Hid (NewL w2 w3 A c L A' c' L2) := hnew
  obtain ⟨A2, c2, rfl, hn2⟩ := hn3.nrsOk HTO.out
  rw [HNT.out]
  have HN2 : Hid (NrsOk w3 A2 c2 T) := hn2
  have HB3 : Hid (Below w2.heap.size w2 w3) := hb3
  have HN : Hid (∀ cs : Array Value, CellsAt (w3.alloc (.cells cs 27)) w3.heap.size cs 27) := fun cs => CellsAt.new _ _ _
  clear hnew hn3 hn2 hb3 HTK d1 d2 d3 d4 d5 d6 d23
  generalize hn2 : List.length L2 = n2
  have HNN := Lib.hid hn2
  clear hn2
  go_upto_region 24 with (with_reducible show wpList _ _ _ (_ :: _) _ _; refine wpList_store_rib rfl (.tmp 25) (.tmp 168) rfl w3.heap.size rfl most A' n2 c' rfl _ (HN.out _) rfl ?_)
  refine rb_name fun Z hZ => ?_
  have HBZ : Hid (Below w3.heap.size w3 Z) := by rw [hZ]; exact ((Below.refl _ _).alloc (Nat.le_refl _) _).grown (grown_setRow' _ _ _) (by simp) (fun q hq => by cases hq; exact Nat.le_refl _)
  obtain ⟨g, hg⟩ : ∃ x, x = w3.heap.size := ⟨_, rfl⟩
  have HG : Hid (CellsAt Z g (ribAr most A' n2 c') 27) := by rw [hZ, hg]; exact (HN.out _).setRow' _
  have HVZ : Hid (Below w2.heap.size w2 Z) := HB3.out.trans (HBZ.out.mono HB3.out.size)
  have hgs : s + 2 < g := by rw [hg]; exact Nat.lt_of_lt_of_le HQ2.out.lt HB3.out.size
  try rw [← hg]
  try simp only [Act.put]
  have HRZ : Hid (RibM Z base b m most M2) := HR2.out.below HVZ.out
  have HBX : Hid (∀ W, GrownX (fun i => i = m ∨ i = s + 2) Z W → CellsAt W g (ribAr most A' n2 c') 27) := fun W hW => HG.out.grownX hW (by omega)
  have HKZ : Hid (∀ i, i < w3.heap.size → Z.heap[i]? = w3.heap[i]?) := fun i hi => HBZ.out.block i hi
  have HSV : Hid (s + 2 < w2.heap.size) := HQ2.out.lt
  have HSZ2 : Hid (w3.heap.size ≤ Z.heap.size) := HBZ.out.size
  have HQZ : Hid (CellsAt Z (s + 2) (ribAr 0 none 0 0) 27) := HQ2.out.below HVZ.out HQ2.out.lt
  have HSN : Hid (∀ W, Below Z.heap.size Z W → Calls Tryz.prog 25 #[.slice A1 nt c1, .slice A2 nt c2] W fun e w' => e = .returned (.bool true) ∧ Below W.heap.size W w') := fun W hW => by
    have h := samenl_any ((HN1.out.below HVZ.out).below hW) ((HN2.out.below HBZ.out).below hW) (by rw [HNT.out]; exact HTL.out)
    rwa [HNT.out] at h
  clear hZ hg HN HG HR2 HD2 HQ2 HRB2 HN1 HN2
  refine wp_region_held_drew (S := fun w' => GrownX (fun i => i = m ∨ i = s + 2) Z w') (by kernel_rfl) ((GrownX.refl _ _).drew 1) (fun hHeld => ?_)
  refine wpAnyH_take (i := 0) (oi := { dst := some 170, op := Op.move (Operand.tmp 0), type := 23, pos := "law.go:65", after := #[], guard := none }) (v := ?_) rfl (by kernel_rfl) (by kernel_rfl) (by kernel_rfl) (fun _ _ _ h => h) (Or.inl ⟨by rfl, ?_⟩) hHeld ?_
  rotate_left
  · intro w hSw
    clear hSw
    go_simp
    try with_reducible rfl
  try simp only [Act.put, List.setIfInBounds_toArray, List.set_cons_zero, List.set_cons_succ]
  refine wpAnyH_take (i := 1) (oi := { dst := some 171, op := Op.load 27 (Operand.tmp 25), type := 27, pos := "law.go:65", after := #[{ on := 5, ground := Ground.gcOnly Departure.lateStores }], guard := none }) (v := Value.agg (ribAr most A' n2 c')) rfl (by kernel_rfl) (by kernel_rfl) (by kernel_rfl) (fun _ _ _ h => h) (yields_rib (by rfl) (.tmp 25) rfl g (by rfl) most A' n2 c' (fun w hSw => HBX.out w hSw)) hHeld ?_
  try simp only [Act.put, List.setIfInBounds_toArray, List.set_cons_zero, List.set_cons_succ]
  refine wpAnyH_take (i := 2) (oi := { dst := some 172, op := Op.move (Operand.tmp 24), type := 73, pos := "law.go:65", after := #[], guard := none }) (v := ?_) rfl (by kernel_rfl) (by kernel_rfl) (by kernel_rfl) (fun _ _ _ h => h) (Or.inl ⟨by rfl, ?_⟩) hHeld ?_
  rotate_left
  · intro w hSw
    clear hSw
    go_simp
    try with_reducible rfl
  try simp only [Act.put, List.setIfInBounds_toArray, List.set_cons_zero, List.set_cons_succ]
  refine wpAnyH_take (i := 3) (oi := { dst := some 173, op := Op.move (Operand.tmp 26), type := 73, pos := "law.go:65", after := #[], guard := none }) (v := ?_) rfl (by kernel_rfl) (by kernel_rfl) (by kernel_rfl) (fun _ _ _ h => h) (Or.inl ⟨by rfl, ?_⟩) hHeld ?_
  rotate_left
  · intro w hSw
    clear hSw
    go_simp
    try with_reducible rfl
  try simp only [Act.put, List.setIfInBounds_toArray, List.set_cons_zero, List.set_cons_succ]
  refine wpAnyH_ready (rs := [4]) (by kernel_rfl) (by simp) ?_
  refine AllReadyH.cons (o := { dst := some 174, op := Op.call { callee := Callee.value (Operand.func 25), args := #[Operand.tmp 172, Operand.tmp 173], argTypes := #[73, 73] }, type := 4, pos := "law.go:65", after := #[{ on := 2, ground := Ground.data }, { on := 3, ground := Ground.data }], guard := none }) rfl (fun K hK => ?_) AllReadyH.nil
  go_simp
  refine (HSN.out _ (below_drewN (Below.refl _ _) 1)).mono ?_
  rintro e w6 ⟨rfl, hb6⟩
  have HR6 : Hid (RibM w6 base b m most M2) := HRZ.out.drew_.below hb6
  have HG6 : Hid (GrownX (fun i => i = m) Z w6) := ((GrownX.refl _ _).drew 1).trans (GrownX.of_below hb6)
  have HX6 : Hid (GrownX (fun i => i = m ∨ i = s + 2) Z w6) := HG6.out.mono' (fun i hi => .inl hi)
  have HQ6 : Hid (CellsAt w6 (s + 2) (ribAr 0 none 0 0) 27) := HQZ.out.grownX HG6.out (by omega)
  refine hK.out _ _ (HX6.out) (fun hHeld => ?_)
  clear hK K
  try simp only [Act.put, List.setIfInBounds_toArray, List.set_cons_zero, List.set_cons_succ]
  refine wpAnyH_take (i := 5) (oi := { dst := some 6, op := Op.assign (Operand.tmp 170), type := 23, pos := "law.go:65", after := #[{ on := 0, ground := Ground.data }, { on := 4, ground := Ground.chain }, { on := 0, ground := Ground.phase }, { on := 1, ground := Ground.textOnly Departure.lateStores }, { on := 2, ground := Ground.textOnly Departure.lateStores }, { on := 3, ground := Ground.textOnly Departure.lateStores }, { on := 4, ground := Ground.textOnly Departure.lateStoresUnsure }], guard := none }) (v := ?_) rfl (by kernel_rfl) (by kernel_rfl) (by kernel_rfl) (fun _ _ _ h => h) (Or.inl ⟨by rfl, ?_⟩) hHeld ?_
  rotate_left
  · intro w hSw
    clear hSw
    go_simp
    try with_reducible rfl
  try simp only [Act.put, List.setIfInBounds_toArray, List.set_cons_zero, List.set_cons_succ]
  refine wpAnyH_ready (rs := [6]) (by kernel_rfl) (by simp) ?_
  refine AllReadyH.cons (o := { dst := none, op := Op.store 27 (Operand.tmp 7) (Operand.tmp 171), type := 0, pos := "law.go:65", after := #[{ on := 1, ground := Ground.data }, { on := 5, ground := Ground.chain }, { on := 0, ground := Ground.phase }, { on := 1, ground := Ground.phase }, { on := 2, ground := Ground.textOnly Departure.lateStores }, { on := 3, ground := Ground.textOnly Departure.lateStores }, { on := 4, ground := Ground.textOnly Departure.lateStoresUnsure }, { on := 5, ground := Ground.phase }], guard := none }) rfl (fun K hK => ?_) AllReadyH.nil
  refine wp_store_row 27 (.tmp 7) (.tmp 171) rfl (s + 2) (ribAr most A' n2 c') rfl rfl 27 _ HQ6.out (by rw [rib_size]; rfl) rfl (rib_ones _ _ _ _) ?_
  refine hK.out _ _ (hHeld.trans (GrownX.of_row (X := fun i => i = m ∨ i = s + 2) (grown_setRow' _ _ _) (.inr rfl))) (fun hHeld => ?_)
  clear hK K
  try simp only [Act.put, List.setIfInBounds_toArray, List.set_cons_zero, List.set_cons_succ]
  refine wpAnyH_take (i := 7) (oi := { dst := some 8, op := Op.assign (Operand.tmp 174), type := 4, pos := "law.go:65", after := #[{ on := 4, ground := Ground.data }, { on := 6, ground := Ground.chain }, { on := 0, ground := Ground.phase }, { on := 1, ground := Ground.phase }, { on := 2, ground := Ground.phase }, { on := 3, ground := Ground.phase }, { on := 4, ground := Ground.phase }, { on := 5, ground := Ground.phase }, { on := 6, ground := Ground.phase }], guard := none }) (v := ?_) rfl (by kernel_rfl) (by kernel_rfl) (by kernel_rfl) (fun _ _ _ h => h) (Or.inl ⟨by rfl, ?_⟩) hHeld ?_
  rotate_left
  · intro w hSw
    clear hSw
    go_simp
    try with_reducible rfl
  try simp only [Act.put, List.setIfInBounds_toArray, List.set_cons_zero, List.set_cons_succ]
  refine wpAnyH_done (by kernel_rfl) ?_ _
  have HF : Hid (CellsAt (w6.setRow (s + 2) (ribAr most A' n2 c')) (s + 2) (ribAr most A' n2 c') 27) := HQ6.out.setRow' _
  have hgr := grown_setRow' w6 (s + 2) (ribAr most A' n2 c')
  have HRF : Hid (RibM (w6.setRow (s + 2) (ribAr most A' n2 c')) base b m most M2) := HR6.out.offT hgr HQ6.out (by omega) (by omega)
  have HGF : Hid (GrownX (fun i => i = m) w (w6.setRow (s + 2) (ribAr most A' n2 c'))) := ((((GrownX.of_below HB.out).trans HG2.out).trans (GrownX.of_below HVZ.out)).trans HG6.out).new_ (GrownX.of_row (X := fun i => i = s + 2) hgr rfl) (fun i hi => by rw [hi, HS.out]; omega)
  have HPNF : Hid (PhL (w6.setRow (s + 2) (ribAr most A' n2 c')) A' c' L2) ∧ Hid (NewL w (w6.setRow (s + 2) (ribAr most A' n2 c')) A c L A' c' L2) := ph_mono HNEW.out (HPH.out.keepX HGF.out (fun i hi => by rw [hi]; exact HRIB.out.mapBlk)) (Nat.le_trans HB.out.size HG2.out.size) (fun i h1 h2 => by
    have h3 := HSV.out
    have h4 := HSZ2.out
    rw [hgr.block i (Nat.lt_of_lt_of_le (Nat.lt_of_lt_of_le h2 h4) HG6.out.size) (fun e => by injection e with e; omega), HG6.out.block i (Nat.lt_of_lt_of_le h2 h4) (by omega), HKZ.out i h2])
  obtain ⟨HPF, HNF⟩ := HPNF
  clear hHeld
  go_wp2_with fail
  exact bodyPost_ret (results_step rfl _ _ (s + 2) most A' n2 c' (.pointer (some ⟨b, 0, none⟩)) (.bool true) rfl rfl rfl HF.out) rfl ⟨b, m, _, A', c', L2, by rw [HNN.out], ⟨⟨base, HRF.out⟩, HPF.out, HRL.out⟩, HLM.out, .inl rfl, HGF.out, HNF.out⟩
set_option maxRecDepth 100000 in
set_option maxHeartbeats 16000000 in
theorem step5_any {w : World} {b m : Nat} {most : Int} {M : List TdC} {A : Option Addr} {c : Nat} {L : List Td} (h : StP w b m most M A c L) (hlen : M.length ≤ 800) (z : Int) (hz : (wrap64 (z.tmod 7 + 7)).tmod 7 = 5) (k : Pk) (hk : k.Ok) (label : Nat) (hl : label < 4294967296) (a : Atr) (ha : AtrOk w a) (hsz : AtrSz a.c) (fam : Int) :
    Calls Tryz.prog 5 #[.pointer (some ⟨b, 0, none⟩), .agg (ribAr most A L.length c), .agg (doAr z k label a fam)] w fun e w' => StepPost w m most M A c L w' e := by
  obtain ⟨⟨base, hrib⟩, hph, hrel⟩ := h
  have HRIB := Lib.hid hrib
  have HPH := Lib.hid hph
  have HREL := Lib.hid hrel
  have HK := Lib.hid hk
  have HLB := Lib.hid hl
  have HAO := Lib.hid ha
  have HSZ := Lib.hid hsz
  have HZ := Lib.hid hz
  have HLEN : Hid (M.length ≤ 800) := hlen
  have hLl : L.length ≤ 800 := by have := hrel.len; rw [List.length_map] at this; omega
  clear hrib hph hrel hk hl ha hsz hz hlen
  go_enter Tryz.func5, Tryz.ntmps5
  go_upto_region 1 with fail
  refine rb_name fun V hV => ?_
  obtain ⟨s, hs⟩ : ∃ s, s = w.heap.size := ⟨_, rfl⟩
  have HR0 : Hid (CellsAt V s (ribAr most A L.length c) 27) := by rw [hV, hs]; exact ((CellsAt.new _ _ _).alloc _).alloc _
  have HD0 : Hid (CellsAt V (s + 1) (doAr z k label a fam) 43) := by
    have h := CellsAt.new (w.alloc (.cells (ribAr most A L.length c) 27)) (doAr z k label a fam) 43
    rw [World.size_alloc] at h
    rw [hV, hs]
    exact h.alloc _
  have HQ0 : Hid (CellsAt V (s + 2) (ribAr 0 none 0 0) 27) := by
    have h := CellsAt.new ((w.alloc (.cells (ribAr most A L.length c) 27)).alloc (.cells (doAr z k label a fam) 43)) (ribAr 0 none 0 0) 27
    rw [World.size_alloc, World.size_alloc] at h
    rw [hV, hs]
    exact h
  have HB : Hid (Below w.heap.size w V) := by rw [hV]; exact (((Below.refl _ _).alloc (Nat.le_refl _) _).alloc (by simp) _).alloc (by simp; omega) _
  have HS : Hid (s = w.heap.size) := hs
  have HRV : Hid (RibM V base b m most M) := HRIB.out.below HB.out
  have hms : m < s := by rw [hs]; exact HRIB.out.lt.2.1
  have hbs : b < s := by rw [hs]; exact HRIB.out.lt.1
  rw [← hs]
  clear hV hs
  obtain ⟨d0, ⟨d1, d2, d3, d4, d5, d6⟩, d23⟩ := do_cells HD0.out
  go_upto_region 2 with fail
  rw [HZ.out]
  clear HZ d0
  have HPQ : Hid (∀ t : Td, takP fam false t = (fun t => decide (t.k.fam = fam) && true) t.c) := fun t => by (simp [takP, Td.c]; rfl)
  go_wp2_with fail
  refine (rclear_any HRV.out fam).mono ?_
  rintro e w2 ⟨⟨ov, T, O, rfl, hnl, hord, hperm, htk, hr2⟩, hg2⟩
  have HTE : Hid (T = (L.filter (takP fam false)).map nrT) := taken_eq HREL.out (fun t => decide (t.k.fam = fam) && true) (takP fam false) HPQ.out hord hperm htk
  have HRL : Hid (Rel (delL O M) ((L.filter fun t => !takP fam false t).map Td.c)) := taken_rel HREL.out (fun t => decide (t.k.fam = fam) && true) (takP fam false) HPQ.out hperm
  have HLM : Hid ((delL O M).length ≤ M.length + 1) := Nat.le_trans (List.length_filter_le ..) (Nat.le_succ _)
  have HTL : Hid (T.length ≤ 1000) := by
    show _ ≤ _
    rw [HTE.out, List.length_map]
    exact Nat.le_trans (List.length_filter_le ..) (by omega)
  obtain ⟨A1, c1, rfl, hn1⟩ := hnl.nrsOk (taken_ok HRV.out.oks htk)
  have HN1 : Hid (NrsOk w2 A1 c1 T) := hn1
  have HTO : Hid (∀ x ∈ T, x.Ok) := taken_ok HRV.out.oks htk
  have HR2 : Hid (RibM w2 base b m most (delL O M)) := hr2
  have HG2 : Hid (GrownX (fun i => i = m) V w2) := hg2
  have HRB2 : Hid (CellsAt w2 s (ribAr most A L.length c) 27) := HR0.out.grownX hg2 (by omega)
  have HD2 : Hid (CellsAt w2 (s + 1) (doAr z k label a fam) 43) := HD0.out.grownX hg2 (by omega)
  have HQ2 : Hid (CellsAt w2 (s + 2) (ribAr 0 none 0 0) 27) := HQ0.out.grownX hg2 (by omega)
  have HP2 : Hid (PhL w2 A c L) := (HPH.out.below HB.out).keepX hg2 (fun i hi => by rw [hi]; exact HRV.out.mapBlk)
  have HTK : Hid (∀ W, Below w2.heap.size w2 W → Calls Tryz.prog 24 #[.agg (ribAr most A L.length c), .int .i64 fam, .bool false] W fun e w' => (∃ A' c' nv, e = .returned (.tuple #[.agg (ribAr most A' (L.filter fun t => !takP fam false t).length c'), nv]) ∧ NewL W w' A c L A' c' (L.filter fun t => !takP fam false t) ∧ NlsAt w' W.heap.size nv T) ∧ Below W.heap.size W w') := fun W hW => by
    have h := take22_any (HP2.out.below hW) (by omega) most fam false
    rwa [← HTE.out] at h
  have HMB := Lib.hid HRV.out.mapBlk
  generalize (L.filter fun t => !takP fam false t) = L2 at HTK HRL
  generalize delL O M = M2 at HR2 HRL HLM
  generalize hnt : T.length = nt at *
  have HNT := Lib.hid hnt
  clear hnl hord hperm htk hr2 hg2 hn1 hnt HTE d1 d2 d3 d4 d5 d6 d23 HR0 HD0 HQ0 HPQ
  obtain ⟨_, ⟨d1, d2, d3, d4, d5, d6⟩, d23⟩ := do_cells HD2.out
  go_wp2_with (with_reducible show wpList _ _ _ (_ :: _) _ _; refine wpList_load_rib rfl (.tmp 4) rfl s rfl most A L.length c HRB2.out ?_)
  refine (HTK.out w2 (Below.refl _ _)).mono ?_
  rintro e w3 ⟨⟨A', c', nv, rfl, hnew, hn3⟩, hb3⟩
  have HNEW : Hid (NewL w2 w3 A c L A' c' L2) := hnew
  obtain ⟨A2, c2, rfl, hn2⟩ := hn3.nrsOk HTO.out
  rw [HNT.out]
  have HN2 : Hid (NrsOk w3 A2 c2 T) := hn2
  have HB3 : Hid (Below w2.heap.size w2 w3) := hb3
  have HN : Hid (∀ cs : Array Value, CellsAt (w3.alloc (.cells cs 27)) w3.heap.size cs 27) := fun cs => CellsAt.new _ _ _
  clear hnew hn3 hn2 hb3 HTK d1 d2 d3 d4 d5 d6 d23
  generalize hn2 : List.length L2 = n2
  have HNN := Lib.hid hn2
  clear hn2
  go_upto_region 28 with (with_reducible show wpList _ _ _ (_ :: _) _ _; refine wpList_store_rib rfl (.tmp 28) (.tmp 186) rfl w3.heap.size rfl most A' n2 c' rfl _ (HN.out _) rfl ?_)
  refine rb_name fun Z hZ => ?_
  have HBZ : Hid (Below w3.heap.size w3 Z) := by rw [hZ]; exact ((Below.refl _ _).alloc (Nat.le_refl _) _).grown (grown_setRow' _ _ _) (by simp) (fun q hq => by cases hq; exact Nat.le_refl _)
  obtain ⟨g, hg⟩ : ∃ x, x = w3.heap.size := ⟨_, rfl⟩
  have HG : Hid (CellsAt Z g (ribAr most A' n2 c') 27) := by rw [hZ, hg]; exact (HN.out _).setRow' _
  have HVZ : Hid (Below w2.heap.size w2 Z) := HB3.out.trans (HBZ.out.mono HB3.out.size)
  have hgs : s + 2 < g := by rw [hg]; exact Nat.lt_of_lt_of_le HQ2.out.lt HB3.out.size
  try rw [← hg]
  try simp only [Act.put]
  have HRZ : Hid (RibM Z base b m most M2) := HR2.out.below HVZ.out
  have HBX : Hid (∀ W, GrownX (fun i => i = m ∨ i = s + 2) Z W → CellsAt W g (ribAr most A' n2 c') 27) := fun W hW => HG.out.grownX hW (by omega)
  have HKZ : Hid (∀ i, i < w3.heap.size → Z.heap[i]? = w3.heap[i]?) := fun i hi => HBZ.out.block i hi
  have HSV : Hid (s + 2 < w2.heap.size) := HQ2.out.lt
  have HSZ2 : Hid (w3.heap.size ≤ Z.heap.size) := HBZ.out.size
  have HQZ : Hid (CellsAt Z (s + 2) (ribAr 0 none 0 0) 27) := HQ2.out.below HVZ.out HQ2.out.lt
  have HSN : Hid (∀ W, Below Z.heap.size Z W → Calls Tryz.prog 25 #[.slice A1 nt c1, .slice A2 nt c2] W fun e w' => e = .returned (.bool true) ∧ Below W.heap.size W w') := fun W hW => by
    have h := samenl_any ((HN1.out.below HVZ.out).below hW) ((HN2.out.below HBZ.out).below hW) (by rw [HNT.out]; exact HTL.out)
    rwa [HNT.out] at h
  clear hZ hg HN HG HR2 HD2 HQ2 HRB2 HN1 HN2
  refine wp_region_held_drew (S := fun w' => GrownX (fun i => i = m ∨ i = s + 2) Z w') (by kernel_rfl) ((GrownX.refl _ _).drew 1) (fun hHeld => ?_)
  refine wpAnyH_take (i := 0) (oi := { dst := some 188, op := Op.move (Operand.tmp 0), type := 23, pos := "law.go:69", after := #[], guard := none }) (v := ?_) rfl (by kernel_rfl) (by kernel_rfl) (by kernel_rfl) (fun _ _ _ h => h) (Or.inl ⟨by rfl, ?_⟩) hHeld ?_
  rotate_left
  · intro w hSw
    clear hSw
    go_simp
    try with_reducible rfl
  try simp only [Act.put, List.setIfInBounds_toArray, List.set_cons_zero, List.set_cons_succ]
  refine wpAnyH_take (i := 1) (oi := { dst := some 189, op := Op.load 27 (Operand.tmp 28), type := 27, pos := "law.go:69", after := #[{ on := 5, ground := Ground.gcOnly Departure.lateStores }], guard := none }) (v := Value.agg (ribAr most A' n2 c')) rfl (by kernel_rfl) (by kernel_rfl) (by kernel_rfl) (fun _ _ _ h => h) (yields_rib (by rfl) (.tmp 28) rfl g (by rfl) most A' n2 c' (fun w hSw => HBX.out w hSw)) hHeld ?_
  try simp only [Act.put, List.setIfInBounds_toArray, List.set_cons_zero, List.set_cons_succ]
  refine wpAnyH_take (i := 2) (oi := { dst := some 190, op := Op.move (Operand.tmp 27), type := 73, pos := "law.go:69", after := #[], guard := none }) (v := ?_) rfl (by kernel_rfl) (by kernel_rfl) (by kernel_rfl) (fun _ _ _ h => h) (Or.inl ⟨by rfl, ?_⟩) hHeld ?_
  rotate_left
  · intro w hSw
    clear hSw
    go_simp
    try with_reducible rfl
  try simp only [Act.put, List.setIfInBounds_toArray, List.set_cons_zero, List.set_cons_succ]
  refine wpAnyH_take (i := 3) (oi := { dst := some 191, op := Op.move (Operand.tmp 29), type := 73, pos := "law.go:69", after := #[], guard := none }) (v := ?_) rfl (by kernel_rfl) (by kernel_rfl) (by kernel_rfl) (fun _ _ _ h => h) (Or.inl ⟨by rfl, ?_⟩) hHeld ?_
  rotate_left
  · intro w hSw
    clear hSw
    go_simp
    try with_reducible rfl
  try simp only [Act.put, List.setIfInBounds_toArray, List.set_cons_zero, List.set_cons_succ]
  refine wpAnyH_ready (rs := [4]) (by kernel_rfl) (by simp) ?_
  refine AllReadyH.cons (o := { dst := some 192, op := Op.call { callee := Callee.value (Operand.func 25), args := #[Operand.tmp 190, Operand.tmp 191], argTypes := #[73, 73] }, type := 4, pos := "law.go:69", after := #[{ on := 2, ground := Ground.data }, { on := 3, ground := Ground.data }], guard := none }) rfl (fun K hK => ?_) AllReadyH.nil
  go_simp
  refine (HSN.out _ (below_drewN (Below.refl _ _) 1)).mono ?_
  rintro e w6 ⟨rfl, hb6⟩
  have HR6 : Hid (RibM w6 base b m most M2) := HRZ.out.drew_.below hb6
  have HG6 : Hid (GrownX (fun i => i = m) Z w6) := ((GrownX.refl _ _).drew 1).trans (GrownX.of_below hb6)
  have HX6 : Hid (GrownX (fun i => i = m ∨ i = s + 2) Z w6) := HG6.out.mono' (fun i hi => .inl hi)
  have HQ6 : Hid (CellsAt w6 (s + 2) (ribAr 0 none 0 0) 27) := HQZ.out.grownX HG6.out (by omega)
  refine hK.out _ _ (HX6.out) (fun hHeld => ?_)
  clear hK K
  try simp only [Act.put, List.setIfInBounds_toArray, List.set_cons_zero, List.set_cons_succ]
  refine wpAnyH_take (i := 5) (oi := { dst := some 6, op := Op.assign (Operand.tmp 188), type := 23, pos := "law.go:69", after := #[{ on := 0, ground := Ground.data }, { on := 4, ground := Ground.chain }, { on := 0, ground := Ground.phase }, { on := 1, ground := Ground.textOnly Departure.lateStores }, { on := 2, ground := Ground.textOnly Departure.lateStores }, { on := 3, ground := Ground.textOnly Departure.lateStores }, { on := 4, ground := Ground.textOnly Departure.lateStoresUnsure }], guard := none }) (v := ?_) rfl (by kernel_rfl) (by kernel_rfl) (by kernel_rfl) (fun _ _ _ h => h) (Or.inl ⟨by rfl, ?_⟩) hHeld ?_
  rotate_left
  · intro w hSw
    clear hSw
    go_simp
    try with_reducible rfl
  try simp only [Act.put, List.setIfInBounds_toArray, List.set_cons_zero, List.set_cons_succ]
  refine wpAnyH_ready (rs := [6]) (by kernel_rfl) (by simp) ?_
  refine AllReadyH.cons (o := { dst := none, op := Op.store 27 (Operand.tmp 7) (Operand.tmp 189), type := 0, pos := "law.go:69", after := #[{ on := 1, ground := Ground.data }, { on := 5, ground := Ground.chain }, { on := 0, ground := Ground.phase }, { on := 1, ground := Ground.phase }, { on := 2, ground := Ground.textOnly Departure.lateStores }, { on := 3, ground := Ground.textOnly Departure.lateStores }, { on := 4, ground := Ground.textOnly Departure.lateStoresUnsure }, { on := 5, ground := Ground.phase }], guard := none }) rfl (fun K hK => ?_) AllReadyH.nil
  refine wp_store_row 27 (.tmp 7) (.tmp 189) rfl (s + 2) (ribAr most A' n2 c') rfl rfl 27 _ HQ6.out (by rw [rib_size]; rfl) rfl (rib_ones _ _ _ _) ?_
  refine hK.out _ _ (hHeld.trans (GrownX.of_row (X := fun i => i = m ∨ i = s + 2) (grown_setRow' _ _ _) (.inr rfl))) (fun hHeld => ?_)
  clear hK K
  try simp only [Act.put, List.setIfInBounds_toArray, List.set_cons_zero, List.set_cons_succ]
  refine wpAnyH_take (i := 7) (oi := { dst := some 8, op := Op.assign (Operand.tmp 192), type := 4, pos := "law.go:69", after := #[{ on := 4, ground := Ground.data }, { on := 6, ground := Ground.chain }, { on := 0, ground := Ground.phase }, { on := 1, ground := Ground.phase }, { on := 2, ground := Ground.phase }, { on := 3, ground := Ground.phase }, { on := 4, ground := Ground.phase }, { on := 5, ground := Ground.phase }, { on := 6, ground := Ground.phase }], guard := none }) (v := ?_) rfl (by kernel_rfl) (by kernel_rfl) (by kernel_rfl) (fun _ _ _ h => h) (Or.inl ⟨by rfl, ?_⟩) hHeld ?_
  rotate_left
  · intro w hSw
    clear hSw
    go_simp
    try with_reducible rfl
  try simp only [Act.put, List.setIfInBounds_toArray, List.set_cons_zero, List.set_cons_succ]
  refine wpAnyH_done (by kernel_rfl) ?_ _
  have HF : Hid (CellsAt (w6.setRow (s + 2) (ribAr most A' n2 c')) (s + 2) (ribAr most A' n2 c') 27) := HQ6.out.setRow' _
  have hgr := grown_setRow' w6 (s + 2) (ribAr most A' n2 c')
  have HRF : Hid (RibM (w6.setRow (s + 2) (ribAr most A' n2 c')) base b m most M2) := HR6.out.offT hgr HQ6.out (by omega) (by omega)
  have HGF : Hid (GrownX (fun i => i = m) w (w6.setRow (s + 2) (ribAr most A' n2 c'))) := ((((GrownX.of_below HB.out).trans HG2.out).trans (GrownX.of_below HVZ.out)).trans HG6.out).new_ (GrownX.of_row (X := fun i => i = s + 2) hgr rfl) (fun i hi => by rw [hi, HS.out]; omega)
  have HPNF : Hid (PhL (w6.setRow (s + 2) (ribAr most A' n2 c')) A' c' L2) ∧ Hid (NewL w (w6.setRow (s + 2) (ribAr most A' n2 c')) A c L A' c' L2) := ph_mono HNEW.out (HPH.out.keepX HGF.out (fun i hi => by rw [hi]; exact HRIB.out.mapBlk)) (Nat.le_trans HB.out.size HG2.out.size) (fun i h1 h2 => by
    have h3 := HSV.out
    have h4 := HSZ2.out
    rw [hgr.block i (Nat.lt_of_lt_of_le (Nat.lt_of_lt_of_le h2 h4) HG6.out.size) (fun e => by injection e with e; omega), HG6.out.block i (Nat.lt_of_lt_of_le h2 h4) (by omega), HKZ.out i h2])
  obtain ⟨HPF, HNF⟩ := HPNF
  clear hHeld
  go_wp2_with fail
  exact bodyPost_ret (results_step rfl _ _ (s + 2) most A' n2 c' (.pointer (some ⟨b, 0, none⟩)) (.bool true) rfl rfl rfl HF.out) rfl ⟨b, m, _, A', c', L2, by rw [HNN.out], ⟨⟨base, HRF.out⟩, HPF.out, HRL.out⟩, HLM.out, .inl rfl, HGF.out, HNF.out⟩
end Go.Proofs.YtldpcliahfiloaaGreat
