/-
  Several texts in one.
-/
import Derived.Test.YtldpcliahfiloaaGreatPW48
set_option linter.unusedVariables false
set_option linter.unusedSimpArgs false
namespace Go.Proofs.YtldpcliahfiloaaGreat
open Go.RowKit Go.MapKept Go.Shelf
open Go.ChangeShapes Go.WideShapes Go.ChangeAt
open Go.ChangeMaps (open_string shut_string)
open Go.Lib hiding intOf
open Go.Sort hiding Below

/-- a step, as a value -/
def doAr (z : Int) (k : Pk) (label : Nat) (a : Atr) (fam : Int) : Array Value := #[.int .i64 z, .int .i64 k.fam, .int .u64 k.rd, .string k.addr, .int .i64 k.len, .int .u32 (k.id : Nat), .int .u32 (label : Nat), .int .i64 a.origin, .slice a.pA a.segs.length a.pC, .string a.next, .bool a.hasMed, .int .u32 (a.med : Nat), .bool a.hasPref, .int .u32 (a.pref : Nat), .bool a.atomic, .int .u32 (a.aggAs : Nat), .int .u32 (a.aggId : Nat), .slice a.mA a.comms.length a.mC, .slice a.xA a.exts.length a.xC, .slice a.lA a.larges.length a.lC, .bool a.hasOrig, .int .u32 (a.orig : Nat), .slice a.kA a.clus.length a.kC, .int .i64 fam]
theorem do_cells {w : World} {g : Nat} {z : Int} {k : Pk} {label : Nat} {a : Atr} {fam : Int} (h : CellsAt w g (doAr z k label a fam) 43) : w.cell? ⟨g, 0, none⟩ = some (.int .i64 z) ∧ (w.cell? ⟨g, 1, none⟩ = some (.int .i64 k.fam) ∧ w.cell? ⟨g, 2, none⟩ = some (.int .u64 k.rd) ∧ w.cell? ⟨g, 3, none⟩ = some (.string k.addr) ∧ w.cell? ⟨g, 4, none⟩ = some (.int .i64 k.len) ∧ w.cell? ⟨g, 5, none⟩ = some (.int .u32 (k.id : Nat)) ∧ w.cell? ⟨g, 6, none⟩ = some (.int .u32 (label : Nat))) ∧ w.cell? ⟨g, 23, none⟩ = some (.int .i64 fam) :=
  ⟨(h.c 0).trans rfl, ⟨(h.c 1).trans rfl, (h.c 2).trans rfl, (h.c 3).trans rfl, (h.c 4).trans rfl, (h.c 5).trans rfl, (h.c 6).trans rfl⟩, (h.c 23).trans rfl⟩
theorem do_attrs {w : World} {g : Nat} {z : Int} {k : Pk} {label : Nat} {a : Atr} {fam : Int} (h : CellsAt w g (doAr z k label a fam) 43) : w.rangeAt g 7 a.ar.toList := fun j v hv => by
  rw [h.c]
  have e : (doAr z k label a fam).toList = [.int .i64 z, .int .i64 k.fam, .int .u64 k.rd, .string k.addr, .int .i64 k.len, .int .u32 (k.id : Nat), .int .u32 (label : Nat)] ++ (a.cs ++ [.int .i64 fam]) := rfl
  have hv2 : a.cs[j]? = some v := hv
  rw [← Array.getElem?_toList, e, List.getElem?_append_right (by simp)]
  simp only [List.length_cons, List.length_nil, Nat.zero_add, Nat.reduceAdd, Nat.add_sub_cancel_left]
  rw [List.getElem?_append_left (List.getElem?_eq_some_iff.1 hv2).1]
  exact hv2
/-- the rib and the document's beside it -/
structure StP (w : World) (b m : Nat) (most : Int) (M : List TdC) (A : Option Addr) (c : Nat) (L : List Td) : Prop where
  rib : ∃ base, RibM w base b m most M
  ph : PhL w A c L
  rel : Rel M (L.map Td.c)
theorem NewL.mono {w0 w w' W : World} {A : Option Addr} {c : Nat} {L : List Td} {A' : Option Addr} {c' : Nat} {L' : List Td} (h : NewL w w' A c L A' c' L') (hk : ∀ i, w.heap.size ≤ i → i < w'.heap.size → W.heap[i]? = w'.heap[i]?) (hb : w0.heap.size ≤ w.heap.size) : NewL w0 W A c L A' c' L' := by
  rcases h with h | ⟨h1, h2⟩
  · exact .inl h
  · refine .inr ⟨OwnM.lower (OwnL.keep h1 hk) hb, fun t ht => ?_⟩
    rcases h2 t ht with h | ⟨e1, e2, e3, e4⟩
    · exact .inl h
    · exact .inr ⟨e1, e2, (e3.keep hk).lower' hb, e4⟩
def StepPost (w : World) (m : Nat) (most : Int) (M : List TdC) (A : Option Addr) (c : Nat) (L : List Td) (w' : World) (e : Ending) : Prop :=
  ∃ b' m' M' A' c' L', e = .returned (.tuple #[.pointer (some ⟨b', 0, none⟩), .agg (ribAr most A' (List.length L') c'), .bool true]) ∧ StP w' b' m' most M' A' c' L' ∧ M'.length ≤ M.length + 1 ∧ (m' = m ∨ w.heap.size ≤ m') ∧ GrownX (fun i => i = m) w w' ∧ NewL w w' A c L A' c' L'
theorem ph_mono {w0 w w' W : World} {A : Option Addr} {c : Nat} {L : List Td} {A' : Option Addr} {c' : Nat} {L' : List Td} (h : NewL w w' A c L A' c' L') (hW : PhL W A c L) (hb : w0.heap.size ≤ w.heap.size) (hk : ∀ i, w.heap.size ≤ i → i < w'.heap.size → W.heap[i]? = w'.heap[i]?) : Hid (PhL W A' c' L') ∧ Hid (NewL w0 W A c L A' c' L') := ⟨h.ph hW hk, h.mono hk hb⟩
theorem RibM.drew_ {w : World} {base b m : Nat} {most : Int} {M : List TdC} (h : RibM w base b m most M) : RibM w.drew base b m most M := by
  obtain ⟨S, h1, h2⟩ := h
  exact ⟨S, h1.drew 1, h2⟩
theorem RibM.mapBlk {w : World} {base b m : Nat} {most : Int} {M : List TdC} (h : RibM w base b m most M) : ∀ cs T fr, w.heap[m]? ≠ some (.cells cs T fr) := by
  obtain ⟨S, h1, _⟩ := h
  exact h1.mapBlk
theorem RibM.offT {w w' : World} {base b m g : Nat} {most : Int} {M : List TdC} {cs : Array Value} {T : TypeId} (h : RibM w base b m most M) (hg : w.grownBy w' (some g)) (hc : CellsAt w g cs T) (hb : b ≠ g) (hm : m ≠ g) (h1 : 88 ≠ T := by decide) (h2 : 33 ≠ T := by decide) (h3 : 30 ≠ T := by decide) (h4 : 100 ≠ T := by decide) : RibM w' base b m most M := by
  obtain ⟨S, h1', h2'⟩ := h
  exact ⟨S, h1'.offT hg hc hb hm h1 h2 h3 h4, h2'⟩
theorem RibM.oks {w : World} {base b m : Nat} {most : Int} {M : List TdC} (h : RibM w base b m most M) : ∀ t ∈ M, t.k.Ok ∧ t.label < 4294967296 := by
  obtain ⟨S, h1, rfl⟩ := h
  intro t ht
  obtain ⟨p, hp, rfl⟩ := List.mem_map.1 ht
  exact h1.ok p hp
theorem results_step {fn : Func} {p q r : Tmp} (h : fn.results = #[.tmp p, .cell q 27, .tmp r]) (tmps : Array Value) (w : World) (g : Nat) (most : Int) (A : Option Addr) (n c : Nat) (x z : Value) (hp : tmps.getD p undef = x) (hq : tmps.getD q undef = .pointer (some ⟨g, 0, none⟩)) (hr : tmps.getD r undef = z) (hg : CellsAt w g (ribAr most A n c) 27) :
    (results fn tmps).run Tryz.prog w = .ok (.tuple #[x, .agg (ribAr most A n c), z]) w := by
  obtain ⟨fs, hu⟩ := rib_under
  have e : (results fn tmps).run Tryz.prog w = ((asAddr (tmps.getD q undef)).run Tryz.prog w).andThen fun a w₁ => ((loadVar 27 a).run Tryz.prog w₁).andThen fun v w₂ => .ok (.tuple #[tmps.getD p undef, v, tmps.getD r undef]) w₂ := by
    simp only [results, h]
    simp [Sem.run_bind, Result.andThen]
  rw [e, hq]
  simp only [asAddr, Sem.run_pure, Result.andThen_ok]
  rw [run_loadVar_mid w g 0 _ (ribAr most A n c).toList _ hg.range hu rfl (by rw [rib_size]; rfl), hp, hr]
  rfl
theorem yields_rib {ops : Array Oper} {S : World → Prop} {o : Oper} {a : Act} (hw : Region.wanted o (yielded ops a.tmps) = true) (src : Operand) (ho : o.op = .load 27 src)
    (b : Nat) (hx : a.eval src = .pointer (some ⟨b, 0, none⟩)) (most : Int) (A : Option Addr) (n c : Nat) (hS : ∀ w, S w → CellsAt w b (ribAr most A n c) 27) : YieldsIf Tryz.prog ops S o (.agg (ribAr most A n c)) a := by
  obtain ⟨fs, hu⟩ := rib_under
  exact yieldsIf_load_mid hw 27 src ho b 0 hx (ribAr most A n c).toList _ (fun w h => (hS w h).range) hu rfl (by rw [rib_size]; rfl)
theorem cnt_rel {M : List TdC} {L : List Td} (h : Rel M (L.map Td.c)) (fam : Int) : cntC M fam = (L.filter (famP fam)).length := by
  have e := cnt_perm h.1 fam
  rw [← e]
  unfold cntC
  rw [List.filter_map, List.length_map]
  rfl
theorem GrownX.mono' {X Y : Nat → Prop} {w w' : World} (h : GrownX X w w') (hi : ∀ i, X i → Y i) : GrownX Y w w' := ⟨h.os, h.tape, h.output, h.size, fun i hl hx => h.block i hl (fun e => hx (hi i e))⟩
set_option maxRecDepth 100000 in
set_option maxHeartbeats 16000000 in
theorem step3_any {w : World} {b m : Nat} {most : Int} {M : List TdC} {A : Option Addr} {c : Nat} {L : List Td} (h : StP w b m most M A c L) (hlen : M.length ≤ 800) (z : Int) (hz : (wrap64 (z.tmod 7 + 7)).tmod 7 = 3) (k : Pk) (hk : k.Ok) (label : Nat) (hl : label < 4294967296) (a : Atr) (ha : AtrOk w a) (hsz : AtrSz a.c) (fam : Int) :
    Calls Tryz.prog 5 #[.pointer (some ⟨b, 0, none⟩), .agg (ribAr most A L.length c), .agg (doAr z k label a fam)] w fun e w' => StepPost w m most M A c L w' e := by
  obtain ⟨⟨base, hrib⟩, hph, hrel⟩ := h
  have HRIB := Lib.hid hrib
  have HPH := Lib.hid hph
  have HREL := Lib.hid hrel
  have HK := Lib.hid hk
  have HLB := Lib.hid hl
  have HAO := Lib.hid ha
  have HSZ := Lib.hid hsz
  have HZ := Lib.hid hz
  have HLEN : Hid (M.length ≤ 800) := hlen
  have hLl : L.length ≤ 800 := by have := hrel.len; rw [List.length_map] at this; omega
  clear hrib hph hrel hk hl ha hsz hz hlen
  go_enter Tryz.func5, Tryz.ntmps5
  go_upto_region 1 with fail
  refine rb_name fun V hV => ?_
  obtain ⟨s, hs⟩ : ∃ s, s = w.heap.size := ⟨_, rfl⟩
  have HR0 : Hid (CellsAt V s (ribAr most A L.length c) 27) := by rw [hV, hs]; exact ((CellsAt.new _ _ _).alloc _).alloc _
  have HD0 : Hid (CellsAt V (s + 1) (doAr z k label a fam) 43) := by
    have h := CellsAt.new (w.alloc (.cells (ribAr most A L.length c) 27)) (doAr z k label a fam) 43
    rw [World.size_alloc] at h
    rw [hV, hs]
    exact h.alloc _
  have HQ0 : Hid (CellsAt V (s + 2) (ribAr 0 none 0 0) 27) := by
    have h := CellsAt.new ((w.alloc (.cells (ribAr most A L.length c) 27)).alloc (.cells (doAr z k label a fam) 43)) (ribAr 0 none 0 0) 27
    rw [World.size_alloc, World.size_alloc] at h
    rw [hV, hs]
    exact h
  have HB : Hid (Below w.heap.size w V) := by rw [hV]; exact (((Below.refl _ _).alloc (Nat.le_refl _) _).alloc (by simp) _).alloc (by simp; omega) _
  have HS : Hid (s = w.heap.size) := hs
  have HRV : Hid (RibM V base b m most M) := HRIB.out.below HB.out
  have hms : m < s := by rw [hs]; exact HRIB.out.lt.2.1
  have hbs : b < s := by rw [hs]; exact HRIB.out.lt.1
  rw [← hs]
  clear hV hs
  obtain ⟨d0, ⟨d1, d2, d3, d4, d5, d6⟩, d23⟩ := do_cells HD0.out
  go_upto_region 2 with fail
  rw [HZ.out]
  clear HZ d0
  have HMK : Hid (∀ W, Below w.heap.size w W → Calls Tryz.prog 21 #[.agg (ribAr most A L.length c), .int .i64 fam] W fun e w' => (∃ A' c', e = .returned (.agg (ribAr most A' (L.map (markF fam)).length c')) ∧ NewL W w' A c L A' c' (L.map (markF fam))) ∧ Below W.heap.size W w') := fun W hW => mark22_any (HPH.out.below hW) (by omega) most fam
  have HMM : Hid (Rel (markC fam M) ((L.map (markF fam)).map Td.c)) := by show Rel _ _; rw [markF_c]; exact HREL.out.mark fam
  have HCN : Hid (cntC M fam = (L.filter (famP fam)).length) := cnt_rel HREL.out fam
  have HLM : Hid ((markC fam M).length ≤ M.length + 1) := by show _ ≤ _; rw [markC_len]; omega
  generalize L.map (markF fam) = L2 at HMK HMM
  go_wp2_with (with_reducible show wpList _ _ _ (_ :: _) _ _; refine wpList_load_rib rfl (.tmp 4) rfl s rfl most A L.length c HR0.out ?_)
  refine (HMK.out V HB.out).mono ?_
  rintro e w2 ⟨⟨A', c', rfl, hp2⟩, hb2⟩
  have HP2 : Hid (NewL V w2 A c L A' c' L2) := hp2
  have HB2 : Hid (Below V.heap.size V w2) := hb2
  have HN : Hid (∀ cs : Array Value, CellsAt (w2.alloc (.cells cs 27)) w2.heap.size cs 27) := fun cs => CellsAt.new _ _ _
  clear hp2 hb2 HMK d1 d2 d3 d4 d5 d6 d23
  generalize hn2 : List.length L2 = n2
  have HN2 := Lib.hid hn2
  clear hn2
  go_upto_region 20 with (with_reducible show wpList _ _ _ (_ :: _) _ _; refine wpList_store_rib rfl (.tmp 23) (.tmp 144) rfl w2.heap.size rfl most A' n2 c' rfl _ (HN.out _) rfl ?_)
  refine rb_name fun Z hZ => ?_
  have HBZ : Hid (Below w2.heap.size w2 Z) := by rw [hZ]; exact ((Below.refl _ _).alloc (Nat.le_refl _) _).grown (grown_setRow' _ _ _) (by simp) (fun q hq => by cases hq; exact Nat.le_refl _)
  obtain ⟨g, hg⟩ : ∃ x, x = w2.heap.size := ⟨_, rfl⟩
  have HG : Hid (CellsAt Z g (ribAr most A' n2 c') 27) := by rw [hZ, hg]; exact (HN.out _).setRow' _
  have HVZ : Hid (Below V.heap.size V Z) := HB2.out.trans (HBZ.out.mono HB2.out.size)
  have hgs : s + 2 < g := by rw [hg]; exact Nat.lt_of_lt_of_le HQ0.out.lt HB2.out.size
  try rw [← hg]
  try simp only [Act.put]
  have HRZ : Hid (RibM Z base b m most M) := HRV.out.below HVZ.out
  have HBX : Hid (∀ W, GrownX (fun i => i = m ∨ i = s + 2) Z W → CellsAt W s (ribAr most A L.length c) 27 ∧ CellsAt W (s + 1) (doAr z k label a fam) 43 ∧ CellsAt W g (ribAr most A' n2 c') 27) := fun W hW => ⟨(HR0.out.below HVZ.out HR0.out.lt).grownX hW (by omega), (HD0.out.below HVZ.out HD0.out.lt).grownX hW (by omega), HG.out.grownX hW (by omega)⟩
  have HKZ : Hid (∀ i, i < w2.heap.size → Z.heap[i]? = w2.heap[i]?) := fun i hi => HBZ.out.block i hi
  have HSV : Hid (s + 2 < V.heap.size) := HQ0.out.lt
  have HSZ2 : Hid (w2.heap.size ≤ Z.heap.size) := HBZ.out.size
  have HMB := Lib.hid HRZ.out.mapBlk
  have HPQ : Hid (PhL Z A c L) := HPH.out.below (HB.out.trans (HVZ.out.mono HB.out.size))
  have HQZ : Hid (CellsAt Z (s + 2) (ribAr 0 none 0 0) 27) := HQ0.out.below HVZ.out HQ0.out.lt
  clear hZ hg HBZ HN HG HR0 HD0 HQ0 HRV HB2
  refine wp_region_held_drew (S := fun w' => GrownX (fun i => i = m ∨ i = s + 2) Z w') (by kernel_rfl) ((GrownX.refl _ _).drew 1) (fun hHeld => ?_)
  refine wpAnyH_take (i := 0) (oi := { dst := some 145, op := Op.move (Operand.tmp 0), type := 23, pos := "law.go:61", after := #[], guard := none }) (v := ?_) rfl (by kernel_rfl) (by kernel_rfl) (by kernel_rfl) (fun _ _ _ h => h) (Or.inl ⟨by rfl, ?_⟩) hHeld ?_
  rotate_left
  · intro w hSw
    clear hSw
    go_simp
    try with_reducible rfl
  try simp only [Act.put, List.setIfInBounds_toArray, List.set_cons_zero, List.set_cons_succ]
  refine wpAnyH_take (i := 1) (oi := { dst := some 146, op := Op.load 27 (Operand.tmp 23), type := 27, pos := "law.go:61", after := #[{ on := 12, ground := Ground.gcOnly Departure.lateStores }], guard := none }) (v := Value.agg (ribAr most A' n2 c')) rfl (by kernel_rfl) (by kernel_rfl) (by kernel_rfl) (fun _ _ _ h => h) (yields_rib (by rfl) (.tmp 23) rfl g (by rfl) most A' n2 c' (fun w hSw => (HBX.out w hSw).2.2)) hHeld ?_
  try simp only [Act.put, List.setIfInBounds_toArray, List.set_cons_zero, List.set_cons_succ]
  refine wpAnyH_take (i := 2) (oi := { dst := some 147, op := Op.move (Operand.tmp 0), type := 23, pos := "law.go:61", after := #[], guard := none }) (v := ?_) rfl (by kernel_rfl) (by kernel_rfl) (by kernel_rfl) (fun _ _ _ h => h) (Or.inl ⟨by rfl, ?_⟩) hHeld ?_
  rotate_left
  · intro w hSw
    clear hSw
    go_simp
    try with_reducible rfl
  try simp only [Act.put, List.setIfInBounds_toArray, List.set_cons_zero, List.set_cons_succ]
  refine wpAnyH_take (i := 3) (oi := { dst := some 148, op := Op.fieldAddr 43 (Operand.tmp 5) 3, type := 0, pos := "law.go:61", after := #[], guard := none }) (v := ?_) rfl (by kernel_rfl) (by kernel_rfl) (by kernel_rfl) (fun _ _ _ h => h) (Or.inl ⟨by rfl, ?_⟩) hHeld ?_
  rotate_left
  · intro w hSw
    clear hSw
    go_simp
    try with_reducible rfl
  try simp only [Act.put, List.setIfInBounds_toArray, List.set_cons_zero, List.set_cons_succ]
  refine wpAnyH_take (i := 4) (oi := { dst := some 149, op := Op.load 3 (Operand.tmp 148), type := 3, pos := "law.go:61", after := #[{ on := 3, ground := Ground.data }], guard := none }) (v := ?_) rfl (by kernel_rfl) (by kernel_rfl) (by kernel_rfl) (fun _ _ _ h => h) (Or.inl ⟨by rfl, ?_⟩) hHeld ?_
  rotate_left
  · intro w hSw
    obtain ⟨_, ⟨_, _, _, _, _, _⟩, d23⟩ := do_cells (HBX.out w hSw).2.1
    go_simp
    try with_reducible rfl
  try simp only [Act.put, List.setIfInBounds_toArray, List.set_cons_zero, List.set_cons_succ]
  refine wpAnyH_take (i := 6) (oi := { dst := some 151, op := Op.load 27 (Operand.tmp 4), type := 27, pos := "law.go:61", after := #[], guard := none }) (v := Value.agg (ribAr most A L.length c)) rfl (by kernel_rfl) (by kernel_rfl) (by kernel_rfl) (fun _ _ _ h => h) (yields_rib (by rfl) (.tmp 4) rfl s (by rfl) most A L.length c (fun w hSw => (HBX.out w hSw).1)) hHeld ?_
  try simp only [Act.put, List.setIfInBounds_toArray, List.set_cons_zero, List.set_cons_succ]
  refine wpAnyH_take (i := 7) (oi := { dst := some 152, op := Op.fieldAddr 43 (Operand.tmp 5) 3, type := 0, pos := "law.go:61", after := #[], guard := none }) (v := ?_) rfl (by kernel_rfl) (by kernel_rfl) (by kernel_rfl) (fun _ _ _ h => h) (Or.inl ⟨by rfl, ?_⟩) hHeld ?_
  rotate_left
  · intro w hSw
    clear hSw
    go_simp
    try with_reducible rfl
  try simp only [Act.put, List.setIfInBounds_toArray, List.set_cons_zero, List.set_cons_succ]
  refine wpAnyH_take (i := 8) (oi := { dst := some 153, op := Op.load 3 (Operand.tmp 152), type := 3, pos := "law.go:61", after := #[{ on := 7, ground := Ground.data }], guard := none }) (v := ?_) rfl (by kernel_rfl) (by kernel_rfl) (by kernel_rfl) (fun _ _ _ h => h) (Or.inl ⟨by rfl, ?_⟩) hHeld ?_
  rotate_left
  · intro w hSw
    obtain ⟨_, ⟨_, _, _, _, _, _⟩, d23⟩ := do_cells (HBX.out w hSw).2.1
    go_simp
    try with_reducible rfl
  try simp only [Act.put, List.setIfInBounds_toArray, List.set_cons_zero, List.set_cons_succ]
  refine wpAnyH_ready (rs := [5]) (by kernel_rfl) (by simp) ?_
  refine AllReadyH.cons (o := { dst := some 150, op := Op.call { callee := Callee.value (Operand.func 22), args := #[Operand.tmp 147, Operand.tmp 149], argTypes := #[23, 3] }, type := 3, pos := "law.go:61", after := #[{ on := 2, ground := Ground.data }, { on := 4, ground := Ground.data }], guard := none }) rfl (fun K hK => ?_) AllReadyH.nil
  go_simp
  refine (rmarkM_any HRZ.out.drew_ fam).mono ?_
  rintro e w5 ⟨⟨rfl, hr5⟩, hg5⟩
  rw [HCN.out]
  have HR5 : Hid (RibM w5 base b m most (markC fam M)) := hr5
  have HG5 : Hid (GrownX (fun i => i = m) Z w5) := ((GrownX.refl _ _).drew 1).trans hg5
  have HX5 : Hid (GrownX (fun i => i = m ∨ i = s + 2) Z w5) := HG5.out.mono' (fun i hi => .inl hi)
  have HP5 : Hid (PhL w5 A c L) := HPQ.out.keepX HG5.out (fun i hi => by rw [hi]; exact HMB.out)
  refine hK.out _ _ (HX5.out) (fun hHeld => ?_)
  clear hK K
  try simp only [Act.put, List.setIfInBounds_toArray, List.set_cons_zero, List.set_cons_succ]
  refine wpAnyH_ready (rs := [9]) (by kernel_rfl) (by simp) ?_
  refine AllReadyH.cons (o := { dst := some 154, op := Op.call { callee := Callee.value (Operand.func 8), args := #[Operand.tmp 151, Operand.tmp 153], argTypes := #[27, 3] }, type := 25, pos := "law.go:61", after := #[{ on := 6, ground := Ground.data }, { on := 8, ground := Ground.data }, { on := 5, ground := Ground.chain }], guard := none }) rfl (fun K hK => ?_) AllReadyH.nil
  go_simp
  refine (all22_any HP5.out (by omega) most fam).mono ?_
  rintro e w6 ⟨⟨A6, c6, rfl, hp6⟩, hb6⟩
  have HR6 : Hid (RibM w6 base b m most (markC fam M)) := HR5.out.below hb6
  have HG6 : Hid (GrownX (fun i => i = m) Z w6) := HG5.out.trans (GrownX.of_below hb6)
  have HX6 : Hid (GrownX (fun i => i = m ∨ i = s + 2) Z w6) := HG6.out.mono' (fun i hi => .inl hi)
  have HQ6 : Hid (CellsAt w6 (s + 2) (ribAr 0 none 0 0) 27) := HQZ.out.grownX HG6.out (by omega)
  clear hp6
  refine hK.out _ _ (HX6.out) (fun hHeld => ?_)
  clear hK K
  try simp only [Act.put, List.setIfInBounds_toArray, List.set_cons_zero, List.set_cons_succ]
  refine wpAnyH_take (i := 10) (oi := { dst := some 155, op := Op.call { callee := Callee.builtin Builtin.len, args := #[Operand.tmp 154], argTypes := #[25] }, type := 3, pos := "law.go:61", after := #[{ on := 9, ground := Ground.data }], guard := none }) (v := ?_) rfl (by kernel_rfl) (by kernel_rfl) (by kernel_rfl) (fun _ _ _ h => h) (Or.inl ⟨by rfl, ?_⟩) hHeld ?_
  rotate_left
  · intro w hSw
    clear hSw
    go_simp
    try with_reducible rfl
  try simp only [Act.put, List.setIfInBounds_toArray, List.set_cons_zero, List.set_cons_succ]
  refine wpAnyH_take (i := 11) (oi := { dst := some 156, op := Op.binOp BinOp.eql 3 (Operand.tmp 150) (Operand.tmp 155) 3, type := 4, pos := "law.go:61", after := #[{ on := 5, ground := Ground.data }, { on := 10, ground := Ground.data }, { on := 13, ground := Ground.gcOnly Departure.lateStores }], guard := none }) (v := ?_) rfl (by kernel_rfl) (by kernel_rfl) (by kernel_rfl) (fun _ _ _ h => h) (Or.inl ⟨by rfl, ?_⟩) hHeld ?_
  rotate_left
  · intro w hSw
    clear hSw
    go_simp
    try with_reducible rfl
  try simp only [Act.put, List.setIfInBounds_toArray, List.set_cons_zero, List.set_cons_succ]
  refine wpAnyH_take (i := 12) (oi := { dst := some 6, op := Op.assign (Operand.tmp 145), type := 23, pos := "law.go:61", after := #[{ on := 0, ground := Ground.data }, { on := 9, ground := Ground.chain }, { on := 0, ground := Ground.phase }, { on := 1, ground := Ground.textOnly Departure.lateStores }, { on := 2, ground := Ground.textOnly Departure.lateStores }, { on := 3, ground := Ground.textOnly Departure.lateStores }, { on := 4, ground := Ground.textOnly Departure.lateStores }, { on := 5, ground := Ground.textOnly Departure.lateStoresUnsure }, { on := 6, ground := Ground.textOnly Departure.lateStores }, { on := 7, ground := Ground.textOnly Departure.lateStores }, { on := 8, ground := Ground.textOnly Departure.lateStores }, { on := 9, ground := Ground.textOnly Departure.lateStoresUnsure }, { on := 10, ground := Ground.textOnly Departure.lateStoresUnsure }, { on := 11, ground := Ground.textOnly Departure.lateStores }], guard := none }) (v := ?_) rfl (by kernel_rfl) (by kernel_rfl) (by kernel_rfl) (fun _ _ _ h => h) (Or.inl ⟨by rfl, ?_⟩) hHeld ?_
  rotate_left
  · intro w hSw
    clear hSw
    go_simp
    try with_reducible rfl
  try simp only [Act.put, List.setIfInBounds_toArray, List.set_cons_zero, List.set_cons_succ]
  refine wpAnyH_ready (rs := [13]) (by kernel_rfl) (by simp) ?_
  refine AllReadyH.cons (o := { dst := none, op := Op.store 27 (Operand.tmp 7) (Operand.tmp 146), type := 0, pos := "law.go:61", after := #[{ on := 1, ground := Ground.data }, { on := 12, ground := Ground.chain }, { on := 0, ground := Ground.phase }, { on := 1, ground := Ground.phase }, { on := 2, ground := Ground.textOnly Departure.lateStores }, { on := 3, ground := Ground.textOnly Departure.lateStores }, { on := 4, ground := Ground.textOnly Departure.lateStores }, { on := 5, ground := Ground.textOnly Departure.lateStoresUnsure }, { on := 6, ground := Ground.textOnly Departure.lateStores }, { on := 7, ground := Ground.textOnly Departure.lateStores }, { on := 8, ground := Ground.textOnly Departure.lateStores }, { on := 9, ground := Ground.textOnly Departure.lateStoresUnsure }, { on := 10, ground := Ground.textOnly Departure.lateStoresUnsure }, { on := 11, ground := Ground.textOnly Departure.lateStores }, { on := 12, ground := Ground.phase }], guard := none }) rfl (fun K hK => ?_) AllReadyH.nil
  refine wp_store_row 27 (.tmp 7) (.tmp 146) rfl (s + 2) (ribAr most A' n2 c') rfl rfl 27 _ HQ6.out (by rw [rib_size]; rfl) rfl (rib_ones _ _ _ _) ?_
  refine hK.out _ _ (hHeld.trans (GrownX.of_row (X := fun i => i = m ∨ i = s + 2) (grown_setRow' _ _ _) (.inr rfl))) (fun hHeld => ?_)
  clear hK K
  try simp only [Act.put, List.setIfInBounds_toArray, List.set_cons_zero, List.set_cons_succ]
  refine wpAnyH_take (i := 14) (oi := { dst := some 8, op := Op.assign (Operand.tmp 156), type := 4, pos := "law.go:61", after := #[{ on := 11, ground := Ground.data }, { on := 13, ground := Ground.chain }, { on := 0, ground := Ground.phase }, { on := 1, ground := Ground.phase }, { on := 2, ground := Ground.phase }, { on := 3, ground := Ground.phase }, { on := 4, ground := Ground.phase }, { on := 5, ground := Ground.phase }, { on := 6, ground := Ground.phase }, { on := 7, ground := Ground.phase }, { on := 8, ground := Ground.phase }, { on := 9, ground := Ground.phase }, { on := 10, ground := Ground.phase }, { on := 11, ground := Ground.phase }, { on := 12, ground := Ground.phase }, { on := 13, ground := Ground.phase }], guard := none }) (v := ?_) rfl (by kernel_rfl) (by kernel_rfl) (by kernel_rfl) (fun _ _ _ h => h) (Or.inl ⟨by rfl, ?_⟩) hHeld ?_
  rotate_left
  · intro w hSw
    clear hSw
    go_simp
    try with_reducible rfl
  try simp only [Act.put, List.setIfInBounds_toArray, List.set_cons_zero, List.set_cons_succ]
  refine wpAnyH_done (by kernel_rfl) ?_ _
  have HF : Hid (CellsAt (w6.setRow (s + 2) (ribAr most A' n2 c')) (s + 2) (ribAr most A' n2 c') 27) := HQ6.out.setRow' _
  have hgr := grown_setRow' w6 (s + 2) (ribAr most A' n2 c')
  have HRF : Hid (RibM (w6.setRow (s + 2) (ribAr most A' n2 c')) base b m most (markC fam M)) := HR6.out.offT hgr HQ6.out (by omega) (by omega)
  have HGF : Hid (GrownX (fun i => i = m) w (w6.setRow (s + 2) (ribAr most A' n2 c'))) := ((GrownX.of_below (HB.out.trans (HVZ.out.mono HB.out.size))).trans HG6.out).new_ (GrownX.of_row (X := fun i => i = s + 2) hgr rfl) (fun i hi => by rw [hi, HS.out]; omega)
  have HZ2 : Hid (w2.heap.size ≤ Z.heap.size) := HSZ2.out
  have HPNF : Hid (PhL (w6.setRow (s + 2) (ribAr most A' n2 c')) A' c' L2) ∧ Hid (NewL w (w6.setRow (s + 2) (ribAr most A' n2 c')) A c L A' c' L2) := ph_mono HP2.out (HPH.out.keepX HGF.out (fun i hi => by rw [hi]; exact HRIB.out.mapBlk)) HB.out.size (fun i h1 h2 => by
    have h3 := HSV.out
    have h4 := HZ2.out
    rw [hgr.block i (Nat.lt_of_lt_of_le (Nat.lt_of_lt_of_le h2 h4) HG6.out.size) (fun e => by injection e with e; omega), HG6.out.block i (Nat.lt_of_lt_of_le h2 h4) (by omega), HKZ.out i h2])
  obtain ⟨HPF, HNF⟩ := HPNF
  clear hHeld
  go_wp2_with fail
  exact bodyPost_ret (results_step rfl _ _ (s + 2) most A' n2 c' (.pointer (some ⟨b, 0, none⟩)) (.bool true) rfl rfl rfl HF.out) rfl ⟨b, m, _, A', c', L2, by rw [HN2.out], ⟨⟨base, HRF.out⟩, HPF.out, HMM.out⟩, HLM.out, .inl rfl, HGF.out, HNF.out⟩
end Go.Proofs.YtldpcliahfiloaaGreat
