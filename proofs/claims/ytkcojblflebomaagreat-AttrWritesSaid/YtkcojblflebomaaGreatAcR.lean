/-
  AttrWrites walked. Conditions: sizes.
-/
import Derived.Test.YtkcojblflebomaaGreatAcQ
import Derived.Test.YtkcojblflebomaaGreatAcP
import Derived.Test.YtkcojblflebomaaGreatAaP
import Derived.Test.YtkcojblflebomaaGreatAaO
import Derived.Test.YtkcojblflebomaaGreatAcA
set_option linter.unusedVariables false
set_option linter.unusedSimpArgs false
namespace Go.Proofs.YtkcojblflebomaaGreat
open Go.RowKit Go.MapKept Go.Shelf
open Go.Lib hiding intOf

set_option maxRecDepth 100000 in
set_option maxHeartbeats 16000000 in
theorem writes_walk (a : Atr) (four : Bool) (w : World) (ha : AtrOk w a) (hz : AtrSz a.c) :
    Calls Tryz.prog 12 #[.agg a.ar, .bool four] w fun e w' => e = .returned (.bool true) ∧ Below w.heap.size w w' := by
  have HOW : Hid (∀ W, AtrOk W a → Calls Tryz.prog 24 #[.agg a.ar] W fun e w' => (∃ a' : Atr, e = .returned (.agg a'.ar) ∧ AtrOk w' a' ∧ a'.c = a.c) ∧ Below W.heap.size W w') := fun W h1 => (rown_any a W h1 hz).mono fun e w' ⟨⟨a', he, ho, hc⟩, hb⟩ => ⟨⟨a', he, ho.ok, hc⟩, hb⟩
  obtain ⟨L, hL⟩ : ∃ L, L = wrL a.c four := ⟨_, rfl⟩
  obtain ⟨n, hn⟩ : ∃ n, n = L.length := ⟨_, rfl⟩
  obtain ⟨er, her⟩ : ∃ e, e = wrE a.c := ⟨_, rfl⟩
  obtain ⟨ck, hck⟩ : ∃ e, e = okN (atOk a.c) := ⟨_, rfl⟩
  have HWR : Hid (∀ (W : World) (a' : Atr), AtrOk W a' → a'.c = a.c → Calls Tryz.prog 25 #[.agg a'.ar, .bool four] W fun e w' => (∃ A c, e = .returned (.tuple #[.slice A n c, .int .i64 er]) ∧ RwsOk w' A c L) ∧ Below W.heap.size W w') := fun W a' h1 hc => by
    have h := write_any a' four W h1
    rwa [hc, ← hL, ← her, ← hn] at h
  have HRW : Hid (∀ W, AtrOk W a → Calls Tryz.prog 28 #[.agg a.ar, .bool four] W fun e w' => (∃ A c, e = .returned (.tuple #[.slice A n c, .int .i64 er]) ∧ RwsOk w' A c L) ∧ Below W.heap.size W w') := fun W h1 => by
    have h := rwrite_any a four W h1
    rwa [← hL, ← her, ← hn] at h
  have HSR : Hid (∀ A B c d W, RwsOk W A c L → RwsOk W B d L → Calls Tryz.prog 15 #[.slice A n c, .slice B n d] W fun e w' => e = .returned (.bool true) ∧ Below W.heap.size W w') := fun A B c d W h1 h2 => by
    have h3 := rsraws_any A B c d _ _ W h1 h2
    rwa [decide_eq_true rfl, ← hn] at h3
  have HCK : Hid (∀ (W : World) (a' : Atr), AtrOk W a' → a'.c = a.c → Calls Tryz.prog 26 #[.agg a'.ar] W fun e w' => e = .returned (.int .i64 ck) ∧ Below W.heap.size W w') := fun W a' h1 hc => by
    have h := check_any a' W h1
    rwa [hc, ← hck] at h
  have HRC : Hid (∀ W, AtrOk W a → Calls Tryz.prog 29 #[.agg a.ar] W fun e w' => e = .returned (.int .i64 ck) ∧ Below W.heap.size W w') := fun W h1 => by
    have h := rcheck_any a W h1
    rwa [← hck] at h
  have HCP : Hid (∀ (W : World) (a' : Atr), AtrOk W a' → a'.c = a.c → Calls Tryz.prog 30 #[.agg a'.ar] W fun e w' => (∃ c : Atr, e = .returned (.agg c.ar) ∧ AtO w' W.heap.size c ∧ c.c = a.c) ∧ Below W.heap.size W w') := fun W a' h1 hc => (copy_any a' W h1 (by rw [hc]; exact hz)).mono fun e w' ⟨⟨c, he, ho, hcc⟩, hb⟩ => ⟨⟨c, he, ho, hcc.trans hc⟩, hb⟩
  have HRS : Hid (∀ (W : World) (x y : Atr), AtrOk W x → AtrOk W y → x.c = a.c → y.c = a.c → Calls Tryz.prog 21 #[.agg x.ar, .agg y.ar] W fun e w' => e = .returned (.bool true) ∧ Below W.heap.size W w') := fun W x y h1 h2 e1 e2 => by
    have h := rsame_any x y W h1 h2
    rwa [decide_eq_true (e1.trans e2.symm)] at h
  have HSP := Lib.hid spoil_any
  have HWK := Lib.hid works_any
  have HA := Lib.hid ha
  have z1 : (er == er) = true := beq_iff_eq.2 rfl
  have z2 : (er != er) = false := by rw [bne, z1]; rfl
  have z3 : (ck == ck) = true := beq_iff_eq.2 rfl
  have z4 : (ck != ck) = false := by rw [bne, z3]; rfl
  clear hL hn her hck ha hz
  obtain ⟨V, hV⟩ : ∃ V, V = w.alloc (.cells a.ar 40) := ⟨_, rfl⟩
  have HC : Hid (CellsAt V w.heap.size a.ar 40) := by rw [hV]; exact CellsAt.new _ _ _
  have HB : Hid (Below w.heap.size w V) := by rw [hV]; exact (Below.refl _ _).alloc (Nat.le_refl _) _
  go_enter Tryz.func12, Tryz.ntmps12
  go_upto_region 1 with fail
  rw [← hV]
  clear hV
  go_wp2_with (with_reducible show wpList _ _ _ (_ :: _) _ _; refine wpList_load_attrs rfl (.tmp 2) rfl w.heap.size rfl a HC.out ?_)
  refine (HOW.out _ (HA.out.below HB.out (Nat.le_refl _))).mono ?_
  rintro e w1 ⟨⟨a1, rfl, ho1, hc1⟩, hb1⟩
  have HE1 := Lib.hid hc1
  have HB1 : Hid (Below w.heap.size w w1) := HB.out.trans (hb1.mono HB.out.size)
  have HC1 : Hid (CellsAt w1 w.heap.size a.ar 40) := HC.out.below hb1 HC.out.lt
  have HN1 := Lib.hid ho1
  clear hc1 hb1 ho1 HC HB
  have HZ : Hid (∀ cs : Array Value, CellsAt (w1.alloc (.cells cs 40)) w1.heap.size cs 40) := fun cs => CellsAt.new _ _ _
  have HQ5 : Hid (∀ cs : Array Value, CellsAt ((w1.alloc (.cells cs 40)).setRow w1.heap.size a1.ar) w1.heap.size a1.ar 40) := fun cs => (HZ.out cs).setRow' _
  have hlt1 := HC1.out.lt
  have HQB : Hid (∀ cs : Array Value, Below w1.heap.size w1 ((w1.alloc (.cells cs 40)).setRow w1.heap.size a1.ar)) := fun cs => ((Below.refl _ _).alloc (Nat.le_refl _) _).grown (grown_row _ _ _) (by simp) (fun q hq => by cases hq; exact Nat.le_refl _)
  go_upto_region 2 with (with_reducible show wpList _ _ _ (_ :: _) _ _; refine wpList_store_attrs rfl (.tmp 5) (.tmp 12) rfl w1.heap.size rfl a1 rfl noAtr (HZ.out _) ?_)
  obtain ⟨S, hS⟩ : ∃ S, S = (w1.alloc (.cells noAtr.ar 40)).setRow w1.heap.size a1.ar := ⟨_, rfl⟩
  have HCa : Hid (CellsAt S w.heap.size a.ar 40) := by rw [hS]; exact HC1.out.below (HQB.out _) HC1.out.lt
  have HCi : Hid (CellsAt S w1.heap.size a1.ar 40) := by rw [hS]; exact HQ5.out _
  have HBs : Hid (Below w.heap.size w S) := by rw [hS]; exact HB1.out.trans ((HQB.out _).mono HB1.out.size)
  have HNi : Hid (AtrOk S a1) := by rw [hS]; exact HN1.out.below (HQB.out _) (Nat.le_refl _)
  change Code.wp _ _ _ _ ((w1.alloc (.cells noAtr.ar 40)).setRow w1.heap.size a1.ar)
  rw [← hS]
  generalize hg5 : w1.heap.size = g5 at HCi ⊢
  clear hS hg5 HZ HQ5 HQB HC1 HN1 HB1 hlt1
  go_wp2_with (with_reducible show wpList _ _ _ (_ :: _) _ _; refine wpList_load_attrs rfl (.tmp 5) rfl g5 rfl a1 HCi.out ?_)
  refine (HWR.out _ a1 HNi.out HE1.out).mono ?_
  rintro e w2 ⟨⟨A2, d2, rfl, hr2⟩, hb2⟩
  have HR2 := Lib.hid hr2
  have HCa2 : Hid (CellsAt w2 w.heap.size a.ar 40) := HCa.out.below hb2 HCa.out.lt
  have HCi2 : Hid (CellsAt w2 g5 a1.ar 40) := HCi.out.below hb2 HCi.out.lt
  have HNi2 : Hid (AtrOk w2 a1) := HNi.out.below hb2 (Nat.le_refl _)
  have HB2 : Hid (Below w.heap.size w w2) := HBs.out.trans (hb2.mono HBs.out.size)
  clear hr2 hb2 HCa HCi HNi HBs
  go_wp2_with (with_reducible show wpList _ _ _ (_ :: _) _ _; refine wpList_load_attrs rfl (.tmp 2) rfl w.heap.size rfl a HCa2.out ?_)
  refine (HRW.out _ (HA.out.below HB2.out (Nat.le_refl _))).mono ?_
  rintro e w3 ⟨⟨A3, d3, rfl, hr3⟩, hb3⟩
  have HR3 := Lib.hid hr3
  have HR2b : Hid (RwsOk w3 A2 d2 L) := HR2.out.below hb3 (Nat.le_refl _)
  have HCa3 : Hid (CellsAt w3 w.heap.size a.ar 40) := HCa2.out.below hb3 HCa2.out.lt
  have HCi3 : Hid (CellsAt w3 g5 a1.ar 40) := HCi2.out.below hb3 HCi2.out.lt
  have HNi3 : Hid (AtrOk w3 a1) := HNi2.out.below hb3 (Nat.le_refl _)
  have HB3 : Hid (Below w.heap.size w w3) := HB2.out.trans (hb3.mono HB2.out.size)
  clear hr3 hb3 HCa2 HCi2 HNi2 HB2 HR2
  go_upto_region 4 with fail
  refine wp_region_held_drew (S := fun w' => CellsAt w' w.heap.size a.ar 40 ∧ CellsAt w' g5 a1.ar 40 ∧ AtrOk w' a1 ∧ Below w.heap.size w w') (by kernel_rfl) (⟨HCa3.out.drew 1, HCi3.out.drew 1, HNi3.out.below (below_drewN (Below.refl _ _) 1) (Nat.le_refl _), below_drewN HB3.out 1⟩) (fun hHeld => ?_)
  refine wpAnyH_take (i := 0) (oi := { dst := some 25, op := Op.move (Operand.tmp 6), type := 22, pos := "law.go:38", after := #[], guard := none }) (v := ?_) rfl (by kernel_rfl) (by kernel_rfl) (by kernel_rfl) (fun _ _ _ h => h) (Or.inl ⟨by rfl, ?_⟩) hHeld ?_
  rotate_left
  · intro w hSw
    clear hSw
    go_simp
    try with_reducible rfl
  try simp only [Act.put, List.setIfInBounds_toArray, List.set_cons_zero, List.set_cons_succ]
  refine wpAnyH_take (i := 1) (oi := { dst := some 26, op := Op.move (Operand.tmp 8), type := 22, pos := "law.go:38", after := #[], guard := none }) (v := ?_) rfl (by kernel_rfl) (by kernel_rfl) (by kernel_rfl) (fun _ _ _ h => h) (Or.inl ⟨by rfl, ?_⟩) hHeld ?_
  rotate_left
  · intro w hSw
    clear hSw
    go_simp
    try with_reducible rfl
  try simp only [Act.put, List.setIfInBounds_toArray, List.set_cons_zero, List.set_cons_succ]
  refine wpAnyH_ready (rs := [2]) (by kernel_rfl) (by simp) ?_
  refine AllReadyH.cons (o := { dst := some 27, op := Op.call { callee := Callee.value (Operand.func 15), args := #[Operand.tmp 25, Operand.tmp 26], argTypes := #[22, 22] }, type := 4, pos := "law.go:38", after := #[{ on := 0, ground := Ground.data }, { on := 1, ground := Ground.data }], guard := none }) rfl (fun K hK => ?_) AllReadyH.nil
  go_simp
  refine (HSR.out A2 A3 d2 d3 _ (HR2b.out.below (below_drewN (Below.refl _ _) 1) (Nat.le_refl _)) (HR3.out.below (below_drewN (Below.refl _ _) 1) (Nat.le_refl _))).mono ?_
  rintro e y1 ⟨rfl, hb1⟩
  have HX1 := Lib.hid hHeld
  refine hK.out _ _ (⟨HX1.out.1.below hb1 HX1.out.1.lt, HX1.out.2.1.below hb1 HX1.out.2.1.lt, HX1.out.2.2.1.below hb1 (Nat.le_refl _), HX1.out.2.2.2.trans (hb1.mono HX1.out.2.2.2.size)⟩) (fun hHeld => ?_)
  clear hK K
  try simp only [Act.put, List.setIfInBounds_toArray, List.set_cons_zero, List.set_cons_succ]
  refine wpAnyH_take (i := 3) (oi := { dst := some 28, op := Op.unOp UnOp.not 4 (Operand.tmp 27), type := 4, pos := "law.go:38", after := #[{ on := 2, ground := Ground.data }], guard := none }) (v := ?_) rfl (by kernel_rfl) (by kernel_rfl) (by kernel_rfl) (fun _ _ _ h => h) (Or.inl ⟨by rfl, ?_⟩) hHeld ?_
  rotate_left
  · intro w hSw
    clear hSw
    go_simp
    try with_reducible rfl
  try simp only [Act.put, List.setIfInBounds_toArray, List.set_cons_zero, List.set_cons_succ]
  refine wpAnyH_take (i := 4) (oi := { dst := some 29, op := Op.move (Operand.tmp 28), type := 4, pos := "law.go:38", after := #[{ on := 3, ground := Ground.data }, { on := 2, ground := Ground.chain }], guard := none }) (v := ?_) rfl (by kernel_rfl) (by kernel_rfl) (by kernel_rfl) (fun _ _ _ h => h) (Or.inl ⟨by rfl, ?_⟩) hHeld ?_
  rotate_left
  · intro w hSw
    clear hSw
    go_simp
    try with_reducible rfl
  try simp only [Act.put, List.setIfInBounds_toArray, List.set_cons_zero, List.set_cons_succ]
  refine wpAnyH_take (i := 5) (oi := { dst := some 30, op := Op.move (Operand.tmp 7), type := 23, pos := "law.go:38", after := #[{ on := 4, ground := Ground.guard }], guard := some (4, false) }) (v := ?_) rfl (by kernel_rfl) (by kernel_rfl) (by kernel_rfl) (fun _ _ _ h => h) (Or.inl ⟨by rfl, ?_⟩) hHeld ?_
  rotate_left
  · intro w hSw
    clear hSw
    go_simp
    try with_reducible rfl
  try simp only [Act.put, List.setIfInBounds_toArray, List.set_cons_zero, List.set_cons_succ]
  refine wpAnyH_take (i := 6) (oi := { dst := some 31, op := Op.move (Operand.tmp 9), type := 23, pos := "law.go:38", after := #[{ on := 4, ground := Ground.guard }], guard := some (4, false) }) (v := ?_) rfl (by kernel_rfl) (by kernel_rfl) (by kernel_rfl) (fun _ _ _ h => h) (Or.inl ⟨by rfl, ?_⟩) hHeld ?_
  rotate_left
  · intro w hSw
    clear hSw
    go_simp
    try with_reducible rfl
  try simp only [Act.put, List.setIfInBounds_toArray, List.set_cons_zero, List.set_cons_succ]
  refine wpAnyH_take (i := 7) (oi := { dst := some 32, op := Op.binOp BinOp.neq 23 (Operand.tmp 30) (Operand.tmp 31) 23, type := 4, pos := "law.go:38", after := #[{ on := 5, ground := Ground.data }, { on := 6, ground := Ground.data }, { on := 4, ground := Ground.guard }], guard := some (4, false) }) (v := ?_) rfl (by kernel_rfl) (by kernel_rfl) (by kernel_rfl) (fun _ _ _ h => h) (Or.inl ⟨by rfl, ?_⟩) hHeld ?_
  rotate_left
  · intro w hSw
    clear hSw
    go_simp
    try with_reducible rfl
  try simp only [Act.put, List.setIfInBounds_toArray, List.set_cons_zero, List.set_cons_succ]
  refine wpAnyH_take (i := 8) (oi := { dst := some 33, op := Op.pick (Operand.tmp 29) (Operand.const (Value.bool true)) (Operand.tmp 32), type := 4, pos := "law.go:38", after := #[{ on := 4, ground := Ground.data }, { on := 7, ground := Ground.data }], guard := none }) (v := ?_) rfl (by kernel_rfl) (by kernel_rfl) (by kernel_rfl) (fun _ _ _ h => h) (Or.inl ⟨by rfl, ?_⟩) hHeld ?_
  rotate_left
  · intro w hSw
    clear hSw
    go_simp
    try with_reducible rfl
  try simp only [Act.put, List.setIfInBounds_toArray, List.set_cons_zero, List.set_cons_succ]
  refine wpAnyH_take (i := 9) (oi := { dst := some 34, op := Op.move (Operand.tmp 33), type := 4, pos := "law.go:38", after := #[{ on := 8, ground := Ground.data }, { on := 4, ground := Ground.chain }], guard := none }) (v := ?_) rfl (by kernel_rfl) (by kernel_rfl) (by kernel_rfl) (fun _ _ _ h => h) (Or.inl ⟨by rfl, ?_⟩) hHeld ?_
  rotate_left
  · intro w hSw
    clear hSw
    go_simp
    try with_reducible rfl
  try simp only [Act.put, List.setIfInBounds_toArray, List.set_cons_zero, List.set_cons_succ]
  refine wpAnyH_take (i := 10) (oi := { dst := some 35, op := Op.load 40 (Operand.tmp 5), type := 40, pos := "law.go:38", after := #[{ on := 9, ground := Ground.guard }], guard := some (9, false) }) (v := .agg a1.ar) rfl (by kernel_rfl) (by kernel_rfl) (by kernel_rfl) (fun _ _ _ h => h) (yields_attrs (by rfl) _ rfl g5 (by rfl) a1 (fun w h => h.2.1)) hHeld ?_
  try simp only [Act.put, List.setIfInBounds_toArray, List.set_cons_zero, List.set_cons_succ]
  refine wpAnyH_take (i := 12) (oi := { dst := some 37, op := Op.load 40 (Operand.tmp 2), type := 40, pos := "law.go:38", after := #[{ on := 9, ground := Ground.guard }], guard := some (9, false) }) (v := .agg a.ar) rfl (by kernel_rfl) (by kernel_rfl) (by kernel_rfl) (fun _ _ _ h => h) (yields_attrs (by rfl) _ rfl w.heap.size (by rfl) a (fun w h => h.1)) hHeld ?_
  try simp only [Act.put, List.setIfInBounds_toArray, List.set_cons_zero, List.set_cons_succ]
  refine wpAnyH_ready (rs := [11]) (by kernel_rfl) (by simp) ?_
  refine AllReadyH.cons (o := { dst := some 36, op := Op.call { callee := Callee.value (Operand.func 26), args := #[Operand.tmp 35], argTypes := #[40] }, type := 23, pos := "law.go:38", after := #[{ on := 10, ground := Ground.data }, { on := 9, ground := Ground.chain }, { on := 9, ground := Ground.guard }], guard := some (9, false) }) rfl (fun K hK => ?_) AllReadyH.nil
  go_simp
  refine (HCK.out _ a1 hHeld.2.2.1 HE1.out).mono ?_
  rintro e y2 ⟨rfl, hb2⟩
  have HX2 := Lib.hid hHeld
  refine hK.out _ _ (⟨HX2.out.1.below hb2 HX2.out.1.lt, HX2.out.2.1.below hb2 HX2.out.2.1.lt, HX2.out.2.2.1.below hb2 (Nat.le_refl _), HX2.out.2.2.2.trans (hb2.mono HX2.out.2.2.2.size)⟩) (fun hHeld => ?_)
  clear hK K
  try simp only [Act.put, List.setIfInBounds_toArray, List.set_cons_zero, List.set_cons_succ]
  refine wpAnyH_ready (rs := [13]) (by kernel_rfl) (by simp) ?_
  refine AllReadyH.cons (o := { dst := some 38, op := Op.call { callee := Callee.value (Operand.func 29), args := #[Operand.tmp 37], argTypes := #[40] }, type := 23, pos := "law.go:38", after := #[{ on := 12, ground := Ground.data }, { on := 11, ground := Ground.chain }, { on := 9, ground := Ground.guard }], guard := some (9, false) }) rfl (fun K hK => ?_) AllReadyH.nil
  go_simp
  refine (HRC.out _ (HA.out.below hHeld.2.2.2 (Nat.le_refl _))).mono ?_
  rintro e y3 ⟨rfl, hb3⟩
  have HX3 := Lib.hid hHeld
  refine hK.out _ _ (⟨HX3.out.1.below hb3 HX3.out.1.lt, HX3.out.2.1.below hb3 HX3.out.2.1.lt, HX3.out.2.2.1.below hb3 (Nat.le_refl _), HX3.out.2.2.2.trans (hb3.mono HX3.out.2.2.2.size)⟩) (fun hHeld => ?_)
  clear hK K
  try simp only [Act.put, List.setIfInBounds_toArray, List.set_cons_zero, List.set_cons_succ]
  refine wpAnyH_take (i := 14) (oi := { dst := some 39, op := Op.binOp BinOp.neq 23 (Operand.tmp 36) (Operand.tmp 38) 23, type := 4, pos := "law.go:38", after := #[{ on := 11, ground := Ground.data }, { on := 13, ground := Ground.data }, { on := 9, ground := Ground.guard }], guard := some (9, false) }) (v := ?_) rfl (by kernel_rfl) (by kernel_rfl) (by kernel_rfl) (fun _ _ _ h => h) (Or.inl ⟨by rfl, ?_⟩) hHeld ?_
  rotate_left
  · intro w hSw
    clear hSw
    go_simp
    try with_reducible rfl
  try simp only [Act.put, List.setIfInBounds_toArray, List.set_cons_zero, List.set_cons_succ]
  refine wpAnyH_take (i := 15) (oi := { dst := some 40, op := Op.pick (Operand.tmp 34) (Operand.const (Value.bool true)) (Operand.tmp 39), type := 4, pos := "law.go:38", after := #[{ on := 9, ground := Ground.data }, { on := 14, ground := Ground.data }], guard := none }) (v := ?_) rfl (by kernel_rfl) (by kernel_rfl) (by kernel_rfl) (fun _ _ _ h => h) (Or.inl ⟨by rfl, ?_⟩) hHeld ?_
  rotate_left
  · intro w hSw
    clear hSw
    go_simp
    try with_reducible rfl
  try simp only [Act.put, List.setIfInBounds_toArray, List.set_cons_zero, List.set_cons_succ]
  refine wpAnyH_done (by kernel_rfl) ?_ _
  have HE := Lib.hid hHeld
  clear hHeld HCa3 HCi3 HNi3 HB3 HR2b HR3
  obtain ⟨hx1, hx2, hx3, hx4⟩ := HE.out
  have HCa4 := Lib.hid hx1
  have HCi4 := Lib.hid hx2
  have HNi4 := Lib.hid hx3
  have HB4 := Lib.hid hx4
  clear hx1 hx2 hx3 hx4 HE
  go_wp2_with (with_reducible show wpList _ _ _ (_ :: _) _ _; refine wpList_load_attrs rfl (.tmp 5) rfl g5 rfl a1 HCi4.out ?_)
  refine (HCP.out _ a1 HNi4.out HE1.out).mono ?_
  rintro e w6 ⟨⟨c, rfl, hoc, hcc⟩, hb6⟩
  have HEC := Lib.hid hcc
  have HOC := Lib.hid hoc
  have HCa6 : Hid (CellsAt w6 w.heap.size a.ar 40) := HCa4.out.below hb6 HCa4.out.lt
  have HCi6 : Hid (CellsAt w6 g5 a1.ar 40) := HCi4.out.below hb6 HCi4.out.lt
  have HB46 := Lib.hid hb6
  have HS4 := Lib.hid HB4.out.size
  clear hcc hoc hb6
  skip
  have HZ : Hid (∀ cs : Array Value, CellsAt (w6.alloc (.cells cs 40)) w6.heap.size cs 40) := fun cs => CellsAt.new _ _ _
  have HQ5 : Hid (∀ cs : Array Value, CellsAt ((w6.alloc (.cells cs 40)).setRow w6.heap.size c.ar) w6.heap.size c.ar 40) := fun cs => (HZ.out cs).setRow' _
  have HQB : Hid (∀ cs : Array Value, Below w6.heap.size w6 ((w6.alloc (.cells cs 40)).setRow w6.heap.size c.ar)) := fun cs => ((Below.refl _ _).alloc (Nat.le_refl _) _).grown (grown_row _ _ _) (by simp) (fun q hq => by cases hq; exact Nat.le_refl _)
  go_upto_region 7 with (with_reducible show wpList _ _ _ (_ :: _) _ _; refine wpList_store_attrs rfl (.tmp 10) (.tmp 42) rfl w6.heap.size rfl c rfl noAtr (HZ.out _) ?_)
  obtain ⟨S, hS⟩ : ∃ S, S = (w6.alloc (.cells noAtr.ar 40)).setRow w6.heap.size c.ar := ⟨_, rfl⟩
  have HCa7 : Hid (CellsAt S w.heap.size a.ar 40) := by rw [hS]; exact HCa6.out.below (HQB.out _) HCa6.out.lt
  have HCi7 : Hid (CellsAt S g5 a1.ar 40) := by rw [hS]; exact HCi6.out.below (HQB.out _) HCi6.out.lt
  have HCc7 : Hid (CellsAt S w6.heap.size c.ar 40) := by rw [hS]; exact HQ5.out _
  have HB47 : Hid (Below y3.heap.size y3 S) := by rw [hS]; exact HB46.out.trans ((HQB.out _).mono HB46.out.size)
  have HOC7 : Hid (AtO S y3.heap.size c) := by rw [hS]; exact HOC.out.below (HQB.out _)
  change Code.wp _ _ _ _ ((w6.alloc (.cells noAtr.ar 40)).setRow w6.heap.size c.ar)
  rw [← hS]
  generalize hg6 : w6.heap.size = g6 at HCc7 ⊢
  clear hS hg6 HZ HQ5 HQB HCa6 HCi6 HOC HB46
  go_wp2_with (with_reducible show wpList _ _ _ (_ :: _) _ _; first | refine wpList_load_attrs rfl (.tmp 10) rfl g6 rfl c HCc7.out ?_ | refine wpList_load_attrs rfl (.tmp 2) rfl w.heap.size rfl a HCa7.out ?_)
  have HB7 : Hid (Below w.heap.size w S) := HB4.out.trans (HB47.out.mono HB4.out.size)
  refine (HRS.out _ c a HOC7.out.ok (HA.out.below HB7.out (Nat.le_refl _)) HEC.out rfl).mono ?_
  rintro e w8 ⟨rfl, hb8⟩
  have HCa8 : Hid (CellsAt w8 w.heap.size a.ar 40) := HCa7.out.below hb8 HCa7.out.lt
  have HCi8 : Hid (CellsAt w8 g5 a1.ar 40) := HCi7.out.below hb8 HCi7.out.lt
  have HCc8 : Hid (CellsAt w8 g6 c.ar 40) := HCc7.out.below hb8 HCc7.out.lt
  have HB48 : Hid (Below y3.heap.size y3 w8) := HB47.out.trans (hb8.mono HB47.out.size)
  have HOC8 : Hid (AtO w8 y3.heap.size c) := HOC7.out.below hb8
  clear hb8 HCa7 HCi7 HCc7 HB47 HOC7 HB7
  go_wp2_with (with_reducible show wpList _ _ _ (_ :: _) _ _; refine wpList_load_attrs rfl (.tmp 10) rfl g6 rfl c HCc8.out ?_)
  refine (HSP.out c y3.heap.size _ HOC8.out HB48.out.size).mono ?_
  rintro e w9 ⟨rfl, hb9⟩
  have HB49 : Hid (Below y3.heap.size y3 w9) := HB48.out.trans hb9
  have HCa9 : Hid (CellsAt w9 w.heap.size a.ar 40) := HCa4.out.below HB49.out HCa4.out.lt
  have HCi9 : Hid (CellsAt w9 g5 a1.ar 40) := HCi4.out.below HB49.out HCi4.out.lt
  have HNi9 : Hid (AtrOk w9 a1) := HNi4.out.below HB49.out (Nat.le_refl _)
  have HB9 : Hid (Below w.heap.size w w9) := HB4.out.trans (HB49.out.mono HB4.out.size)
  clear hb9 HCa8 HCi8 HCc8 HB48 HOC8
  go_wp2_with (with_reducible show wpList _ _ _ (_ :: _) _ _; first | refine wpList_load_attrs rfl (.tmp 5) rfl g5 rfl a1 HCi9.out ?_ | refine wpList_load_attrs rfl (.tmp 2) rfl w.heap.size rfl a HCa9.out ?_)
  refine (HRS.out _ a1 a HNi9.out (HA.out.below HB9.out (Nat.le_refl _)) HE1.out rfl).mono ?_
  rintro e w10 ⟨rfl, hb10⟩
  have HB10 : Hid (Below w.heap.size w w10) := HB9.out.trans (hb10.mono HB9.out.size)
  clear hb10
  go_wp2_with fail
  refine (HWK.out _).mono ?_
  rintro e w11 ⟨rfl, hb11⟩
  have HB11 : Hid (Below w.heap.size w w11) := HB10.out.trans (hb11.mono HB10.out.size)
  clear hb11
  go_wp2_with fail
  go_ret
  exact ⟨rfl, HB11.out⟩
end Go.Proofs.YtkcojblflebomaaGreat
