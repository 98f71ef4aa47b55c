/-
  Several texts in one.
-/
import Derived.Test.YtldpcliahfiloaaGreatPW27
set_option linter.unusedVariables false
set_option linter.unusedSimpArgs false
namespace Go.Proofs.YtldpcliahfiloaaGreat
open Go.RowKit Go.MapKept Go.Shelf
open Go.Lib hiding intOf
open Go.Sort hiding Below
open Go.Maps (Keyed)

def nlk (k : Pk) (label : Nat) : Nl := ⟨k.fam, k.rd, k.addr, k.len, (k.id : Nat), (label : Nat)⟩
theorem nlk_ok {k : Pk} {label : Nat} (h : k.Ok) (hl : label < 4294967296) : (nlk k label).Ok :=
  ⟨h.fam, h.rd, h.addr, h.len, ⟨by show (0 : Int) ≤ (k.id : Nat); omega, by have := h.id; show ((k.id : Nat) : Int) < _; omega⟩, ⟨by show (0 : Int) ≤ (label : Nat); omega, by show ((label : Nat) : Int) < _; omega⟩⟩
theorem yields_attrs0 {ops : Array Oper} {S : World → Prop} {o : Oper} {a : Act} (hw : Region.wanted o (yielded ops a.tmps) = true) (src : Operand) (ho : o.op = .load 41 src)
    (b : Nat) (hx : a.eval src = .pointer (some ⟨b, 0, none⟩)) (p : Atr) (hS : ∀ w, S w → CellsAt w b p.ar 41) : YieldsIf Tryz.prog ops S o (.agg p.ar) a := by
  obtain ⟨fs, hu⟩ := attrs_under
  exact yieldsIf_load_mid hw 41 src ho b 0 hx p.ar.toList _ (fun w h => (hS w h).range) hu rfl (by rw [attrs_size]; rfl)
theorem rb_load_attrs_g {ops : Array Oper} {rest : List Oper} {op : Oper} {a : Act} {w : World} {Q : Exit → Act → World → Prop} (hw : Region.wanted op (yielded ops a.tmps) = true) (src : Operand) (ho : op.op = .load 41 src) (b : Nat) (hx : a.eval src = .pointer (some ⟨b, 0, none⟩)) (p : Atr) (hc : CellsAt w b p.ar 41)
    (h : wpList Tryz.prog ops Q rest (a.put op.dst p.v) w) : wpList Tryz.prog ops Q (op :: rest) a w := by
  obtain ⟨fs, hu⟩ := attrs_under
  refine wpList_step fun K hK => ?_
  rw [if_pos hw]
  exact wp_load_mid 41 src ho b 0 hx p.ar.toList _ hc.range hu rfl (by rw [attrs_size]; rfl) (hK _ _ h)
set_option maxRecDepth 100000 in
set_option maxHeartbeats 16000000 in
theorem rput_bad1 (w : World) (base b m : Nat) (most : Int) (S : List Td) (h : RibAt w base b m most S) (k : Pk) (label : Nat) (hk : k.Ok) (hlab : label < 4294967296) (a : Atr) (ha : AtrOk w a) (hm : ¬ nlMay (nlk k label)) :
    Calls Tryz.prog 13 #[.pointer (some ⟨b, 0, none⟩), .agg #[.int .i64 k.fam, .int .u64 k.rd, .string k.addr, .int .i64 k.len, .int .u32 (k.id : Nat), .int .u32 (label : Nat)], .agg a.ar] w fun e w' => e = .returned (.tuple #[.bool false, .int .i64 2]) ∧ RibAt w' base b m most S ∧ Below w.heap.size w w' := by
  have hn := nlk_ok hk hlab
  have HNC : Hid (∀ W, Calls Tryz.prog 35 #[.agg #[.int .i64 k.fam, .int .u64 k.rd, .string k.addr, .int .i64 k.len, .int .u32 (k.id : Nat), .int .u32 (label : Nat)]] W fun e w' => e = .returned (.int .i64 2) ∧ Below W.heap.size W w') := fun W => by
    have h := ncheck_any (nlk k label) hn W
    rwa [show nlC (nlk k label) = 2 from if_neg hm] at h
  have HRIB := Lib.hid h
  have HAOK := Lib.hid ha
  have lb := h.lt.1
  have lm := h.lt.2
  have N1 := h.ne
  clear h ha hn hlab
  go_enter Tryz.func13, Tryz.ntmps13
  go_upto_region 1 with fail
  refine rb_name fun V0 hV0 => ?_
  obtain ⟨s, hs⟩ : ∃ s, s = w.heap.size := ⟨_, rfl⟩
  have HR0 : Hid (RibAt V0 base b m most S) := by rw [hV0]; exact (HRIB.out.alloc _).alloc _
  have HP0 : Hid (CellsAt V0 s #[.int .i64 k.fam, .int .u64 k.rd, .string k.addr, .int .i64 k.len, .int .u32 (k.id : Nat), .int .u32 (label : Nat)] 35) := by rw [hV0, hs]; exact (CellsAt.new _ _ _).alloc _
  have HQ0 : Hid (CellsAt V0 (s + 1) a.ar 41) := by
    have h := CellsAt.new (w.alloc (.cells #[.int .i64 k.fam, .int .u64 k.rd, .string k.addr, .int .i64 k.len, .int .u32 (k.id : Nat), .int .u32 (label : Nat)] 35)) a.ar 41
    rw [World.size_alloc] at h
    rw [hV0, hs]
    exact h
  have HB0 : Hid (Below w.heap.size w V0) := by rw [hV0]; exact ((Below.refl _ _).alloc (Nat.le_refl _) _).alloc (by simp) _
  have HS : Hid (s = w.heap.size) := hs
  rw [← hs]
  clear hV0 hs
  go_wp2_with fail
  refine (rnone_any b m most _ HR0.out.blk).mono ?_
  rintro e w2 ⟨rfl, hw2⟩
  subst w2
  obtain ⟨p0, p1, p2, p3, p4, p5⟩ := c6 HP0.out
  go_wp2_with fail
  refine (HNC.out _).mono ?_
  rintro e w3 ⟨rfl, hb3⟩
  have HR3 : Hid (RibAt w3 base b m most S) := HR0.out.below hb3
  have HP3 : Hid (CellsAt w3 s #[.int .i64 k.fam, .int .u64 k.rd, .string k.addr, .int .i64 k.len, .int .u32 (k.id : Nat), .int .u32 (label : Nat)] 35) := HP0.out.below hb3 HP0.out.lt
  have HQ3 : Hid (CellsAt w3 (s + 1) a.ar 41) := HQ0.out.below hb3 HQ0.out.lt
  have HB3 : Hid (Below w.heap.size w w3) := HB0.out.trans (hb3.mono HB0.out.size)
  clear hb3 p0 p1 p2 p3 p4 p5 HR0 HP0 HQ0 HB0
  go_wp2_with fail
  go_ret2
  exact ⟨rfl, HR3.out, HB3.out⟩
set_option maxRecDepth 100000 in
set_option maxHeartbeats 16000000 in
theorem rput_bad2 (w : World) (base b m : Nat) (most : Int) (S : List Td) (h : RibAt w base b m most S) (k : Pk) (label : Nat) (hk : k.Ok) (hlab : label < 4294967296) (a : Atr) (ha : AtrOk w a) (hm : nlMay (nlk k label)) (hc : atOk a.c = false) :
    Calls Tryz.prog 13 #[.pointer (some ⟨b, 0, none⟩), .agg #[.int .i64 k.fam, .int .u64 k.rd, .string k.addr, .int .i64 k.len, .int .u32 (k.id : Nat), .int .u32 (label : Nat)], .agg a.ar] w fun e w' => e = .returned (.tuple #[.bool false, .int .i64 2]) ∧ RibAt w' base b m most S ∧ Below w.heap.size w w' := by
  have hn := nlk_ok hk hlab
  have HNC : Hid (∀ W, Calls Tryz.prog 35 #[.agg #[.int .i64 k.fam, .int .u64 k.rd, .string k.addr, .int .i64 k.len, .int .u32 (k.id : Nat), .int .u32 (label : Nat)]] W fun e w' => e = .returned (.int .i64 0) ∧ Below W.heap.size W w') := fun W => by
    have h := ncheck_any (nlk k label) hn W
    rwa [show nlC (nlk k label) = 0 from if_pos hm] at h
  have HRIB := Lib.hid h
  have HAOK := Lib.hid ha
  have lb := h.lt.1
  have lm := h.lt.2
  have N1 := h.ne
  have HCK : Hid (∀ W, AtrOk W a → Calls Tryz.prog 36 #[.agg a.ar] W fun e w' => e = .returned (.int .i64 2) ∧ Below W.heap.size W w') := fun W h1 => by
    have h := check_any a W h1
    rw [hc, show okN false = 2 from rfl] at h
    exact h
  clear h ha hn hlab
  go_enter Tryz.func13, Tryz.ntmps13
  go_upto_region 1 with fail
  refine rb_name fun V0 hV0 => ?_
  obtain ⟨s, hs⟩ : ∃ s, s = w.heap.size := ⟨_, rfl⟩
  have HR0 : Hid (RibAt V0 base b m most S) := by rw [hV0]; exact (HRIB.out.alloc _).alloc _
  have HP0 : Hid (CellsAt V0 s #[.int .i64 k.fam, .int .u64 k.rd, .string k.addr, .int .i64 k.len, .int .u32 (k.id : Nat), .int .u32 (label : Nat)] 35) := by rw [hV0, hs]; exact (CellsAt.new _ _ _).alloc _
  have HQ0 : Hid (CellsAt V0 (s + 1) a.ar 41) := by
    have h := CellsAt.new (w.alloc (.cells #[.int .i64 k.fam, .int .u64 k.rd, .string k.addr, .int .i64 k.len, .int .u32 (k.id : Nat), .int .u32 (label : Nat)] 35)) a.ar 41
    rw [World.size_alloc] at h
    rw [hV0, hs]
    exact h
  have HB0 : Hid (Below w.heap.size w V0) := by rw [hV0]; exact ((Below.refl _ _).alloc (Nat.le_refl _) _).alloc (by simp) _
  have HS : Hid (s = w.heap.size) := hs
  rw [← hs]
  clear hV0 hs
  go_wp2_with fail
  refine (rnone_any b m most _ HR0.out.blk).mono ?_
  rintro e w2 ⟨rfl, hw2⟩
  subst w2
  obtain ⟨p0, p1, p2, p3, p4, p5⟩ := c6 HP0.out
  go_wp2_with fail
  refine (HNC.out _).mono ?_
  rintro e w3 ⟨rfl, hb3⟩
  have HR3 : Hid (RibAt w3 base b m most S) := HR0.out.below hb3
  have HP3 : Hid (CellsAt w3 s #[.int .i64 k.fam, .int .u64 k.rd, .string k.addr, .int .i64 k.len, .int .u32 (k.id : Nat), .int .u32 (label : Nat)] 35) := HP0.out.below hb3 HP0.out.lt
  have HQ3 : Hid (CellsAt w3 (s + 1) a.ar 41) := HQ0.out.below hb3 HQ0.out.lt
  have HB3 : Hid (Below w.heap.size w w3) := HB0.out.trans (hb3.mono HB0.out.size)
  clear hb3 p0 p1 p2 p3 p4 p5 HR0 HP0 HQ0 HB0
  go_wp2_with (with_reducible show wpList _ _ _ (_ :: _) _ _; refine rb_load_attrs_g (by kernel_rfl) (.tmp 5) rfl (s + 1) rfl a HQ3.out ?_)
  refine (HCK.out _ (HAOK.out.below HB3.out (Nat.le_refl _))).mono ?_
  rintro e w4 ⟨rfl, hb4⟩
  have HR4 : Hid (RibAt w4 base b m most S) := HR3.out.below hb4
  have HP4 : Hid (CellsAt w4 s #[.int .i64 k.fam, .int .u64 k.rd, .string k.addr, .int .i64 k.len, .int .u32 (k.id : Nat), .int .u32 (label : Nat)] 35) := HP3.out.below hb4 HP3.out.lt
  have HQ4 : Hid (CellsAt w4 (s + 1) a.ar 41) := HQ3.out.below hb4 HQ3.out.lt
  have HB4 : Hid (Below w.heap.size w w4) := HB3.out.trans (hb4.mono HB3.out.size)
  clear hb4 HR3 HP3 HQ3 HB3
  go_wp2_with fail
  go_ret2
  exact ⟨rfl, HR4.out, HB4.out⟩
set_option maxRecDepth 100000 in
set_option maxHeartbeats 16000000 in
theorem rput_over (w : World) (base b m : Nat) (most : Int) (S : List Td) (h : RibAt w base b m most S) (k : Pk) (label : Nat) (hk : k.Ok) (hlab : label < 4294967296) (a : Atr) (ha : AtrOk w a) (hm : nlMay (nlk k label)) (hc : atOk a.c = true) (hj : ∀ p ∈ S, p.k ≠ k) (hmost : 0 < most) (hfull : most ≤ S.length) :
    Calls Tryz.prog 13 #[.pointer (some ⟨b, 0, none⟩), .agg #[.int .i64 k.fam, .int .u64 k.rd, .string k.addr, .int .i64 k.len, .int .u32 (k.id : Nat), .int .u32 (label : Nat)], .agg a.ar] w fun e w' => e = .returned (.tuple #[.bool true, .int .i64 0]) ∧ RibAt w' base b m most S ∧ Below w.heap.size w w' := by
  have hn := nlk_ok hk hlab
  have HNC : Hid (∀ W, Calls Tryz.prog 35 #[.agg #[.int .i64 k.fam, .int .u64 k.rd, .string k.addr, .int .i64 k.len, .int .u32 (k.id : Nat), .int .u32 (label : Nat)]] W fun e w' => e = .returned (.int .i64 0) ∧ Below W.heap.size W w') := fun W => by
    have h := ncheck_any (nlk k label) hn W
    rwa [show nlC (nlk k label) = 0 from if_pos hm] at h
  have HRIB := Lib.hid h
  have HAOK := Lib.hid ha
  have lb := h.lt.1
  have lm := h.lt.2
  have N1 := h.ne
  have HCK : Hid (∀ W, AtrOk W a → Calls Tryz.prog 36 #[.agg a.ar] W fun e w' => e = .returned (.int .i64 0) ∧ Below W.heap.size W w') := fun W h1 => by
    have h := check_any a W h1
    rw [hc, show okN true = 0 from rfl] at h
    exact h
  obtain ⟨kl, hkl⟩ := pk_key k hk
  have HKL := Lib.hid hkl
  have HJ := Lib.hid hj
  clear hkl hj
  have zm : decide (most > 0) = true := decide_eq_true hmost
  have zl : decide ((S.length : Int) ≥ most) = true := decide_eq_true (by omega)
  clear hmost hfull
  clear h ha hn hlab
  go_enter Tryz.func13, Tryz.ntmps13
  go_upto_region 1 with fail
  refine rb_name fun V0 hV0 => ?_
  obtain ⟨s, hs⟩ : ∃ s, s = w.heap.size := ⟨_, rfl⟩
  have HR0 : Hid (RibAt V0 base b m most S) := by rw [hV0]; exact (HRIB.out.alloc _).alloc _
  have HP0 : Hid (CellsAt V0 s #[.int .i64 k.fam, .int .u64 k.rd, .string k.addr, .int .i64 k.len, .int .u32 (k.id : Nat), .int .u32 (label : Nat)] 35) := by rw [hV0, hs]; exact (CellsAt.new _ _ _).alloc _
  have HQ0 : Hid (CellsAt V0 (s + 1) a.ar 41) := by
    have h := CellsAt.new (w.alloc (.cells #[.int .i64 k.fam, .int .u64 k.rd, .string k.addr, .int .i64 k.len, .int .u32 (k.id : Nat), .int .u32 (label : Nat)] 35)) a.ar 41
    rw [World.size_alloc] at h
    rw [hV0, hs]
    exact h
  have HB0 : Hid (Below w.heap.size w V0) := by rw [hV0]; exact ((Below.refl _ _).alloc (Nat.le_refl _) _).alloc (by simp) _
  have HS : Hid (s = w.heap.size) := hs
  rw [← hs]
  clear hV0 hs
  go_wp2_with fail
  refine (rnone_any b m most _ HR0.out.blk).mono ?_
  rintro e w2 ⟨rfl, hw2⟩
  subst w2
  obtain ⟨p0, p1, p2, p3, p4, p5⟩ := c6 HP0.out
  go_wp2_with fail
  refine (HNC.out _).mono ?_
  rintro e w3 ⟨rfl, hb3⟩
  have HR3 : Hid (RibAt w3 base b m most S) := HR0.out.below hb3
  have HP3 : Hid (CellsAt w3 s #[.int .i64 k.fam, .int .u64 k.rd, .string k.addr, .int .i64 k.len, .int .u32 (k.id : Nat), .int .u32 (label : Nat)] 35) := HP0.out.below hb3 HP0.out.lt
  have HQ3 : Hid (CellsAt w3 (s + 1) a.ar 41) := HQ0.out.below hb3 HQ0.out.lt
  have HB3 : Hid (Below w.heap.size w w3) := HB0.out.trans (hb3.mono HB0.out.size)
  clear hb3 p0 p1 p2 p3 p4 p5 HR0 HP0 HQ0 HB0
  go_wp2_with (with_reducible show wpList _ _ _ (_ :: _) _ _; refine rb_load_attrs_g (by kernel_rfl) (.tmp 5) rfl (s + 1) rfl a HQ3.out ?_)
  refine (HCK.out _ (HAOK.out.below HB3.out (Nat.le_refl _))).mono ?_
  rintro e w4 ⟨rfl, hb4⟩
  have HR4 : Hid (RibAt w4 base b m most S) := HR3.out.below hb4
  have HP4 : Hid (CellsAt w4 s #[.int .i64 k.fam, .int .u64 k.rd, .string k.addr, .int .i64 k.len, .int .u32 (k.id : Nat), .int .u32 (label : Nat)] 35) := HP3.out.below hb4 HP3.out.lt
  have HQ4 : Hid (CellsAt w4 (s + 1) a.ar 41) := HQ3.out.below hb4 HQ3.out.lt
  have HB4 : Hid (Below w.heap.size w w4) := HB3.out.trans (hb4.mono HB3.out.size)
  clear hb4 HR3 HP3 HQ3 HB3
  obtain ⟨p0, p1, p2, p3, p4, p5⟩ := c6 HP4.out
  go_upto_region 6 with fail
  refine rb_name fun V hV => ?_
  have HRV : Hid (RibAt V base b m most S) := by rw [hV]; exact HR4.out.alloc _
  have HBV : Hid (Below w.heap.size w V) := by rw [hV]; exact HB4.out.alloc HB4.out.size _
  have HPV : Hid (CellsAt V s #[.int .i64 k.fam, .int .u64 k.rd, .string k.addr, .int .i64 k.len, .int .u32 (k.id : Nat), .int .u32 (label : Nat)] 35) := by rw [hV]; exact HP4.out.alloc _
  have HQV : Hid (CellsAt V (s + 1) a.ar 41) := by rw [hV]; exact HQ4.out.alloc _
  obtain ⟨gp, hgp⟩ : ∃ gp, gp = w4.heap.size := ⟨_, rfl⟩
  have HKV : Hid (CellsAt V gp #[.int .i64 k.fam, .int .u64 k.rd, .string k.addr, .int .i64 k.len, .int .u32 (k.id : Nat)] 83) := by rw [hV, hgp]; exact CellsAt.new _ _ _
  have HGM : Hid (gp ≠ m) := by
    show _ ≠ _
    have := HB4.out.size
    omega
  rw [← hgp]
  have hsV : gp < V.heap.size := HKV.out.lt
  have hbV : b < V.heap.size := HRV.out.lt.1
  have hmV : m < V.heap.size := HRV.out.lt.2
  clear hV p0 p1 p2 p3 p4 p5 HP4 HR4 HB4 HQ4 hgp
  have HI : Hid ((fun w' => CellsAt w' b #[.int .i64 most, .map (some m)] 53 ∧ MapAt Tryz.prog 83 w' m (tdL S) ∧ CellsAt w' gp #[.int .i64 k.fam, .int .u64 k.rd, .string k.addr, .int .i64 k.len, .int .u32 (k.id : Nat)] 83 ∧ Below V.heap.size V w') V.drew) := ⟨HRV.out.blk.drew 1, HRV.out.map.drew 1, HKV.out.drew 1, below_drewN (Below.refl _ _) 1⟩
  refine wp_region_held_drew (S := fun w' => CellsAt w' b #[.int .i64 most, .map (some m)] 53 ∧ MapAt Tryz.prog 83 w' m (tdL S) ∧ CellsAt w' gp #[.int .i64 k.fam, .int .u64 k.rd, .string k.addr, .int .i64 k.len, .int .u32 (k.id : Nat)] 83 ∧ Below V.heap.size V w') (by kernel_rfl) (HI.out) (fun hHeld => ?_)
  refine wpAnyH_take (i := 0) (oi := { dst := some 29, op := Op.move (Operand.tmp 0), type := 23, pos := "adjin.go:72", after := #[], guard := none }) (v := ?_) rfl (by kernel_rfl) (by kernel_rfl) (by kernel_rfl) (fun _ _ _ h => h) (Or.inl ⟨by rfl, ?_⟩) hHeld ?_
  rotate_left
  · intro w hSw
    clear hSw
    go_simp
    try with_reducible rfl
  try simp only [Act.put, List.setIfInBounds_toArray, List.set_cons_zero, List.set_cons_succ]
  refine wpAnyH_take (i := 1) (oi := { dst := some 30, op := Op.nilCheck (Operand.tmp 29), type := 0, pos := "adjin.go:72", after := #[{ on := 0, ground := Ground.data }], guard := none }) (v := ?_) rfl (by kernel_rfl) (by kernel_rfl) (by kernel_rfl) (fun _ _ _ h => h) (Or.inl ⟨by rfl, ?_⟩) hHeld ?_
  rotate_left
  · intro w hSw
    clear hSw
    go_simp
    try with_reducible rfl
  try simp only [Act.put, List.setIfInBounds_toArray, List.set_cons_zero, List.set_cons_succ]
  refine wpAnyH_take (i := 2) (oi := { dst := some 31, op := Op.fieldAddr 53 (Operand.tmp 30) 1, type := 0, pos := "adjin.go:72", after := #[{ on := 1, ground := Ground.data }], guard := none }) (v := ?_) rfl (by kernel_rfl) (by kernel_rfl) (by kernel_rfl) (fun _ _ _ h => h) (Or.inl ⟨by rfl, ?_⟩) hHeld ?_
  rotate_left
  · intro w hSw
    clear hSw
    go_simp
    try with_reducible rfl
  try simp only [Act.put, List.setIfInBounds_toArray, List.set_cons_zero, List.set_cons_succ]
  refine wpAnyH_take (i := 3) (oi := { dst := some 32, op := Op.load 51 (Operand.tmp 31), type := 51, pos := "adjin.go:72", after := #[{ on := 2, ground := Ground.data }], guard := none }) (v := ?_) rfl (by kernel_rfl) (by kernel_rfl) (by kernel_rfl) (fun _ _ _ h => h) (Or.inl ⟨by rfl, ?_⟩) hHeld ?_
  rotate_left
  · intro w hSw
    obtain ⟨q1, q2, q3, q4⟩ := hSw
    obtain ⟨c0, c1⟩ := q1.c2
    obtain ⟨k0, k1, k2, k3, k4⟩ := q3.c5
    go_simp
    try with_reducible rfl
  try simp only [Act.put, List.setIfInBounds_toArray, List.set_cons_zero, List.set_cons_succ]
  refine wpAnyH_take (i := 4) (oi := { dst := some 33, op := Op.load 83 (Operand.tmp 8), type := 83, pos := "adjin.go:72", after := #[], guard := none }) (v := ?_) rfl (by kernel_rfl) (by kernel_rfl) (by kernel_rfl) (fun _ _ _ h => h) (Or.inl ⟨by rfl, ?_⟩) hHeld ?_
  rotate_left
  · intro w hSw
    obtain ⟨q1, q2, q3, q4⟩ := hSw
    obtain ⟨c0, c1⟩ := q1.c2
    obtain ⟨k0, k1, k2, k3, k4⟩ := q3.c5
    go_simp
    try with_reducible rfl
  try simp only [Act.put, List.setIfInBounds_toArray, List.set_cons_zero, List.set_cons_succ]
  refine wpAnyH_take (i := 5) (oi := { dst := some 34, op := Op.lookup 51 (Operand.tmp 32) (Operand.tmp 33) true, type := 94, pos := "adjin.go:72", after := #[{ on := 3, ground := Ground.data }, { on := 4, ground := Ground.data }], guard := none }) (v := ?_) rfl (by kernel_rfl) (by kernel_rfl) (by kernel_rfl) (fun _ _ _ h => h) (Or.inl ⟨by rfl, ?_⟩) hHeld ?_
  rotate_left
  · intro w hSw
    obtain ⟨q1, q2, q3, q4⟩ := hSw
    have hlk := q2.lookup_none (t := 51) pkLaw Tryz.underlying51 (zero_td _) HKL.out (tdL_no HJ.out)
    unfold Pk.v at hlk
    go_simp
    try with_reducible rfl
  try simp only [Act.put, List.setIfInBounds_toArray, List.set_cons_zero, List.set_cons_succ]
  refine wpAnyH_take (i := 6) (oi := { dst := some 28, op := Op.move (Operand.tmp 34), type := 94, pos := "adjin.go:72", after := #[{ on := 5, ground := Ground.data }], guard := none }) (v := ?_) rfl (by kernel_rfl) (by kernel_rfl) (by kernel_rfl) (fun _ _ _ h => h) (Or.inl ⟨by rfl, ?_⟩) hHeld ?_
  rotate_left
  · intro w hSw
    clear hSw
    go_simp
    try with_reducible rfl
  try simp only [Act.put, List.setIfInBounds_toArray, List.set_cons_zero, List.set_cons_succ]
  refine wpAnyH_take (i := 7) (oi := { dst := some 35, op := Op.extract (Operand.tmp 28) 0, type := 86, pos := "adjin.go:72", after := #[{ on := 6, ground := Ground.data }], guard := none }) (v := ?_) rfl (by kernel_rfl) (by kernel_rfl) (by kernel_rfl) (fun _ _ _ h => h) (Or.inl ⟨by rfl, ?_⟩) hHeld ?_
  rotate_left
  · intro w hSw
    clear hSw
    go_simp
    try with_reducible rfl
  try simp only [Act.put, List.setIfInBounds_toArray, List.set_cons_zero, List.set_cons_succ]
  refine wpAnyH_take (i := 8) (oi := { dst := some 36, op := Op.extract (Operand.tmp 28) 1, type := 4, pos := "adjin.go:72", after := #[{ on := 6, ground := Ground.data }, { on := 10, ground := Ground.gcOnly Departure.lateStores }], guard := none }) (v := ?_) rfl (by kernel_rfl) (by kernel_rfl) (by kernel_rfl) (fun _ _ _ h => h) (Or.inl ⟨by rfl, ?_⟩) hHeld ?_
  rotate_left
  · intro w hSw
    clear hSw
    go_simp
    try with_reducible rfl
  try simp only [Act.put, List.setIfInBounds_toArray, List.set_cons_zero, List.set_cons_succ]
  refine wpAnyH_ready (rs := [9]) (by kernel_rfl) (by simp) ?_
  refine AllReadyH.cons (o := { dst := some 9, op := Op.alloc 86, type := 0, pos := "adjin.go:72", after := #[], guard := none }) rfl (fun K hK => ?_) AllReadyH.nil
  go_simp
  skip
  refine hK.out _ _ (And.intro (hHeld.1.alloc _) (And.intro (hHeld.2.1.alloc _) (And.intro (hHeld.2.2.1.alloc _) (hHeld.2.2.2.alloc hHeld.2.2.2.size _)))) (fun hHeld => ?_)
  clear hK K
  try simp only [Act.put, List.setIfInBounds_toArray, List.set_cons_zero, List.set_cons_succ]
  refine wpAnyH_ready (rs := [10]) (by kernel_rfl) (by simp) ?_
  refine AllReadyH.cons (o := { dst := none, op := Op.store 86 (Operand.tmp 9) (Operand.tmp 35), type := 0, pos := "adjin.go:72", after := #[{ on := 9, ground := Ground.data }, { on := 7, ground := Ground.data }, { on := 0, ground := Ground.phase }, { on := 1, ground := Ground.phase }, { on := 2, ground := Ground.phase }, { on := 3, ground := Ground.phase }, { on := 4, ground := Ground.phase }, { on := 5, ground := Ground.phase }, { on := 6, ground := Ground.phase }, { on := 7, ground := Ground.phase }, { on := 8, ground := Ground.textOnly Departure.lateStores }, { on := 9, ground := Ground.phase }], guard := none }) rfl (fun K hK => ?_) AllReadyH.nil
  refine wp_store_row 86 (.tmp 9) (.tmp 35) rfl V.heap.size (Td.mk noPk 0 noAtr false).ar rfl rfl 86 _ (CellsAt.new V.drew _ _) (by rw [told_size]; rfl) rfl (told_ones _) ?_
  refine hK.out _ _ (And.intro (hHeld.1.row (grown_setRow' _ _ _) (Nat.ne_of_lt hbV)) (And.intro (hHeld.2.1.rowB _ (Nat.ne_of_lt hmV)) (And.intro (hHeld.2.2.1.row (grown_setRow' _ _ _) (Nat.ne_of_lt hsV)) (hHeld.2.2.2.grown (grown_setRow' _ _ _) hHeld.2.2.2.size (fun q hq => by cases hq; exact Nat.le_refl _))))) (fun hHeld => ?_)
  clear hK K
  try simp only [Act.put, List.setIfInBounds_toArray, List.set_cons_zero, List.set_cons_succ]
  refine wpAnyH_take (i := 11) (oi := { dst := some 10, op := Op.assign (Operand.tmp 36), type := 4, pos := "adjin.go:72", after := #[{ on := 8, ground := Ground.data }, { on := 10, ground := Ground.chain }, { on := 0, ground := Ground.phase }, { on := 1, ground := Ground.phase }, { on := 2, ground := Ground.phase }, { on := 3, ground := Ground.phase }, { on := 4, ground := Ground.phase }, { on := 5, ground := Ground.phase }, { on := 6, ground := Ground.phase }, { on := 7, ground := Ground.phase }, { on := 8, ground := Ground.phase }, { on := 9, ground := Ground.phase }, { on := 10, ground := Ground.phase }], guard := none }) (v := ?_) rfl (by kernel_rfl) (by kernel_rfl) (by kernel_rfl) (fun _ _ _ h => h) (Or.inl ⟨by rfl, ?_⟩) hHeld ?_
  rotate_left
  · intro w hSw
    clear hSw
    go_simp
    try with_reducible rfl
  try simp only [Act.put, List.setIfInBounds_toArray, List.set_cons_zero, List.set_cons_succ]
  refine wpAnyH_done (by kernel_rfl) ?_ _
  have HH := Lib.hid hHeld
  clear hHeld
  go_upto_region 7 with fail
  refine rb_name fun X hX => ?_
  have HRX : Hid (Below V.heap.size V X) := by rw [hX]; exact HH.out.2.2.2
  have HKX : Hid (CellsAt X gp #[.int .i64 k.fam, .int .u64 k.rd, .string k.addr, .int .i64 k.len, .int .u32 (k.id : Nat)] 83) := by rw [hX]; exact HH.out.2.2.1
  have HIX : Hid (RibAt X base b m most S) := HRV.out.below HRX.out
  have HPX : Hid (CellsAt X s #[.int .i64 k.fam, .int .u64 k.rd, .string k.addr, .int .i64 k.len, .int .u32 (k.id : Nat), .int .u32 (label : Nat)] 35) := HPV.out.below HRX.out HPV.out.lt
  have HQX : Hid (CellsAt X (s + 1) a.ar 41) := HQV.out.below HRX.out HQV.out.lt
  have HBX : Hid (Below w.heap.size w X) := HBV.out.trans (HRX.out.mono HBV.out.size)
  clear hX HH hsV hbV hmV HRV HPV HQV HKV HRX HBV HI
  have hl := fun nd => (HIX.out.map.drew nd).len_ (t := 51) Tryz.underlying51 3
  have el : (tdL S).length = S.length := by simp [tdL]
  rw [el] at hl
  obtain ⟨c0, c1⟩ := HIX.out.blk.c2
  refine wp_region_held_drew (S := fun w' => ∃ n, w' = X.drewN n) (by kernel_rfl) (⟨1, rfl⟩) (fun hHeld => ?_)
  refine wpAnyH_take (i := 0) (oi := { dst := some 37, op := Op.move (Operand.tmp 10), type := 4, pos := "adjin.go:72", after := #[], guard := none }) (v := ?_) rfl (by kernel_rfl) (by kernel_rfl) (by kernel_rfl) (fun _ _ _ h => h) (Or.inl ⟨by rfl, ?_⟩) hHeld ?_
  rotate_left
  · intro w hSw
    obtain ⟨nd, rfl⟩ := hSw
    go_simp
    try with_reducible rfl
  try simp only [Act.put, List.setIfInBounds_toArray, List.set_cons_zero, List.set_cons_succ]
  refine wpAnyH_take (i := 1) (oi := { dst := some 38, op := Op.unOp UnOp.not 4 (Operand.tmp 37), type := 4, pos := "adjin.go:72", after := #[{ on := 0, ground := Ground.data }], guard := none }) (v := ?_) rfl (by kernel_rfl) (by kernel_rfl) (by kernel_rfl) (fun _ _ _ h => h) (Or.inl ⟨by rfl, ?_⟩) hHeld ?_
  rotate_left
  · intro w hSw
    obtain ⟨nd, rfl⟩ := hSw
    go_simp
    try with_reducible rfl
  try simp only [Act.put, List.setIfInBounds_toArray, List.set_cons_zero, List.set_cons_succ]
  refine wpAnyH_take (i := 2) (oi := { dst := some 39, op := Op.move (Operand.tmp 38), type := 4, pos := "adjin.go:72", after := #[{ on := 1, ground := Ground.data }], guard := none }) (v := ?_) rfl (by kernel_rfl) (by kernel_rfl) (by kernel_rfl) (fun _ _ _ h => h) (Or.inl ⟨by rfl, ?_⟩) hHeld ?_
  rotate_left
  · intro w hSw
    obtain ⟨nd, rfl⟩ := hSw
    go_simp
    try with_reducible rfl
  try simp only [Act.put, List.setIfInBounds_toArray, List.set_cons_zero, List.set_cons_succ]
  refine wpAnyH_take (i := 3) (oi := { dst := some 40, op := Op.move (Operand.tmp 0), type := 23, pos := "adjin.go:72", after := #[{ on := 2, ground := Ground.guard }], guard := some (2, true) }) (v := ?_) rfl (by kernel_rfl) (by kernel_rfl) (by kernel_rfl) (fun _ _ _ h => h) (Or.inl ⟨by rfl, ?_⟩) hHeld ?_
  rotate_left
  · intro w hSw
    obtain ⟨nd, rfl⟩ := hSw
    go_simp
    try with_reducible rfl
  try simp only [Act.put, List.setIfInBounds_toArray, List.set_cons_zero, List.set_cons_succ]
  refine wpAnyH_take (i := 4) (oi := { dst := some 41, op := Op.nilCheck (Operand.tmp 40), type := 0, pos := "adjin.go:72", after := #[{ on := 3, ground := Ground.data }, { on := 2, ground := Ground.guard }], guard := some (2, true) }) (v := ?_) rfl (by kernel_rfl) (by kernel_rfl) (by kernel_rfl) (fun _ _ _ h => h) (Or.inl ⟨by rfl, ?_⟩) hHeld ?_
  rotate_left
  · intro w hSw
    obtain ⟨nd, rfl⟩ := hSw
    go_simp
    try with_reducible rfl
  try simp only [Act.put, List.setIfInBounds_toArray, List.set_cons_zero, List.set_cons_succ]
  refine wpAnyH_take (i := 5) (oi := { dst := some 42, op := Op.fieldAddr 53 (Operand.tmp 41) 0, type := 0, pos := "adjin.go:72", after := #[{ on := 4, ground := Ground.data }, { on := 2, ground := Ground.guard }], guard := some (2, true) }) (v := ?_) rfl (by kernel_rfl) (by kernel_rfl) (by kernel_rfl) (fun _ _ _ h => h) (Or.inl ⟨by rfl, ?_⟩) hHeld ?_
  rotate_left
  · intro w hSw
    obtain ⟨nd, rfl⟩ := hSw
    go_simp
    try with_reducible rfl
  try simp only [Act.put, List.setIfInBounds_toArray, List.set_cons_zero, List.set_cons_succ]
  refine wpAnyH_take (i := 6) (oi := { dst := some 43, op := Op.load 3 (Operand.tmp 42), type := 3, pos := "adjin.go:72", after := #[{ on := 5, ground := Ground.data }, { on := 2, ground := Ground.guard }], guard := some (2, true) }) (v := ?_) rfl (by kernel_rfl) (by kernel_rfl) (by kernel_rfl) (fun _ _ _ h => h) (Or.inl ⟨by rfl, ?_⟩) hHeld ?_
  rotate_left
  · intro w hSw
    obtain ⟨nd, rfl⟩ := hSw
    go_simp
    try with_reducible rfl
  try simp only [Act.put, List.setIfInBounds_toArray, List.set_cons_zero, List.set_cons_succ]
  refine wpAnyH_take (i := 7) (oi := { dst := some 44, op := Op.binOp BinOp.gtr 3 (Operand.tmp 43) (Operand.const (Value.int IntKind.i64 0)) 3, type := 4, pos := "adjin.go:72", after := #[{ on := 6, ground := Ground.data }, { on := 2, ground := Ground.guard }], guard := some (2, true) }) (v := ?_) rfl (by kernel_rfl) (by kernel_rfl) (by kernel_rfl) (fun _ _ _ h => h) (Or.inl ⟨by rfl, ?_⟩) hHeld ?_
  rotate_left
  · intro w hSw
    obtain ⟨nd, rfl⟩ := hSw
    go_simp
    try with_reducible rfl
  try simp only [Act.put, List.setIfInBounds_toArray, List.set_cons_zero, List.set_cons_succ]
  refine wpAnyH_take (i := 8) (oi := { dst := some 45, op := Op.pick (Operand.tmp 39) (Operand.tmp 44) (Operand.const (Value.bool false)), type := 4, pos := "adjin.go:72", after := #[{ on := 2, ground := Ground.data }, { on := 7, ground := Ground.data }], guard := none }) (v := ?_) rfl (by kernel_rfl) (by kernel_rfl) (by kernel_rfl) (fun _ _ _ h => h) (Or.inl ⟨by rfl, ?_⟩) hHeld ?_
  rotate_left
  · intro w hSw
    obtain ⟨nd, rfl⟩ := hSw
    go_simp
    try with_reducible rfl
  try simp only [Act.put, List.setIfInBounds_toArray, List.set_cons_zero, List.set_cons_succ]
  refine wpAnyH_take (i := 9) (oi := { dst := some 46, op := Op.move (Operand.tmp 45), type := 4, pos := "adjin.go:72", after := #[{ on := 8, ground := Ground.data }, { on := 2, ground := Ground.chain }], guard := none }) (v := ?_) rfl (by kernel_rfl) (by kernel_rfl) (by kernel_rfl) (fun _ _ _ h => h) (Or.inl ⟨by rfl, ?_⟩) hHeld ?_
  rotate_left
  · intro w hSw
    obtain ⟨nd, rfl⟩ := hSw
    go_simp
    try with_reducible rfl
  try simp only [Act.put, List.setIfInBounds_toArray, List.set_cons_zero, List.set_cons_succ]
  refine wpAnyH_take (i := 10) (oi := { dst := some 47, op := Op.move (Operand.tmp 0), type := 23, pos := "adjin.go:72", after := #[{ on := 9, ground := Ground.guard }], guard := some (9, true) }) (v := ?_) rfl (by kernel_rfl) (by kernel_rfl) (by kernel_rfl) (fun _ _ _ h => h) (Or.inl ⟨by rfl, ?_⟩) hHeld ?_
  rotate_left
  · intro w hSw
    obtain ⟨nd, rfl⟩ := hSw
    go_simp
    try with_reducible rfl
  try simp only [Act.put, List.setIfInBounds_toArray, List.set_cons_zero, List.set_cons_succ]
  refine wpAnyH_take (i := 11) (oi := { dst := some 48, op := Op.nilCheck (Operand.tmp 47), type := 0, pos := "adjin.go:72", after := #[{ on := 10, ground := Ground.data }, { on := 9, ground := Ground.guard }], guard := some (9, true) }) (v := ?_) rfl (by kernel_rfl) (by kernel_rfl) (by kernel_rfl) (fun _ _ _ h => h) (Or.inl ⟨by rfl, ?_⟩) hHeld ?_
  rotate_left
  · intro w hSw
    obtain ⟨nd, rfl⟩ := hSw
    go_simp
    try with_reducible rfl
  try simp only [Act.put, List.setIfInBounds_toArray, List.set_cons_zero, List.set_cons_succ]
  refine wpAnyH_take (i := 12) (oi := { dst := some 49, op := Op.fieldAddr 53 (Operand.tmp 48) 1, type := 0, pos := "adjin.go:72", after := #[{ on := 11, ground := Ground.data }, { on := 9, ground := Ground.guard }], guard := some (9, true) }) (v := ?_) rfl (by kernel_rfl) (by kernel_rfl) (by kernel_rfl) (fun _ _ _ h => h) (Or.inl ⟨by rfl, ?_⟩) hHeld ?_
  rotate_left
  · intro w hSw
    obtain ⟨nd, rfl⟩ := hSw
    go_simp
    try with_reducible rfl
  try simp only [Act.put, List.setIfInBounds_toArray, List.set_cons_zero, List.set_cons_succ]
  refine wpAnyH_take (i := 13) (oi := { dst := some 50, op := Op.load 51 (Operand.tmp 49), type := 51, pos := "adjin.go:72", after := #[{ on := 12, ground := Ground.data }, { on := 9, ground := Ground.guard }], guard := some (9, true) }) (v := ?_) rfl (by kernel_rfl) (by kernel_rfl) (by kernel_rfl) (fun _ _ _ h => h) (Or.inl ⟨by rfl, ?_⟩) hHeld ?_
  rotate_left
  · intro w hSw
    obtain ⟨nd, rfl⟩ := hSw
    go_simp
    try with_reducible rfl
  try simp only [Act.put, List.setIfInBounds_toArray, List.set_cons_zero, List.set_cons_succ]
  refine wpAnyH_take (i := 14) (oi := { dst := some 51, op := Op.call { callee := Callee.builtin Builtin.len, args := #[Operand.tmp 50], argTypes := #[51] }, type := 3, pos := "adjin.go:72", after := #[{ on := 13, ground := Ground.data }, { on := 9, ground := Ground.chain }, { on := 9, ground := Ground.guard }], guard := some (9, true) }) (v := ?_) rfl (by kernel_rfl) (by kernel_rfl) (by kernel_rfl) (fun _ _ _ h => h) (Or.inl ⟨by rfl, ?_⟩) hHeld ?_
  rotate_left
  · intro w hSw
    obtain ⟨nd, rfl⟩ := hSw
    go_simp
    try with_reducible rfl
  try simp only [Act.put, List.setIfInBounds_toArray, List.set_cons_zero, List.set_cons_succ]
  refine wpAnyH_take (i := 15) (oi := { dst := some 52, op := Op.move (Operand.tmp 0), type := 23, pos := "adjin.go:72", after := #[{ on := 9, ground := Ground.guard }], guard := some (9, true) }) (v := ?_) rfl (by kernel_rfl) (by kernel_rfl) (by kernel_rfl) (fun _ _ _ h => h) (Or.inl ⟨by rfl, ?_⟩) hHeld ?_
  rotate_left
  · intro w hSw
    obtain ⟨nd, rfl⟩ := hSw
    go_simp
    try with_reducible rfl
  try simp only [Act.put, List.setIfInBounds_toArray, List.set_cons_zero, List.set_cons_succ]
  refine wpAnyH_take (i := 16) (oi := { dst := some 53, op := Op.nilCheck (Operand.tmp 52), type := 0, pos := "adjin.go:72", after := #[{ on := 15, ground := Ground.data }, { on := 9, ground := Ground.guard }], guard := some (9, true) }) (v := ?_) rfl (by kernel_rfl) (by kernel_rfl) (by kernel_rfl) (fun _ _ _ h => h) (Or.inl ⟨by rfl, ?_⟩) hHeld ?_
  rotate_left
  · intro w hSw
    obtain ⟨nd, rfl⟩ := hSw
    go_simp
    try with_reducible rfl
  try simp only [Act.put, List.setIfInBounds_toArray, List.set_cons_zero, List.set_cons_succ]
  refine wpAnyH_take (i := 17) (oi := { dst := some 54, op := Op.fieldAddr 53 (Operand.tmp 53) 0, type := 0, pos := "adjin.go:72", after := #[{ on := 16, ground := Ground.data }, { on := 9, ground := Ground.guard }], guard := some (9, true) }) (v := ?_) rfl (by kernel_rfl) (by kernel_rfl) (by kernel_rfl) (fun _ _ _ h => h) (Or.inl ⟨by rfl, ?_⟩) hHeld ?_
  rotate_left
  · intro w hSw
    obtain ⟨nd, rfl⟩ := hSw
    go_simp
    try with_reducible rfl
  try simp only [Act.put, List.setIfInBounds_toArray, List.set_cons_zero, List.set_cons_succ]
  refine wpAnyH_take (i := 18) (oi := { dst := some 55, op := Op.load 3 (Operand.tmp 54), type := 3, pos := "adjin.go:72", after := #[{ on := 17, ground := Ground.data }, { on := 9, ground := Ground.guard }], guard := some (9, true) }) (v := ?_) rfl (by kernel_rfl) (by kernel_rfl) (by kernel_rfl) (fun _ _ _ h => h) (Or.inl ⟨by rfl, ?_⟩) hHeld ?_
  rotate_left
  · intro w hSw
    obtain ⟨nd, rfl⟩ := hSw
    go_simp
    try with_reducible rfl
  try simp only [Act.put, List.setIfInBounds_toArray, List.set_cons_zero, List.set_cons_succ]
  refine wpAnyH_take (i := 19) (oi := { dst := some 56, op := Op.binOp BinOp.geq 3 (Operand.tmp 51) (Operand.tmp 55) 3, type := 4, pos := "adjin.go:72", after := #[{ on := 14, ground := Ground.data }, { on := 18, ground := Ground.data }, { on := 9, ground := Ground.guard }], guard := some (9, true) }) (v := ?_) rfl (by kernel_rfl) (by kernel_rfl) (by kernel_rfl) (fun _ _ _ h => h) (Or.inl ⟨by rfl, ?_⟩) hHeld ?_
  rotate_left
  · intro w hSw
    obtain ⟨nd, rfl⟩ := hSw
    go_simp
    try with_reducible rfl
  try simp only [Act.put, List.setIfInBounds_toArray, List.set_cons_zero, List.set_cons_succ]
  refine wpAnyH_take (i := 20) (oi := { dst := some 57, op := Op.pick (Operand.tmp 46) (Operand.tmp 56) (Operand.const (Value.bool false)), type := 4, pos := "adjin.go:72", after := #[{ on := 9, ground := Ground.data }, { on := 19, ground := Ground.data }], guard := none }) (v := ?_) rfl (by kernel_rfl) (by kernel_rfl) (by kernel_rfl) (fun _ _ _ h => h) (Or.inl ⟨by rfl, ?_⟩) hHeld ?_
  rotate_left
  · intro w hSw
    obtain ⟨nd, rfl⟩ := hSw
    go_simp
    try with_reducible rfl
  try simp only [Act.put, List.setIfInBounds_toArray, List.set_cons_zero, List.set_cons_succ]
  refine wpAnyH_done (by kernel_rfl) ?_ _
  clear hHeld hl el c0 c1
  go_wp2_with fail
  go_ret2
  exact ⟨rfl, HIX.out.drew 1, below_drewN HBX.out 1⟩
set_option maxRecDepth 100000 in
set_option maxHeartbeats 16000000 in
theorem rput_new0 (w : World) (base b m : Nat) (most : Int) (S : List Td) (h : RibAt w base b m most S) (k : Pk) (label : Nat) (hk : k.Ok) (hlab : label < 4294967296) (a : Atr) (ha : AtrOk w a) (hm : nlMay (nlk k label)) (hc : atOk a.c = true) (hz : AtrSz a.c) (hlen : S.length < 1000) (hj : ∀ p ∈ S, p.k ≠ k) (hmost : ¬ 0 < most) :
    Calls Tryz.prog 13 #[.pointer (some ⟨b, 0, none⟩), .agg #[.int .i64 k.fam, .int .u64 k.rd, .string k.addr, .int .i64 k.len, .int .u32 (k.id : Nat), .int .u32 (label : Nat)], .agg a.ar] w fun e w' => (∃ a2 : Atr, a2.c = a.c ∧ e = .returned (.tuple #[.bool false, .int .i64 0]) ∧ RibAt w' base b m most (S ++ [⟨k, label, a2, false⟩]) ∧ AtO w' w.heap.size a2) ∧ GrownX (fun i => i = m) w w' := by
  have hn := nlk_ok hk hlab
  have HNC : Hid (∀ W, Calls Tryz.prog 35 #[.agg #[.int .i64 k.fam, .int .u64 k.rd, .string k.addr, .int .i64 k.len, .int .u32 (k.id : Nat), .int .u32 (label : Nat)]] W fun e w' => e = .returned (.int .i64 0) ∧ Below W.heap.size W w') := fun W => by
    have h := ncheck_any (nlk k label) hn W
    rwa [show nlC (nlk k label) = 0 from if_pos hm] at h
  have HRIB := Lib.hid h
  have HAOK := Lib.hid ha
  have lb := h.lt.1
  have lm := h.lt.2
  have N1 := h.ne
  have HCK : Hid (∀ W, AtrOk W a → Calls Tryz.prog 36 #[.agg a.ar] W fun e w' => e = .returned (.int .i64 0) ∧ Below W.heap.size W w') := fun W h1 => by
    have h := check_any a W h1
    rw [hc, show okN true = 0 from rfl] at h
    exact h
  have HKO := Lib.hid hk
  have HLAB := Lib.hid hlab
  have HSZ := Lib.hid hz
  have HCP : Hid (∀ W, AtrOk W a → Calls Tryz.prog 37 #[.agg a.ar] W fun e w' => (∃ a' : Atr, e = .returned (.agg a'.ar) ∧ AtO w' W.heap.size a' ∧ a'.c = a.c) ∧ Below W.heap.size W w') := fun W h1 => copy_any a W h1 hz
  clear hz
  have HLEN := Lib.hid (show S.length + 1 ≤ 1000 by omega)
  obtain ⟨kl, hkl⟩ := pk_key k hk
  have HKL := Lib.hid hkl
  have HJ := Lib.hid hj
  clear hkl hj
  have zm : decide (most > 0) = false := decide_eq_false hmost
  clear hmost hlen
  clear h ha hn hlab
  go_enter Tryz.func13, Tryz.ntmps13
  go_upto_region 1 with fail
  refine rb_name fun V0 hV0 => ?_
  obtain ⟨s, hs⟩ : ∃ s, s = w.heap.size := ⟨_, rfl⟩
  have HR0 : Hid (RibAt V0 base b m most S) := by rw [hV0]; exact (HRIB.out.alloc _).alloc _
  have HP0 : Hid (CellsAt V0 s #[.int .i64 k.fam, .int .u64 k.rd, .string k.addr, .int .i64 k.len, .int .u32 (k.id : Nat), .int .u32 (label : Nat)] 35) := by rw [hV0, hs]; exact (CellsAt.new _ _ _).alloc _
  have HQ0 : Hid (CellsAt V0 (s + 1) a.ar 41) := by
    have h := CellsAt.new (w.alloc (.cells #[.int .i64 k.fam, .int .u64 k.rd, .string k.addr, .int .i64 k.len, .int .u32 (k.id : Nat), .int .u32 (label : Nat)] 35)) a.ar 41
    rw [World.size_alloc] at h
    rw [hV0, hs]
    exact h
  have HB0 : Hid (Below w.heap.size w V0) := by rw [hV0]; exact ((Below.refl _ _).alloc (Nat.le_refl _) _).alloc (by simp) _
  have HS : Hid (s = w.heap.size) := hs
  rw [← hs]
  clear hV0 hs
  go_wp2_with fail
  refine (rnone_any b m most _ HR0.out.blk).mono ?_
  rintro e w2 ⟨rfl, hw2⟩
  subst w2
  obtain ⟨p0, p1, p2, p3, p4, p5⟩ := c6 HP0.out
  go_wp2_with fail
  refine (HNC.out _).mono ?_
  rintro e w3 ⟨rfl, hb3⟩
  have HR3 : Hid (RibAt w3 base b m most S) := HR0.out.below hb3
  have HP3 : Hid (CellsAt w3 s #[.int .i64 k.fam, .int .u64 k.rd, .string k.addr, .int .i64 k.len, .int .u32 (k.id : Nat), .int .u32 (label : Nat)] 35) := HP0.out.below hb3 HP0.out.lt
  have HQ3 : Hid (CellsAt w3 (s + 1) a.ar 41) := HQ0.out.below hb3 HQ0.out.lt
  have HB3 : Hid (Below w.heap.size w w3) := HB0.out.trans (hb3.mono HB0.out.size)
  clear hb3 p0 p1 p2 p3 p4 p5 HR0 HP0 HQ0 HB0
  go_wp2_with (with_reducible show wpList _ _ _ (_ :: _) _ _; refine rb_load_attrs_g (by kernel_rfl) (.tmp 5) rfl (s + 1) rfl a HQ3.out ?_)
  refine (HCK.out _ (HAOK.out.below HB3.out (Nat.le_refl _))).mono ?_
  rintro e w4 ⟨rfl, hb4⟩
  have HR4 : Hid (RibAt w4 base b m most S) := HR3.out.below hb4
  have HP4 : Hid (CellsAt w4 s #[.int .i64 k.fam, .int .u64 k.rd, .string k.addr, .int .i64 k.len, .int .u32 (k.id : Nat), .int .u32 (label : Nat)] 35) := HP3.out.below hb4 HP3.out.lt
  have HQ4 : Hid (CellsAt w4 (s + 1) a.ar 41) := HQ3.out.below hb4 HQ3.out.lt
  have HB4 : Hid (Below w.heap.size w w4) := HB3.out.trans (hb4.mono HB3.out.size)
  clear hb4 HR3 HP3 HQ3 HB3
  obtain ⟨p0, p1, p2, p3, p4, p5⟩ := c6 HP4.out
  go_upto_region 6 with fail
  refine rb_name fun V hV => ?_
  have HRV : Hid (RibAt V base b m most S) := by rw [hV]; exact HR4.out.alloc _
  have HBV : Hid (Below w.heap.size w V) := by rw [hV]; exact HB4.out.alloc HB4.out.size _
  have HPV : Hid (CellsAt V s #[.int .i64 k.fam, .int .u64 k.rd, .string k.addr, .int .i64 k.len, .int .u32 (k.id : Nat), .int .u32 (label : Nat)] 35) := by rw [hV]; exact HP4.out.alloc _
  have HQV : Hid (CellsAt V (s + 1) a.ar 41) := by rw [hV]; exact HQ4.out.alloc _
  obtain ⟨gp, hgp⟩ : ∃ gp, gp = w4.heap.size := ⟨_, rfl⟩
  have HKV : Hid (CellsAt V gp #[.int .i64 k.fam, .int .u64 k.rd, .string k.addr, .int .i64 k.len, .int .u32 (k.id : Nat)] 83) := by rw [hV, hgp]; exact CellsAt.new _ _ _
  have HGM : Hid (gp ≠ m) := by
    show _ ≠ _
    have := HB4.out.size
    omega
  rw [← hgp]
  have hsV : gp < V.heap.size := HKV.out.lt
  have hbV : b < V.heap.size := HRV.out.lt.1
  have hmV : m < V.heap.size := HRV.out.lt.2
  clear hV p0 p1 p2 p3 p4 p5 HP4 HR4 HB4 HQ4 hgp
  have HI : Hid ((fun w' => CellsAt w' b #[.int .i64 most, .map (some m)] 53 ∧ MapAt Tryz.prog 83 w' m (tdL S) ∧ CellsAt w' gp #[.int .i64 k.fam, .int .u64 k.rd, .string k.addr, .int .i64 k.len, .int .u32 (k.id : Nat)] 83 ∧ Below V.heap.size V w') V.drew) := ⟨HRV.out.blk.drew 1, HRV.out.map.drew 1, HKV.out.drew 1, below_drewN (Below.refl _ _) 1⟩
  refine wp_region_held_drew (S := fun w' => CellsAt w' b #[.int .i64 most, .map (some m)] 53 ∧ MapAt Tryz.prog 83 w' m (tdL S) ∧ CellsAt w' gp #[.int .i64 k.fam, .int .u64 k.rd, .string k.addr, .int .i64 k.len, .int .u32 (k.id : Nat)] 83 ∧ Below V.heap.size V w') (by kernel_rfl) (HI.out) (fun hHeld => ?_)
  refine wpAnyH_take (i := 0) (oi := { dst := some 29, op := Op.move (Operand.tmp 0), type := 23, pos := "adjin.go:72", after := #[], guard := none }) (v := ?_) rfl (by kernel_rfl) (by kernel_rfl) (by kernel_rfl) (fun _ _ _ h => h) (Or.inl ⟨by rfl, ?_⟩) hHeld ?_
  rotate_left
  · intro w hSw
    clear hSw
    go_simp
    try with_reducible rfl
  try simp only [Act.put, List.setIfInBounds_toArray, List.set_cons_zero, List.set_cons_succ]
  refine wpAnyH_take (i := 1) (oi := { dst := some 30, op := Op.nilCheck (Operand.tmp 29), type := 0, pos := "adjin.go:72", after := #[{ on := 0, ground := Ground.data }], guard := none }) (v := ?_) rfl (by kernel_rfl) (by kernel_rfl) (by kernel_rfl) (fun _ _ _ h => h) (Or.inl ⟨by rfl, ?_⟩) hHeld ?_
  rotate_left
  · intro w hSw
    clear hSw
    go_simp
    try with_reducible rfl
  try simp only [Act.put, List.setIfInBounds_toArray, List.set_cons_zero, List.set_cons_succ]
  refine wpAnyH_take (i := 2) (oi := { dst := some 31, op := Op.fieldAddr 53 (Operand.tmp 30) 1, type := 0, pos := "adjin.go:72", after := #[{ on := 1, ground := Ground.data }], guard := none }) (v := ?_) rfl (by kernel_rfl) (by kernel_rfl) (by kernel_rfl) (fun _ _ _ h => h) (Or.inl ⟨by rfl, ?_⟩) hHeld ?_
  rotate_left
  · intro w hSw
    clear hSw
    go_simp
    try with_reducible rfl
  try simp only [Act.put, List.setIfInBounds_toArray, List.set_cons_zero, List.set_cons_succ]
  refine wpAnyH_take (i := 3) (oi := { dst := some 32, op := Op.load 51 (Operand.tmp 31), type := 51, pos := "adjin.go:72", after := #[{ on := 2, ground := Ground.data }], guard := none }) (v := ?_) rfl (by kernel_rfl) (by kernel_rfl) (by kernel_rfl) (fun _ _ _ h => h) (Or.inl ⟨by rfl, ?_⟩) hHeld ?_
  rotate_left
  · intro w hSw
    obtain ⟨q1, q2, q3, q4⟩ := hSw
    obtain ⟨c0, c1⟩ := q1.c2
    obtain ⟨k0, k1, k2, k3, k4⟩ := q3.c5
    go_simp
    try with_reducible rfl
  try simp only [Act.put, List.setIfInBounds_toArray, List.set_cons_zero, List.set_cons_succ]
  refine wpAnyH_take (i := 4) (oi := { dst := some 33, op := Op.load 83 (Operand.tmp 8), type := 83, pos := "adjin.go:72", after := #[], guard := none }) (v := ?_) rfl (by kernel_rfl) (by kernel_rfl) (by kernel_rfl) (fun _ _ _ h => h) (Or.inl ⟨by rfl, ?_⟩) hHeld ?_
  rotate_left
  · intro w hSw
    obtain ⟨q1, q2, q3, q4⟩ := hSw
    obtain ⟨c0, c1⟩ := q1.c2
    obtain ⟨k0, k1, k2, k3, k4⟩ := q3.c5
    go_simp
    try with_reducible rfl
  try simp only [Act.put, List.setIfInBounds_toArray, List.set_cons_zero, List.set_cons_succ]
  refine wpAnyH_take (i := 5) (oi := { dst := some 34, op := Op.lookup 51 (Operand.tmp 32) (Operand.tmp 33) true, type := 94, pos := "adjin.go:72", after := #[{ on := 3, ground := Ground.data }, { on := 4, ground := Ground.data }], guard := none }) (v := ?_) rfl (by kernel_rfl) (by kernel_rfl) (by kernel_rfl) (fun _ _ _ h => h) (Or.inl ⟨by rfl, ?_⟩) hHeld ?_
  rotate_left
  · intro w hSw
    obtain ⟨q1, q2, q3, q4⟩ := hSw
    have hlk := q2.lookup_none (t := 51) pkLaw Tryz.underlying51 (zero_td _) HKL.out (tdL_no HJ.out)
    unfold Pk.v at hlk
    go_simp
    try with_reducible rfl
  try simp only [Act.put, List.setIfInBounds_toArray, List.set_cons_zero, List.set_cons_succ]
  refine wpAnyH_take (i := 6) (oi := { dst := some 28, op := Op.move (Operand.tmp 34), type := 94, pos := "adjin.go:72", after := #[{ on := 5, ground := Ground.data }], guard := none }) (v := ?_) rfl (by kernel_rfl) (by kernel_rfl) (by kernel_rfl) (fun _ _ _ h => h) (Or.inl ⟨by rfl, ?_⟩) hHeld ?_
  rotate_left
  · intro w hSw
    clear hSw
    go_simp
    try with_reducible rfl
  try simp only [Act.put, List.setIfInBounds_toArray, List.set_cons_zero, List.set_cons_succ]
  refine wpAnyH_take (i := 7) (oi := { dst := some 35, op := Op.extract (Operand.tmp 28) 0, type := 86, pos := "adjin.go:72", after := #[{ on := 6, ground := Ground.data }], guard := none }) (v := ?_) rfl (by kernel_rfl) (by kernel_rfl) (by kernel_rfl) (fun _ _ _ h => h) (Or.inl ⟨by rfl, ?_⟩) hHeld ?_
  rotate_left
  · intro w hSw
    clear hSw
    go_simp
    try with_reducible rfl
  try simp only [Act.put, List.setIfInBounds_toArray, List.set_cons_zero, List.set_cons_succ]
  refine wpAnyH_take (i := 8) (oi := { dst := some 36, op := Op.extract (Operand.tmp 28) 1, type := 4, pos := "adjin.go:72", after := #[{ on := 6, ground := Ground.data }, { on := 10, ground := Ground.gcOnly Departure.lateStores }], guard := none }) (v := ?_) rfl (by kernel_rfl) (by kernel_rfl) (by kernel_rfl) (fun _ _ _ h => h) (Or.inl ⟨by rfl, ?_⟩) hHeld ?_
  rotate_left
  · intro w hSw
    clear hSw
    go_simp
    try with_reducible rfl
  try simp only [Act.put, List.setIfInBounds_toArray, List.set_cons_zero, List.set_cons_succ]
  refine wpAnyH_ready (rs := [9]) (by kernel_rfl) (by simp) ?_
  refine AllReadyH.cons (o := { dst := some 9, op := Op.alloc 86, type := 0, pos := "adjin.go:72", after := #[], guard := none }) rfl (fun K hK => ?_) AllReadyH.nil
  go_simp
  skip
  refine hK.out _ _ (And.intro (hHeld.1.alloc _) (And.intro (hHeld.2.1.alloc _) (And.intro (hHeld.2.2.1.alloc _) (hHeld.2.2.2.alloc hHeld.2.2.2.size _)))) (fun hHeld => ?_)
  clear hK K
  try simp only [Act.put, List.setIfInBounds_toArray, List.set_cons_zero, List.set_cons_succ]
  refine wpAnyH_ready (rs := [10]) (by kernel_rfl) (by simp) ?_
  refine AllReadyH.cons (o := { dst := none, op := Op.store 86 (Operand.tmp 9) (Operand.tmp 35), type := 0, pos := "adjin.go:72", after := #[{ on := 9, ground := Ground.data }, { on := 7, ground := Ground.data }, { on := 0, ground := Ground.phase }, { on := 1, ground := Ground.phase }, { on := 2, ground := Ground.phase }, { on := 3, ground := Ground.phase }, { on := 4, ground := Ground.phase }, { on := 5, ground := Ground.phase }, { on := 6, ground := Ground.phase }, { on := 7, ground := Ground.phase }, { on := 8, ground := Ground.textOnly Departure.lateStores }, { on := 9, ground := Ground.phase }], guard := none }) rfl (fun K hK => ?_) AllReadyH.nil
  refine wp_store_row 86 (.tmp 9) (.tmp 35) rfl V.heap.size (Td.mk noPk 0 noAtr false).ar rfl rfl 86 _ (CellsAt.new V.drew _ _) (by rw [told_size]; rfl) rfl (told_ones _) ?_
  refine hK.out _ _ (And.intro (hHeld.1.row (grown_setRow' _ _ _) (Nat.ne_of_lt hbV)) (And.intro (hHeld.2.1.rowB _ (Nat.ne_of_lt hmV)) (And.intro (hHeld.2.2.1.row (grown_setRow' _ _ _) (Nat.ne_of_lt hsV)) (hHeld.2.2.2.grown (grown_setRow' _ _ _) hHeld.2.2.2.size (fun q hq => by cases hq; exact Nat.le_refl _))))) (fun hHeld => ?_)
  clear hK K
  try simp only [Act.put, List.setIfInBounds_toArray, List.set_cons_zero, List.set_cons_succ]
  refine wpAnyH_take (i := 11) (oi := { dst := some 10, op := Op.assign (Operand.tmp 36), type := 4, pos := "adjin.go:72", after := #[{ on := 8, ground := Ground.data }, { on := 10, ground := Ground.chain }, { on := 0, ground := Ground.phase }, { on := 1, ground := Ground.phase }, { on := 2, ground := Ground.phase }, { on := 3, ground := Ground.phase }, { on := 4, ground := Ground.phase }, { on := 5, ground := Ground.phase }, { on := 6, ground := Ground.phase }, { on := 7, ground := Ground.phase }, { on := 8, ground := Ground.phase }, { on := 9, ground := Ground.phase }, { on := 10, ground := Ground.phase }], guard := none }) (v := ?_) rfl (by kernel_rfl) (by kernel_rfl) (by kernel_rfl) (fun _ _ _ h => h) (Or.inl ⟨by rfl, ?_⟩) hHeld ?_
  rotate_left
  · intro w hSw
    clear hSw
    go_simp
    try with_reducible rfl
  try simp only [Act.put, List.setIfInBounds_toArray, List.set_cons_zero, List.set_cons_succ]
  refine wpAnyH_done (by kernel_rfl) ?_ _
  have HH := Lib.hid hHeld
  clear hHeld
  go_upto_region 7 with fail
  refine rb_name fun X hX => ?_
  have HRX : Hid (Below V.heap.size V X) := by rw [hX]; exact HH.out.2.2.2
  have HKX : Hid (CellsAt X gp #[.int .i64 k.fam, .int .u64 k.rd, .string k.addr, .int .i64 k.len, .int .u32 (k.id : Nat)] 83) := by rw [hX]; exact HH.out.2.2.1
  have HIX : Hid (RibAt X base b m most S) := HRV.out.below HRX.out
  have HPX : Hid (CellsAt X s #[.int .i64 k.fam, .int .u64 k.rd, .string k.addr, .int .i64 k.len, .int .u32 (k.id : Nat), .int .u32 (label : Nat)] 35) := HPV.out.below HRX.out HPV.out.lt
  have HQX : Hid (CellsAt X (s + 1) a.ar 41) := HQV.out.below HRX.out HQV.out.lt
  have HBX : Hid (Below w.heap.size w X) := HBV.out.trans (HRX.out.mono HBV.out.size)
  clear hX HH hsV hbV hmV HRV HPV HQV HKV HRX HBV HI
  have hl := fun nd => (HIX.out.map.drew nd).len_ (t := 51) Tryz.underlying51 3
  have el : (tdL S).length = S.length := by simp [tdL]
  rw [el] at hl
  obtain ⟨c0, c1⟩ := HIX.out.blk.c2
  refine wp_region_held_drew (S := fun w' => ∃ n, w' = X.drewN n) (by kernel_rfl) (⟨1, rfl⟩) (fun hHeld => ?_)
  refine wpAnyH_take (i := 0) (oi := { dst := some 37, op := Op.move (Operand.tmp 10), type := 4, pos := "adjin.go:72", after := #[], guard := none }) (v := ?_) rfl (by kernel_rfl) (by kernel_rfl) (by kernel_rfl) (fun _ _ _ h => h) (Or.inl ⟨by rfl, ?_⟩) hHeld ?_
  rotate_left
  · intro w hSw
    obtain ⟨nd, rfl⟩ := hSw
    go_simp
    try with_reducible rfl
  try simp only [Act.put, List.setIfInBounds_toArray, List.set_cons_zero, List.set_cons_succ]
  refine wpAnyH_take (i := 1) (oi := { dst := some 38, op := Op.unOp UnOp.not 4 (Operand.tmp 37), type := 4, pos := "adjin.go:72", after := #[{ on := 0, ground := Ground.data }], guard := none }) (v := ?_) rfl (by kernel_rfl) (by kernel_rfl) (by kernel_rfl) (fun _ _ _ h => h) (Or.inl ⟨by rfl, ?_⟩) hHeld ?_
  rotate_left
  · intro w hSw
    obtain ⟨nd, rfl⟩ := hSw
    go_simp
    try with_reducible rfl
  try simp only [Act.put, List.setIfInBounds_toArray, List.set_cons_zero, List.set_cons_succ]
  refine wpAnyH_take (i := 2) (oi := { dst := some 39, op := Op.move (Operand.tmp 38), type := 4, pos := "adjin.go:72", after := #[{ on := 1, ground := Ground.data }], guard := none }) (v := ?_) rfl (by kernel_rfl) (by kernel_rfl) (by kernel_rfl) (fun _ _ _ h => h) (Or.inl ⟨by rfl, ?_⟩) hHeld ?_
  rotate_left
  · intro w hSw
    obtain ⟨nd, rfl⟩ := hSw
    go_simp
    try with_reducible rfl
  try simp only [Act.put, List.setIfInBounds_toArray, List.set_cons_zero, List.set_cons_succ]
  refine wpAnyH_take (i := 3) (oi := { dst := some 40, op := Op.move (Operand.tmp 0), type := 23, pos := "adjin.go:72", after := #[{ on := 2, ground := Ground.guard }], guard := some (2, true) }) (v := ?_) rfl (by kernel_rfl) (by kernel_rfl) (by kernel_rfl) (fun _ _ _ h => h) (Or.inl ⟨by rfl, ?_⟩) hHeld ?_
  rotate_left
  · intro w hSw
    obtain ⟨nd, rfl⟩ := hSw
    go_simp
    try with_reducible rfl
  try simp only [Act.put, List.setIfInBounds_toArray, List.set_cons_zero, List.set_cons_succ]
  refine wpAnyH_take (i := 4) (oi := { dst := some 41, op := Op.nilCheck (Operand.tmp 40), type := 0, pos := "adjin.go:72", after := #[{ on := 3, ground := Ground.data }, { on := 2, ground := Ground.guard }], guard := some (2, true) }) (v := ?_) rfl (by kernel_rfl) (by kernel_rfl) (by kernel_rfl) (fun _ _ _ h => h) (Or.inl ⟨by rfl, ?_⟩) hHeld ?_
  rotate_left
  · intro w hSw
    obtain ⟨nd, rfl⟩ := hSw
    go_simp
    try with_reducible rfl
  try simp only [Act.put, List.setIfInBounds_toArray, List.set_cons_zero, List.set_cons_succ]
  refine wpAnyH_take (i := 5) (oi := { dst := some 42, op := Op.fieldAddr 53 (Operand.tmp 41) 0, type := 0, pos := "adjin.go:72", after := #[{ on := 4, ground := Ground.data }, { on := 2, ground := Ground.guard }], guard := some (2, true) }) (v := ?_) rfl (by kernel_rfl) (by kernel_rfl) (by kernel_rfl) (fun _ _ _ h => h) (Or.inl ⟨by rfl, ?_⟩) hHeld ?_
  rotate_left
  · intro w hSw
    obtain ⟨nd, rfl⟩ := hSw
    go_simp
    try with_reducible rfl
  try simp only [Act.put, List.setIfInBounds_toArray, List.set_cons_zero, List.set_cons_succ]
  refine wpAnyH_take (i := 6) (oi := { dst := some 43, op := Op.load 3 (Operand.tmp 42), type := 3, pos := "adjin.go:72", after := #[{ on := 5, ground := Ground.data }, { on := 2, ground := Ground.guard }], guard := some (2, true) }) (v := ?_) rfl (by kernel_rfl) (by kernel_rfl) (by kernel_rfl) (fun _ _ _ h => h) (Or.inl ⟨by rfl, ?_⟩) hHeld ?_
  rotate_left
  · intro w hSw
    obtain ⟨nd, rfl⟩ := hSw
    go_simp
    try with_reducible rfl
  try simp only [Act.put, List.setIfInBounds_toArray, List.set_cons_zero, List.set_cons_succ]
  refine wpAnyH_take (i := 7) (oi := { dst := some 44, op := Op.binOp BinOp.gtr 3 (Operand.tmp 43) (Operand.const (Value.int IntKind.i64 0)) 3, type := 4, pos := "adjin.go:72", after := #[{ on := 6, ground := Ground.data }, { on := 2, ground := Ground.guard }], guard := some (2, true) }) (v := ?_) rfl (by kernel_rfl) (by kernel_rfl) (by kernel_rfl) (fun _ _ _ h => h) (Or.inl ⟨by rfl, ?_⟩) hHeld ?_
  rotate_left
  · intro w hSw
    obtain ⟨nd, rfl⟩ := hSw
    go_simp
    try with_reducible rfl
  try simp only [Act.put, List.setIfInBounds_toArray, List.set_cons_zero, List.set_cons_succ]
  refine wpAnyH_take (i := 8) (oi := { dst := some 45, op := Op.pick (Operand.tmp 39) (Operand.tmp 44) (Operand.const (Value.bool false)), type := 4, pos := "adjin.go:72", after := #[{ on := 2, ground := Ground.data }, { on := 7, ground := Ground.data }], guard := none }) (v := ?_) rfl (by kernel_rfl) (by kernel_rfl) (by kernel_rfl) (fun _ _ _ h => h) (Or.inl ⟨by rfl, ?_⟩) hHeld ?_
  rotate_left
  · intro w hSw
    obtain ⟨nd, rfl⟩ := hSw
    go_simp
    try with_reducible rfl
  try simp only [Act.put, List.setIfInBounds_toArray, List.set_cons_zero, List.set_cons_succ]
  refine wpAnyH_take (i := 9) (oi := { dst := some 46, op := Op.move (Operand.tmp 45), type := 4, pos := "adjin.go:72", after := #[{ on := 8, ground := Ground.data }, { on := 2, ground := Ground.chain }], guard := none }) (v := ?_) rfl (by kernel_rfl) (by kernel_rfl) (by kernel_rfl) (fun _ _ _ h => h) (Or.inl ⟨by rfl, ?_⟩) hHeld ?_
  rotate_left
  · intro w hSw
    obtain ⟨nd, rfl⟩ := hSw
    go_simp
    try with_reducible rfl
  try simp only [Act.put, List.setIfInBounds_toArray, List.set_cons_zero, List.set_cons_succ]
  refine wpAnyH_take (i := 10) (oi := { dst := some 47, op := Op.move (Operand.tmp 0), type := 23, pos := "adjin.go:72", after := #[{ on := 9, ground := Ground.guard }], guard := some (9, true) }) (v := undef) rfl (by kernel_rfl) (by kernel_rfl) (by kernel_rfl) (fun _ _ _ h => h) (Or.inr ⟨by rfl, rfl⟩) hHeld ?_
  try simp only [Act.put, List.setIfInBounds_toArray, List.set_cons_zero, List.set_cons_succ]
  refine wpAnyH_take (i := 11) (oi := { dst := some 48, op := Op.nilCheck (Operand.tmp 47), type := 0, pos := "adjin.go:72", after := #[{ on := 10, ground := Ground.data }, { on := 9, ground := Ground.guard }], guard := some (9, true) }) (v := undef) rfl (by kernel_rfl) (by kernel_rfl) (by kernel_rfl) (fun _ _ _ h => h) (Or.inr ⟨by rfl, rfl⟩) hHeld ?_
  try simp only [Act.put, List.setIfInBounds_toArray, List.set_cons_zero, List.set_cons_succ]
  refine wpAnyH_take (i := 12) (oi := { dst := some 49, op := Op.fieldAddr 53 (Operand.tmp 48) 1, type := 0, pos := "adjin.go:72", after := #[{ on := 11, ground := Ground.data }, { on := 9, ground := Ground.guard }], guard := some (9, true) }) (v := undef) rfl (by kernel_rfl) (by kernel_rfl) (by kernel_rfl) (fun _ _ _ h => h) (Or.inr ⟨by rfl, rfl⟩) hHeld ?_
  try simp only [Act.put, List.setIfInBounds_toArray, List.set_cons_zero, List.set_cons_succ]
  refine wpAnyH_take (i := 13) (oi := { dst := some 50, op := Op.load 51 (Operand.tmp 49), type := 51, pos := "adjin.go:72", after := #[{ on := 12, ground := Ground.data }, { on := 9, ground := Ground.guard }], guard := some (9, true) }) (v := undef) rfl (by kernel_rfl) (by kernel_rfl) (by kernel_rfl) (fun _ _ _ h => h) (Or.inr ⟨by rfl, rfl⟩) hHeld ?_
  try simp only [Act.put, List.setIfInBounds_toArray, List.set_cons_zero, List.set_cons_succ]
  refine wpAnyH_take (i := 14) (oi := { dst := some 51, op := Op.call { callee := Callee.builtin Builtin.len, args := #[Operand.tmp 50], argTypes := #[51] }, type := 3, pos := "adjin.go:72", after := #[{ on := 13, ground := Ground.data }, { on := 9, ground := Ground.chain }, { on := 9, ground := Ground.guard }], guard := some (9, true) }) (v := undef) rfl (by kernel_rfl) (by kernel_rfl) (by kernel_rfl) (fun _ _ _ h => h) (Or.inr ⟨by rfl, rfl⟩) hHeld ?_
  try simp only [Act.put, List.setIfInBounds_toArray, List.set_cons_zero, List.set_cons_succ]
  refine wpAnyH_take (i := 15) (oi := { dst := some 52, op := Op.move (Operand.tmp 0), type := 23, pos := "adjin.go:72", after := #[{ on := 9, ground := Ground.guard }], guard := some (9, true) }) (v := undef) rfl (by kernel_rfl) (by kernel_rfl) (by kernel_rfl) (fun _ _ _ h => h) (Or.inr ⟨by rfl, rfl⟩) hHeld ?_
  try simp only [Act.put, List.setIfInBounds_toArray, List.set_cons_zero, List.set_cons_succ]
  refine wpAnyH_take (i := 16) (oi := { dst := some 53, op := Op.nilCheck (Operand.tmp 52), type := 0, pos := "adjin.go:72", after := #[{ on := 15, ground := Ground.data }, { on := 9, ground := Ground.guard }], guard := some (9, true) }) (v := undef) rfl (by kernel_rfl) (by kernel_rfl) (by kernel_rfl) (fun _ _ _ h => h) (Or.inr ⟨by rfl, rfl⟩) hHeld ?_
  try simp only [Act.put, List.setIfInBounds_toArray, List.set_cons_zero, List.set_cons_succ]
  refine wpAnyH_take (i := 17) (oi := { dst := some 54, op := Op.fieldAddr 53 (Operand.tmp 53) 0, type := 0, pos := "adjin.go:72", after := #[{ on := 16, ground := Ground.data }, { on := 9, ground := Ground.guard }], guard := some (9, true) }) (v := undef) rfl (by kernel_rfl) (by kernel_rfl) (by kernel_rfl) (fun _ _ _ h => h) (Or.inr ⟨by rfl, rfl⟩) hHeld ?_
  try simp only [Act.put, List.setIfInBounds_toArray, List.set_cons_zero, List.set_cons_succ]
  refine wpAnyH_take (i := 18) (oi := { dst := some 55, op := Op.load 3 (Operand.tmp 54), type := 3, pos := "adjin.go:72", after := #[{ on := 17, ground := Ground.data }, { on := 9, ground := Ground.guard }], guard := some (9, true) }) (v := undef) rfl (by kernel_rfl) (by kernel_rfl) (by kernel_rfl) (fun _ _ _ h => h) (Or.inr ⟨by rfl, rfl⟩) hHeld ?_
  try simp only [Act.put, List.setIfInBounds_toArray, List.set_cons_zero, List.set_cons_succ]
  refine wpAnyH_take (i := 19) (oi := { dst := some 56, op := Op.binOp BinOp.geq 3 (Operand.tmp 51) (Operand.tmp 55) 3, type := 4, pos := "adjin.go:72", after := #[{ on := 14, ground := Ground.data }, { on := 18, ground := Ground.data }, { on := 9, ground := Ground.guard }], guard := some (9, true) }) (v := undef) rfl (by kernel_rfl) (by kernel_rfl) (by kernel_rfl) (fun _ _ _ h => h) (Or.inr ⟨by rfl, rfl⟩) hHeld ?_
  try simp only [Act.put, List.setIfInBounds_toArray, List.set_cons_zero, List.set_cons_succ]
  refine wpAnyH_take (i := 20) (oi := { dst := some 57, op := Op.pick (Operand.tmp 46) (Operand.tmp 56) (Operand.const (Value.bool false)), type := 4, pos := "adjin.go:72", after := #[{ on := 9, ground := Ground.data }, { on := 19, ground := Ground.data }], guard := none }) (v := ?_) rfl (by kernel_rfl) (by kernel_rfl) (by kernel_rfl) (fun _ _ _ h => h) (Or.inl ⟨by rfl, ?_⟩) hHeld ?_
  rotate_left
  · intro w hSw
    obtain ⟨nd, rfl⟩ := hSw
    go_simp
    try with_reducible rfl
  try simp only [Act.put, List.setIfInBounds_toArray, List.set_cons_zero, List.set_cons_succ]
  refine wpAnyH_done (by kernel_rfl) ?_ _
  clear hHeld hl el c0 c1
  go_upto_region 9 with fail
  refine rb_name fun Z hZ => ?_
  have HIZ : Hid (RibAt Z base b m most S) := by rw [hZ]; exact HIX.out.drew 1
  have HKZ : Hid (CellsAt Z gp #[.int .i64 k.fam, .int .u64 k.rd, .string k.addr, .int .i64 k.len, .int .u32 (k.id : Nat)] 83) := by rw [hZ]; exact HKX.out.drew 1
  have HPZ : Hid (CellsAt Z s #[.int .i64 k.fam, .int .u64 k.rd, .string k.addr, .int .i64 k.len, .int .u32 (k.id : Nat), .int .u32 (label : Nat)] 35) := by rw [hZ]; exact HPX.out.drew 1
  have HQZ : Hid (CellsAt Z (s + 1) a.ar 41) := by rw [hZ]; exact HQX.out.drew 1
  have HBZ : Hid (Below w.heap.size w Z) := by rw [hZ]; exact below_drewN HBX.out 1
  clear hZ HIX HKX HPX HQX HBX
  have NS0 : s ≠ m := by have := HS.out; omega
  have NS1 : s + 1 ≠ m := by have := HS.out; omega
  have HMX : Hid (MapAt Tryz.prog 83 Z.drew m (tdL S)) := HIZ.out.map.drew 1
  have HAD : Hid (AtrOk Z.drew a) := HAOK.out.below (below_drewN HBZ.out 1) (Nat.le_refl _)
  have HI9 : Hid ((fun w' => CellsAt w' b #[.int .i64 most, .map (some m)] 53 ∧ (∃ L, MapAt Tryz.prog 83 w' m L) ∧ CellsAt w' gp #[.int .i64 k.fam, .int .u64 k.rd, .string k.addr, .int .i64 k.len, .int .u32 (k.id : Nat)] 83 ∧ CellsAt w' s #[.int .i64 k.fam, .int .u64 k.rd, .string k.addr, .int .i64 k.len, .int .u32 (k.id : Nat), .int .u32 (label : Nat)] 35 ∧ CellsAt w' (s + 1) a.ar 41) Z.drew) := ⟨HIZ.out.blk.drew 1, ⟨_, HMX.out⟩, HKZ.out.drew 1, HPZ.out.drew 1, HQZ.out.drew 1⟩
  refine wp_region_held_drew (S := fun w' => CellsAt w' b #[.int .i64 most, .map (some m)] 53 ∧ (∃ L, MapAt Tryz.prog 83 w' m L) ∧ CellsAt w' gp #[.int .i64 k.fam, .int .u64 k.rd, .string k.addr, .int .i64 k.len, .int .u32 (k.id : Nat)] 83 ∧ CellsAt w' s #[.int .i64 k.fam, .int .u64 k.rd, .string k.addr, .int .i64 k.len, .int .u32 (k.id : Nat), .int .u32 (label : Nat)] 35 ∧ CellsAt w' (s + 1) a.ar 41) (by kernel_rfl) (HI9.out) (fun hHeld => ?_)
  refine wpAnyH_take (i := 0) (oi := { dst := some 58, op := Op.move (Operand.tmp 0), type := 23, pos := "adjin.go:75", after := #[], guard := none }) (v := ?_) rfl (by kernel_rfl) (by kernel_rfl) (by kernel_rfl) (fun _ _ _ h => h) (Or.inl ⟨by rfl, ?_⟩) hHeld ?_
  rotate_left
  · intro w hSw
    clear hSw
    go_simp
    try with_reducible rfl
  try simp only [Act.put, List.setIfInBounds_toArray, List.set_cons_zero, List.set_cons_succ]
  refine wpAnyH_take (i := 1) (oi := { dst := some 59, op := Op.nilCheck (Operand.tmp 58), type := 0, pos := "adjin.go:75", after := #[{ on := 0, ground := Ground.data }], guard := none }) (v := ?_) rfl (by kernel_rfl) (by kernel_rfl) (by kernel_rfl) (fun _ _ _ h => h) (Or.inl ⟨by rfl, ?_⟩) hHeld ?_
  rotate_left
  · intro w hSw
    clear hSw
    go_simp
    try with_reducible rfl
  try simp only [Act.put, List.setIfInBounds_toArray, List.set_cons_zero, List.set_cons_succ]
  refine wpAnyH_take (i := 2) (oi := { dst := some 60, op := Op.fieldAddr 53 (Operand.tmp 59) 1, type := 0, pos := "adjin.go:75", after := #[{ on := 1, ground := Ground.data }], guard := none }) (v := ?_) rfl (by kernel_rfl) (by kernel_rfl) (by kernel_rfl) (fun _ _ _ h => h) (Or.inl ⟨by rfl, ?_⟩) hHeld ?_
  rotate_left
  · intro w hSw
    clear hSw
    go_simp
    try with_reducible rfl
  try simp only [Act.put, List.setIfInBounds_toArray, List.set_cons_zero, List.set_cons_succ]
  refine wpAnyH_take (i := 3) (oi := { dst := some 61, op := Op.load 51 (Operand.tmp 60), type := 51, pos := "adjin.go:75", after := #[{ on := 2, ground := Ground.data }], guard := none }) (v := ?_) rfl (by kernel_rfl) (by kernel_rfl) (by kernel_rfl) (fun _ _ _ h => h) (Or.inl ⟨by rfl, ?_⟩) hHeld ?_
  rotate_left
  · intro w hSw
    obtain ⟨q1, q2, q3, q4, q5⟩ := hSw
    obtain ⟨c0, c1⟩ := q1.c2
    obtain ⟨k0, k1, k2, k3, k4⟩ := q3.c5
    obtain ⟨n0, n1, n2, n3, n4, n5⟩ := c6 q4
    go_simp
    try with_reducible rfl
  try simp only [Act.put, List.setIfInBounds_toArray, List.set_cons_zero, List.set_cons_succ]
  refine wpAnyH_take (i := 4) (oi := { dst := some 62, op := Op.load 83 (Operand.tmp 8), type := 83, pos := "adjin.go:75", after := #[], guard := none }) (v := ?_) rfl (by kernel_rfl) (by kernel_rfl) (by kernel_rfl) (fun _ _ _ h => h) (Or.inl ⟨by rfl, ?_⟩) hHeld ?_
  rotate_left
  · intro w hSw
    obtain ⟨q1, q2, q3, q4, q5⟩ := hSw
    obtain ⟨c0, c1⟩ := q1.c2
    obtain ⟨k0, k1, k2, k3, k4⟩ := q3.c5
    obtain ⟨n0, n1, n2, n3, n4, n5⟩ := c6 q4
    go_simp
    try with_reducible rfl
  try simp only [Act.put, List.setIfInBounds_toArray, List.set_cons_zero, List.set_cons_succ]
  refine wpAnyH_take (i := 5) (oi := { dst := some 63, op := Op.fieldAddr 35 (Operand.tmp 4) 2, type := 0, pos := "adjin.go:75", after := #[], guard := none }) (v := ?_) rfl (by kernel_rfl) (by kernel_rfl) (by kernel_rfl) (fun _ _ _ h => h) (Or.inl ⟨by rfl, ?_⟩) hHeld ?_
  rotate_left
  · intro w hSw
    clear hSw
    go_simp
    try with_reducible rfl
  try simp only [Act.put, List.setIfInBounds_toArray, List.set_cons_zero, List.set_cons_succ]
  refine wpAnyH_take (i := 6) (oi := { dst := some 64, op := Op.load 33 (Operand.tmp 63), type := 33, pos := "adjin.go:75", after := #[{ on := 5, ground := Ground.data }], guard := none }) (v := ?_) rfl (by kernel_rfl) (by kernel_rfl) (by kernel_rfl) (fun _ _ _ h => h) (Or.inl ⟨by rfl, ?_⟩) hHeld ?_
  rotate_left
  · intro w hSw
    obtain ⟨q1, q2, q3, q4, q5⟩ := hSw
    obtain ⟨c0, c1⟩ := q1.c2
    obtain ⟨k0, k1, k2, k3, k4⟩ := q3.c5
    obtain ⟨n0, n1, n2, n3, n4, n5⟩ := c6 q4
    go_simp
    try with_reducible rfl
  try simp only [Act.put, List.setIfInBounds_toArray, List.set_cons_zero, List.set_cons_succ]
  refine wpAnyH_take (i := 7) (oi := { dst := some 65, op := Op.load 41 (Operand.tmp 5), type := 41, pos := "adjin.go:75", after := #[], guard := none }) (v := Value.agg a.ar) rfl (by kernel_rfl) (by kernel_rfl) (by kernel_rfl) (fun _ _ _ h => h) (yields_attrs0 (by rfl) _ rfl (s + 1) (by rfl) a (fun w h => h.2.2.2.2)) hHeld ?_
  try simp only [Act.put, List.setIfInBounds_toArray, List.set_cons_zero, List.set_cons_succ]
  refine wpAnyH_ready (rs := [8]) (by kernel_rfl) (by simp) ?_
  refine AllReadyH.cons (o := { dst := some 66, op := Op.call { callee := Callee.value (Operand.func 37), args := #[Operand.tmp 65], argTypes := #[41] }, type := 41, pos := "adjin.go:75", after := #[{ on := 7, ground := Ground.data }], guard := none }) rfl (fun K hK => ?_) AllReadyH.nil
  go_simp
  refine (HCP.out _ HAD.out).mono ?_
  rintro e w9 ⟨⟨a2, rfl, ho2, hc2⟩, hw9⟩
  have hm9 := HMX.out.below hw9 HMX.out.lt
  obtain ⟨W1, e1, g1, M1, z1⟩ := hm9.update_new (t := 51) pkLaw Tryz.underlying51 HKL.out (tdL_no HJ.out) (Td.mk k label a2 false).v
  unfold Pk.v Td.v Td.ar at e1
  dsimp only at e1
  unfold Atr.ar
  refine hK.out _ _ (And.intro (hHeld.1.below hw9 hHeld.1.lt) (And.intro ⟨_, hm9⟩ (And.intro (hHeld.2.2.1.below hw9 hHeld.2.2.1.lt) (And.intro (hHeld.2.2.2.1.below hw9 hHeld.2.2.2.1.lt) (hHeld.2.2.2.2.below hw9 hHeld.2.2.2.2.lt))))) (fun hHeld => ?_)
  clear hK K
  try simp only [Act.put, List.setIfInBounds_toArray, List.set_cons_zero, List.set_cons_succ]
  refine wpAnyH_take (i := 9) (oi := { dst := some 67, op := Op.build 86 #[(0, Operand.tmp 64), (1, Operand.tmp 66)], type := 86, pos := "adjin.go:75", after := #[{ on := 6, ground := Ground.data }, { on := 8, ground := Ground.data }], guard := none }) (v := ?_) rfl (by kernel_rfl) (by kernel_rfl) (by kernel_rfl) (fun _ _ _ h => h) (Or.inl ⟨by rfl, ?_⟩) hHeld ?_
  rotate_left
  · intro w hSw
    clear hSw
    go_simp
    try with_reducible rfl
  try simp only [Act.put, List.setIfInBounds_toArray, List.set_cons_zero, List.set_cons_succ]
  refine wpAnyH_ready (rs := [10]) (by kernel_rfl) (by simp) ?_
  refine AllReadyH.cons (o := { dst := none, op := Op.mapUpdate 51 (Operand.tmp 61) (Operand.tmp 62) (Operand.tmp 67), type := 0, pos := "adjin.go:75", after := #[{ on := 3, ground := Ground.data }, { on := 4, ground := Ground.data }, { on := 9, ground := Ground.data }, { on := 8, ground := Ground.chain }, { on := 0, ground := Ground.phase }, { on := 1, ground := Ground.phase }, { on := 2, ground := Ground.phase }, { on := 3, ground := Ground.phase }, { on := 4, ground := Ground.phase }, { on := 5, ground := Ground.phase }, { on := 6, ground := Ground.phase }, { on := 7, ground := Ground.phase }, { on := 8, ground := Ground.phase }, { on := 9, ground := Ground.phase }], guard := none }) rfl (fun K hK => ?_) AllReadyH.nil
  go_simp
  skip
  refine hK.out _ _ (And.intro (hHeld.1.row g1 N1) (And.intro ⟨_, M1⟩ (And.intro (hHeld.2.2.1.row g1 HGM.out) (And.intro (hHeld.2.2.2.1.row g1 NS0) (hHeld.2.2.2.2.row g1 NS1))))) (fun hHeld => ?_)
  clear hK K
  try simp only [Act.put, List.setIfInBounds_toArray, List.set_cons_zero, List.set_cons_succ]
  refine wpAnyH_done (by kernel_rfl) ?_ _
  have G9 : Hid (RibAt w9 base b m most S) := (HIZ.out.drew 1).below hw9
  have HB9 : Hid (Below w.heap.size w w9) := (below_drewN HBZ.out 1).trans (hw9.mono HBZ.out.size)
  have M2 : Hid (MapAt Tryz.prog 83 W1 m (tdL (S ++ [⟨k, label, a2, false⟩]))) := by
    show MapAt _ _ _ _ _
    rw [← tdL_snoc]
    exact M1
  have hX1 : ∀ i, i = m → ∀ cs T fr, w9.heap[i]? ≠ some (.cells cs T fr) := fun i hi => by rw [hi]; exact G9.out.mapBlk
  have HLOW : base ≤ Z.drew.heap.size := by have h1 := HIZ.out.low.1; have h2 := HIZ.out.lt.1; show base ≤ Z.heap.size; omega
  have HOA : Hid (AtO W1 base a2) := AtO.keepX (AtO.lower' ho2 HLOW) (GrownX.of_row (X := fun i => i = m) g1 rfl) hX1
  have HOF : Hid (AtO W1 w.heap.size a2) := AtO.keepX (AtO.lower' ho2 (show w.heap.size ≤ Z.drew.heap.size from HBZ.out.size)) (GrownX.of_row (X := fun i => i = m) g1 rfl) hX1
  have HOO : Hid (∀ p ∈ S, AtO W1 base p.a) := fun p hp => AtO.keepX (G9.out.own p hp) (GrownX.of_row (X := fun i => i = m) g1 rfl) hX1
  have HSZ2 : Hid (AtrSz a2.c) := by
    show AtrSz a2.c
    rw [hc2]
    exact HSZ.out
  have hF : RibAt W1 base b m most (S ++ [⟨k, label, a2, false⟩]) := ⟨G9.out.blk.row g1 N1, M2.out, N1, fun p hp => by
    rcases List.mem_append.1 hp with hp | hp
    · exact G9.out.ok p hp
    · rw [List.mem_singleton] at hp
      subst hp
      exact ⟨HKO.out, HLAB.out⟩, fun p hp => by
    rcases List.mem_append.1 hp with hp | hp
    · exact HOO.out p hp
    · rw [List.mem_singleton] at hp
      subst hp
      exact HOA.out, fun p hp => by
    rcases List.mem_append.1 hp with hp | hp
    · exact G9.out.sz p hp
    · rw [List.mem_singleton] at hp
      subst hp
      exact HSZ2.out, by rw [List.length_append]; exact HLEN.out, G9.out.low⟩
  have HF := Lib.hid hF
  have HG : Hid (GrownX (fun i => i = m) w W1) := (GrownX.of_below HB9.out).trans (GrownX.of_row g1 rfl)
  clear hHeld hF hX1 e1 M1 z1
  go_wp2_with fail
  go_ret2
  exact ⟨⟨a2, hc2, rfl, HF.out, HOF.out⟩, HG.out⟩
set_option maxRecDepth 100000 in
set_option maxHeartbeats 16000000 in
theorem rput_new1 (w : World) (base b m : Nat) (most : Int) (S : List Td) (h : RibAt w base b m most S) (k : Pk) (label : Nat) (hk : k.Ok) (hlab : label < 4294967296) (a : Atr) (ha : AtrOk w a) (hm : nlMay (nlk k label)) (hc : atOk a.c = true) (hz : AtrSz a.c) (hlen : S.length < 1000) (hj : ∀ p ∈ S, p.k ≠ k) (hmost : 0 < most) (hfull : ¬ most ≤ S.length) :
    Calls Tryz.prog 13 #[.pointer (some ⟨b, 0, none⟩), .agg #[.int .i64 k.fam, .int .u64 k.rd, .string k.addr, .int .i64 k.len, .int .u32 (k.id : Nat), .int .u32 (label : Nat)], .agg a.ar] w fun e w' => (∃ a2 : Atr, a2.c = a.c ∧ e = .returned (.tuple #[.bool false, .int .i64 0]) ∧ RibAt w' base b m most (S ++ [⟨k, label, a2, false⟩]) ∧ AtO w' w.heap.size a2) ∧ GrownX (fun i => i = m) w w' := by
  have hn := nlk_ok hk hlab
  have HNC : Hid (∀ W, Calls Tryz.prog 35 #[.agg #[.int .i64 k.fam, .int .u64 k.rd, .string k.addr, .int .i64 k.len, .int .u32 (k.id : Nat), .int .u32 (label : Nat)]] W fun e w' => e = .returned (.int .i64 0) ∧ Below W.heap.size W w') := fun W => by
    have h := ncheck_any (nlk k label) hn W
    rwa [show nlC (nlk k label) = 0 from if_pos hm] at h
  have HRIB := Lib.hid h
  have HAOK := Lib.hid ha
  have lb := h.lt.1
  have lm := h.lt.2
  have N1 := h.ne
  have HCK : Hid (∀ W, AtrOk W a → Calls Tryz.prog 36 #[.agg a.ar] W fun e w' => e = .returned (.int .i64 0) ∧ Below W.heap.size W w') := fun W h1 => by
    have h := check_any a W h1
    rw [hc, show okN true = 0 from rfl] at h
    exact h
  have HKO := Lib.hid hk
  have HLAB := Lib.hid hlab
  have HSZ := Lib.hid hz
  have HCP : Hid (∀ W, AtrOk W a → Calls Tryz.prog 37 #[.agg a.ar] W fun e w' => (∃ a' : Atr, e = .returned (.agg a'.ar) ∧ AtO w' W.heap.size a' ∧ a'.c = a.c) ∧ Below W.heap.size W w') := fun W h1 => copy_any a W h1 hz
  clear hz
  have HLEN := Lib.hid (show S.length + 1 ≤ 1000 by omega)
  obtain ⟨kl, hkl⟩ := pk_key k hk
  have HKL := Lib.hid hkl
  have HJ := Lib.hid hj
  clear hkl hj
  have zm : decide (most > 0) = true := decide_eq_true hmost
  have zl : decide ((S.length : Int) ≥ most) = false := decide_eq_false (by omega)
  clear hmost hfull hlen
  clear h ha hn hlab
  go_enter Tryz.func13, Tryz.ntmps13
  go_upto_region 1 with fail
  refine rb_name fun V0 hV0 => ?_
  obtain ⟨s, hs⟩ : ∃ s, s = w.heap.size := ⟨_, rfl⟩
  have HR0 : Hid (RibAt V0 base b m most S) := by rw [hV0]; exact (HRIB.out.alloc _).alloc _
  have HP0 : Hid (CellsAt V0 s #[.int .i64 k.fam, .int .u64 k.rd, .string k.addr, .int .i64 k.len, .int .u32 (k.id : Nat), .int .u32 (label : Nat)] 35) := by rw [hV0, hs]; exact (CellsAt.new _ _ _).alloc _
  have HQ0 : Hid (CellsAt V0 (s + 1) a.ar 41) := by
    have h := CellsAt.new (w.alloc (.cells #[.int .i64 k.fam, .int .u64 k.rd, .string k.addr, .int .i64 k.len, .int .u32 (k.id : Nat), .int .u32 (label : Nat)] 35)) a.ar 41
    rw [World.size_alloc] at h
    rw [hV0, hs]
    exact h
  have HB0 : Hid (Below w.heap.size w V0) := by rw [hV0]; exact ((Below.refl _ _).alloc (Nat.le_refl _) _).alloc (by simp) _
  have HS : Hid (s = w.heap.size) := hs
  rw [← hs]
  clear hV0 hs
  go_wp2_with fail
  refine (rnone_any b m most _ HR0.out.blk).mono ?_
  rintro e w2 ⟨rfl, hw2⟩
  subst w2
  obtain ⟨p0, p1, p2, p3, p4, p5⟩ := c6 HP0.out
  go_wp2_with fail
  refine (HNC.out _).mono ?_
  rintro e w3 ⟨rfl, hb3⟩
  have HR3 : Hid (RibAt w3 base b m most S) := HR0.out.below hb3
  have HP3 : Hid (CellsAt w3 s #[.int .i64 k.fam, .int .u64 k.rd, .string k.addr, .int .i64 k.len, .int .u32 (k.id : Nat), .int .u32 (label : Nat)] 35) := HP0.out.below hb3 HP0.out.lt
  have HQ3 : Hid (CellsAt w3 (s + 1) a.ar 41) := HQ0.out.below hb3 HQ0.out.lt
  have HB3 : Hid (Below w.heap.size w w3) := HB0.out.trans (hb3.mono HB0.out.size)
  clear hb3 p0 p1 p2 p3 p4 p5 HR0 HP0 HQ0 HB0
  go_wp2_with (with_reducible show wpList _ _ _ (_ :: _) _ _; refine rb_load_attrs_g (by kernel_rfl) (.tmp 5) rfl (s + 1) rfl a HQ3.out ?_)
  refine (HCK.out _ (HAOK.out.below HB3.out (Nat.le_refl _))).mono ?_
  rintro e w4 ⟨rfl, hb4⟩
  have HR4 : Hid (RibAt w4 base b m most S) := HR3.out.below hb4
  have HP4 : Hid (CellsAt w4 s #[.int .i64 k.fam, .int .u64 k.rd, .string k.addr, .int .i64 k.len, .int .u32 (k.id : Nat), .int .u32 (label : Nat)] 35) := HP3.out.below hb4 HP3.out.lt
  have HQ4 : Hid (CellsAt w4 (s + 1) a.ar 41) := HQ3.out.below hb4 HQ3.out.lt
  have HB4 : Hid (Below w.heap.size w w4) := HB3.out.trans (hb4.mono HB3.out.size)
  clear hb4 HR3 HP3 HQ3 HB3
  obtain ⟨p0, p1, p2, p3, p4, p5⟩ := c6 HP4.out
  go_upto_region 6 with fail
  refine rb_name fun V hV => ?_
  have HRV : Hid (RibAt V base b m most S) := by rw [hV]; exact HR4.out.alloc _
  have HBV : Hid (Below w.heap.size w V) := by rw [hV]; exact HB4.out.alloc HB4.out.size _
  have HPV : Hid (CellsAt V s #[.int .i64 k.fam, .int .u64 k.rd, .string k.addr, .int .i64 k.len, .int .u32 (k.id : Nat), .int .u32 (label : Nat)] 35) := by rw [hV]; exact HP4.out.alloc _
  have HQV : Hid (CellsAt V (s + 1) a.ar 41) := by rw [hV]; exact HQ4.out.alloc _
  obtain ⟨gp, hgp⟩ : ∃ gp, gp = w4.heap.size := ⟨_, rfl⟩
  have HKV : Hid (CellsAt V gp #[.int .i64 k.fam, .int .u64 k.rd, .string k.addr, .int .i64 k.len, .int .u32 (k.id : Nat)] 83) := by rw [hV, hgp]; exact CellsAt.new _ _ _
  have HGM : Hid (gp ≠ m) := by
    show _ ≠ _
    have := HB4.out.size
    omega
  rw [← hgp]
  have hsV : gp < V.heap.size := HKV.out.lt
  have hbV : b < V.heap.size := HRV.out.lt.1
  have hmV : m < V.heap.size := HRV.out.lt.2
  clear hV p0 p1 p2 p3 p4 p5 HP4 HR4 HB4 HQ4 hgp
  have HI : Hid ((fun w' => CellsAt w' b #[.int .i64 most, .map (some m)] 53 ∧ MapAt Tryz.prog 83 w' m (tdL S) ∧ CellsAt w' gp #[.int .i64 k.fam, .int .u64 k.rd, .string k.addr, .int .i64 k.len, .int .u32 (k.id : Nat)] 83 ∧ Below V.heap.size V w') V.drew) := ⟨HRV.out.blk.drew 1, HRV.out.map.drew 1, HKV.out.drew 1, below_drewN (Below.refl _ _) 1⟩
  refine wp_region_held_drew (S := fun w' => CellsAt w' b #[.int .i64 most, .map (some m)] 53 ∧ MapAt Tryz.prog 83 w' m (tdL S) ∧ CellsAt w' gp #[.int .i64 k.fam, .int .u64 k.rd, .string k.addr, .int .i64 k.len, .int .u32 (k.id : Nat)] 83 ∧ Below V.heap.size V w') (by kernel_rfl) (HI.out) (fun hHeld => ?_)
  refine wpAnyH_take (i := 0) (oi := { dst := some 29, op := Op.move (Operand.tmp 0), type := 23, pos := "adjin.go:72", after := #[], guard := none }) (v := ?_) rfl (by kernel_rfl) (by kernel_rfl) (by kernel_rfl) (fun _ _ _ h => h) (Or.inl ⟨by rfl, ?_⟩) hHeld ?_
  rotate_left
  · intro w hSw
    clear hSw
    go_simp
    try with_reducible rfl
  try simp only [Act.put, List.setIfInBounds_toArray, List.set_cons_zero, List.set_cons_succ]
  refine wpAnyH_take (i := 1) (oi := { dst := some 30, op := Op.nilCheck (Operand.tmp 29), type := 0, pos := "adjin.go:72", after := #[{ on := 0, ground := Ground.data }], guard := none }) (v := ?_) rfl (by kernel_rfl) (by kernel_rfl) (by kernel_rfl) (fun _ _ _ h => h) (Or.inl ⟨by rfl, ?_⟩) hHeld ?_
  rotate_left
  · intro w hSw
    clear hSw
    go_simp
    try with_reducible rfl
  try simp only [Act.put, List.setIfInBounds_toArray, List.set_cons_zero, List.set_cons_succ]
  refine wpAnyH_take (i := 2) (oi := { dst := some 31, op := Op.fieldAddr 53 (Operand.tmp 30) 1, type := 0, pos := "adjin.go:72", after := #[{ on := 1, ground := Ground.data }], guard := none }) (v := ?_) rfl (by kernel_rfl) (by kernel_rfl) (by kernel_rfl) (fun _ _ _ h => h) (Or.inl ⟨by rfl, ?_⟩) hHeld ?_
  rotate_left
  · intro w hSw
    clear hSw
    go_simp
    try with_reducible rfl
  try simp only [Act.put, List.setIfInBounds_toArray, List.set_cons_zero, List.set_cons_succ]
  refine wpAnyH_take (i := 3) (oi := { dst := some 32, op := Op.load 51 (Operand.tmp 31), type := 51, pos := "adjin.go:72", after := #[{ on := 2, ground := Ground.data }], guard := none }) (v := ?_) rfl (by kernel_rfl) (by kernel_rfl) (by kernel_rfl) (fun _ _ _ h => h) (Or.inl ⟨by rfl, ?_⟩) hHeld ?_
  rotate_left
  · intro w hSw
    obtain ⟨q1, q2, q3, q4⟩ := hSw
    obtain ⟨c0, c1⟩ := q1.c2
    obtain ⟨k0, k1, k2, k3, k4⟩ := q3.c5
    go_simp
    try with_reducible rfl
  try simp only [Act.put, List.setIfInBounds_toArray, List.set_cons_zero, List.set_cons_succ]
  refine wpAnyH_take (i := 4) (oi := { dst := some 33, op := Op.load 83 (Operand.tmp 8), type := 83, pos := "adjin.go:72", after := #[], guard := none }) (v := ?_) rfl (by kernel_rfl) (by kernel_rfl) (by kernel_rfl) (fun _ _ _ h => h) (Or.inl ⟨by rfl, ?_⟩) hHeld ?_
  rotate_left
  · intro w hSw
    obtain ⟨q1, q2, q3, q4⟩ := hSw
    obtain ⟨c0, c1⟩ := q1.c2
    obtain ⟨k0, k1, k2, k3, k4⟩ := q3.c5
    go_simp
    try with_reducible rfl
  try simp only [Act.put, List.setIfInBounds_toArray, List.set_cons_zero, List.set_cons_succ]
  refine wpAnyH_take (i := 5) (oi := { dst := some 34, op := Op.lookup 51 (Operand.tmp 32) (Operand.tmp 33) true, type := 94, pos := "adjin.go:72", after := #[{ on := 3, ground := Ground.data }, { on := 4, ground := Ground.data }], guard := none }) (v := ?_) rfl (by kernel_rfl) (by kernel_rfl) (by kernel_rfl) (fun _ _ _ h => h) (Or.inl ⟨by rfl, ?_⟩) hHeld ?_
  rotate_left
  · intro w hSw
    obtain ⟨q1, q2, q3, q4⟩ := hSw
    have hlk := q2.lookup_none (t := 51) pkLaw Tryz.underlying51 (zero_td _) HKL.out (tdL_no HJ.out)
    unfold Pk.v at hlk
    go_simp
    try with_reducible rfl
  try simp only [Act.put, List.setIfInBounds_toArray, List.set_cons_zero, List.set_cons_succ]
  refine wpAnyH_take (i := 6) (oi := { dst := some 28, op := Op.move (Operand.tmp 34), type := 94, pos := "adjin.go:72", after := #[{ on := 5, ground := Ground.data }], guard := none }) (v := ?_) rfl (by kernel_rfl) (by kernel_rfl) (by kernel_rfl) (fun _ _ _ h => h) (Or.inl ⟨by rfl, ?_⟩) hHeld ?_
  rotate_left
  · intro w hSw
    clear hSw
    go_simp
    try with_reducible rfl
  try simp only [Act.put, List.setIfInBounds_toArray, List.set_cons_zero, List.set_cons_succ]
  refine wpAnyH_take (i := 7) (oi := { dst := some 35, op := Op.extract (Operand.tmp 28) 0, type := 86, pos := "adjin.go:72", after := #[{ on := 6, ground := Ground.data }], guard := none }) (v := ?_) rfl (by kernel_rfl) (by kernel_rfl) (by kernel_rfl) (fun _ _ _ h => h) (Or.inl ⟨by rfl, ?_⟩) hHeld ?_
  rotate_left
  · intro w hSw
    clear hSw
    go_simp
    try with_reducible rfl
  try simp only [Act.put, List.setIfInBounds_toArray, List.set_cons_zero, List.set_cons_succ]
  refine wpAnyH_take (i := 8) (oi := { dst := some 36, op := Op.extract (Operand.tmp 28) 1, type := 4, pos := "adjin.go:72", after := #[{ on := 6, ground := Ground.data }, { on := 10, ground := Ground.gcOnly Departure.lateStores }], guard := none }) (v := ?_) rfl (by kernel_rfl) (by kernel_rfl) (by kernel_rfl) (fun _ _ _ h => h) (Or.inl ⟨by rfl, ?_⟩) hHeld ?_
  rotate_left
  · intro w hSw
    clear hSw
    go_simp
    try with_reducible rfl
  try simp only [Act.put, List.setIfInBounds_toArray, List.set_cons_zero, List.set_cons_succ]
  refine wpAnyH_ready (rs := [9]) (by kernel_rfl) (by simp) ?_
  refine AllReadyH.cons (o := { dst := some 9, op := Op.alloc 86, type := 0, pos := "adjin.go:72", after := #[], guard := none }) rfl (fun K hK => ?_) AllReadyH.nil
  go_simp
  skip
  refine hK.out _ _ (And.intro (hHeld.1.alloc _) (And.intro (hHeld.2.1.alloc _) (And.intro (hHeld.2.2.1.alloc _) (hHeld.2.2.2.alloc hHeld.2.2.2.size _)))) (fun hHeld => ?_)
  clear hK K
  try simp only [Act.put, List.setIfInBounds_toArray, List.set_cons_zero, List.set_cons_succ]
  refine wpAnyH_ready (rs := [10]) (by kernel_rfl) (by simp) ?_
  refine AllReadyH.cons (o := { dst := none, op := Op.store 86 (Operand.tmp 9) (Operand.tmp 35), type := 0, pos := "adjin.go:72", after := #[{ on := 9, ground := Ground.data }, { on := 7, ground := Ground.data }, { on := 0, ground := Ground.phase }, { on := 1, ground := Ground.phase }, { on := 2, ground := Ground.phase }, { on := 3, ground := Ground.phase }, { on := 4, ground := Ground.phase }, { on := 5, ground := Ground.phase }, { on := 6, ground := Ground.phase }, { on := 7, ground := Ground.phase }, { on := 8, ground := Ground.textOnly Departure.lateStores }, { on := 9, ground := Ground.phase }], guard := none }) rfl (fun K hK => ?_) AllReadyH.nil
  refine wp_store_row 86 (.tmp 9) (.tmp 35) rfl V.heap.size (Td.mk noPk 0 noAtr false).ar rfl rfl 86 _ (CellsAt.new V.drew _ _) (by rw [told_size]; rfl) rfl (told_ones _) ?_
  refine hK.out _ _ (And.intro (hHeld.1.row (grown_setRow' _ _ _) (Nat.ne_of_lt hbV)) (And.intro (hHeld.2.1.rowB _ (Nat.ne_of_lt hmV)) (And.intro (hHeld.2.2.1.row (grown_setRow' _ _ _) (Nat.ne_of_lt hsV)) (hHeld.2.2.2.grown (grown_setRow' _ _ _) hHeld.2.2.2.size (fun q hq => by cases hq; exact Nat.le_refl _))))) (fun hHeld => ?_)
  clear hK K
  try simp only [Act.put, List.setIfInBounds_toArray, List.set_cons_zero, List.set_cons_succ]
  refine wpAnyH_take (i := 11) (oi := { dst := some 10, op := Op.assign (Operand.tmp 36), type := 4, pos := "adjin.go:72", after := #[{ on := 8, ground := Ground.data }, { on := 10, ground := Ground.chain }, { on := 0, ground := Ground.phase }, { on := 1, ground := Ground.phase }, { on := 2, ground := Ground.phase }, { on := 3, ground := Ground.phase }, { on := 4, ground := Ground.phase }, { on := 5, ground := Ground.phase }, { on := 6, ground := Ground.phase }, { on := 7, ground := Ground.phase }, { on := 8, ground := Ground.phase }, { on := 9, ground := Ground.phase }, { on := 10, ground := Ground.phase }], guard := none }) (v := ?_) rfl (by kernel_rfl) (by kernel_rfl) (by kernel_rfl) (fun _ _ _ h => h) (Or.inl ⟨by rfl, ?_⟩) hHeld ?_
  rotate_left
  · intro w hSw
    clear hSw
    go_simp
    try with_reducible rfl
  try simp only [Act.put, List.setIfInBounds_toArray, List.set_cons_zero, List.set_cons_succ]
  refine wpAnyH_done (by kernel_rfl) ?_ _
  have HH := Lib.hid hHeld
  clear hHeld
  go_upto_region 7 with fail
  refine rb_name fun X hX => ?_
  have HRX : Hid (Below V.heap.size V X) := by rw [hX]; exact HH.out.2.2.2
  have HKX : Hid (CellsAt X gp #[.int .i64 k.fam, .int .u64 k.rd, .string k.addr, .int .i64 k.len, .int .u32 (k.id : Nat)] 83) := by rw [hX]; exact HH.out.2.2.1
  have HIX : Hid (RibAt X base b m most S) := HRV.out.below HRX.out
  have HPX : Hid (CellsAt X s #[.int .i64 k.fam, .int .u64 k.rd, .string k.addr, .int .i64 k.len, .int .u32 (k.id : Nat), .int .u32 (label : Nat)] 35) := HPV.out.below HRX.out HPV.out.lt
  have HQX : Hid (CellsAt X (s + 1) a.ar 41) := HQV.out.below HRX.out HQV.out.lt
  have HBX : Hid (Below w.heap.size w X) := HBV.out.trans (HRX.out.mono HBV.out.size)
  clear hX HH hsV hbV hmV HRV HPV HQV HKV HRX HBV HI
  have hl := fun nd => (HIX.out.map.drew nd).len_ (t := 51) Tryz.underlying51 3
  have el : (tdL S).length = S.length := by simp [tdL]
  rw [el] at hl
  obtain ⟨c0, c1⟩ := HIX.out.blk.c2
  refine wp_region_held_drew (S := fun w' => ∃ n, w' = X.drewN n) (by kernel_rfl) (⟨1, rfl⟩) (fun hHeld => ?_)
  refine wpAnyH_take (i := 0) (oi := { dst := some 37, op := Op.move (Operand.tmp 10), type := 4, pos := "adjin.go:72", after := #[], guard := none }) (v := ?_) rfl (by kernel_rfl) (by kernel_rfl) (by kernel_rfl) (fun _ _ _ h => h) (Or.inl ⟨by rfl, ?_⟩) hHeld ?_
  rotate_left
  · intro w hSw
    obtain ⟨nd, rfl⟩ := hSw
    go_simp
    try with_reducible rfl
  try simp only [Act.put, List.setIfInBounds_toArray, List.set_cons_zero, List.set_cons_succ]
  refine wpAnyH_take (i := 1) (oi := { dst := some 38, op := Op.unOp UnOp.not 4 (Operand.tmp 37), type := 4, pos := "adjin.go:72", after := #[{ on := 0, ground := Ground.data }], guard := none }) (v := ?_) rfl (by kernel_rfl) (by kernel_rfl) (by kernel_rfl) (fun _ _ _ h => h) (Or.inl ⟨by rfl, ?_⟩) hHeld ?_
  rotate_left
  · intro w hSw
    obtain ⟨nd, rfl⟩ := hSw
    go_simp
    try with_reducible rfl
  try simp only [Act.put, List.setIfInBounds_toArray, List.set_cons_zero, List.set_cons_succ]
  refine wpAnyH_take (i := 2) (oi := { dst := some 39, op := Op.move (Operand.tmp 38), type := 4, pos := "adjin.go:72", after := #[{ on := 1, ground := Ground.data }], guard := none }) (v := ?_) rfl (by kernel_rfl) (by kernel_rfl) (by kernel_rfl) (fun _ _ _ h => h) (Or.inl ⟨by rfl, ?_⟩) hHeld ?_
  rotate_left
  · intro w hSw
    obtain ⟨nd, rfl⟩ := hSw
    go_simp
    try with_reducible rfl
  try simp only [Act.put, List.setIfInBounds_toArray, List.set_cons_zero, List.set_cons_succ]
  refine wpAnyH_take (i := 3) (oi := { dst := some 40, op := Op.move (Operand.tmp 0), type := 23, pos := "adjin.go:72", after := #[{ on := 2, ground := Ground.guard }], guard := some (2, true) }) (v := ?_) rfl (by kernel_rfl) (by kernel_rfl) (by kernel_rfl) (fun _ _ _ h => h) (Or.inl ⟨by rfl, ?_⟩) hHeld ?_
  rotate_left
  · intro w hSw
    obtain ⟨nd, rfl⟩ := hSw
    go_simp
    try with_reducible rfl
  try simp only [Act.put, List.setIfInBounds_toArray, List.set_cons_zero, List.set_cons_succ]
  refine wpAnyH_take (i := 4) (oi := { dst := some 41, op := Op.nilCheck (Operand.tmp 40), type := 0, pos := "adjin.go:72", after := #[{ on := 3, ground := Ground.data }, { on := 2, ground := Ground.guard }], guard := some (2, true) }) (v := ?_) rfl (by kernel_rfl) (by kernel_rfl) (by kernel_rfl) (fun _ _ _ h => h) (Or.inl ⟨by rfl, ?_⟩) hHeld ?_
  rotate_left
  · intro w hSw
    obtain ⟨nd, rfl⟩ := hSw
    go_simp
    try with_reducible rfl
  try simp only [Act.put, List.setIfInBounds_toArray, List.set_cons_zero, List.set_cons_succ]
  refine wpAnyH_take (i := 5) (oi := { dst := some 42, op := Op.fieldAddr 53 (Operand.tmp 41) 0, type := 0, pos := "adjin.go:72", after := #[{ on := 4, ground := Ground.data }, { on := 2, ground := Ground.guard }], guard := some (2, true) }) (v := ?_) rfl (by kernel_rfl) (by kernel_rfl) (by kernel_rfl) (fun _ _ _ h => h) (Or.inl ⟨by rfl, ?_⟩) hHeld ?_
  rotate_left
  · intro w hSw
    obtain ⟨nd, rfl⟩ := hSw
    go_simp
    try with_reducible rfl
  try simp only [Act.put, List.setIfInBounds_toArray, List.set_cons_zero, List.set_cons_succ]
  refine wpAnyH_take (i := 6) (oi := { dst := some 43, op := Op.load 3 (Operand.tmp 42), type := 3, pos := "adjin.go:72", after := #[{ on := 5, ground := Ground.data }, { on := 2, ground := Ground.guard }], guard := some (2, true) }) (v := ?_) rfl (by kernel_rfl) (by kernel_rfl) (by kernel_rfl) (fun _ _ _ h => h) (Or.inl ⟨by rfl, ?_⟩) hHeld ?_
  rotate_left
  · intro w hSw
    obtain ⟨nd, rfl⟩ := hSw
    go_simp
    try with_reducible rfl
  try simp only [Act.put, List.setIfInBounds_toArray, List.set_cons_zero, List.set_cons_succ]
  refine wpAnyH_take (i := 7) (oi := { dst := some 44, op := Op.binOp BinOp.gtr 3 (Operand.tmp 43) (Operand.const (Value.int IntKind.i64 0)) 3, type := 4, pos := "adjin.go:72", after := #[{ on := 6, ground := Ground.data }, { on := 2, ground := Ground.guard }], guard := some (2, true) }) (v := ?_) rfl (by kernel_rfl) (by kernel_rfl) (by kernel_rfl) (fun _ _ _ h => h) (Or.inl ⟨by rfl, ?_⟩) hHeld ?_
  rotate_left
  · intro w hSw
    obtain ⟨nd, rfl⟩ := hSw
    go_simp
    try with_reducible rfl
  try simp only [Act.put, List.setIfInBounds_toArray, List.set_cons_zero, List.set_cons_succ]
  refine wpAnyH_take (i := 8) (oi := { dst := some 45, op := Op.pick (Operand.tmp 39) (Operand.tmp 44) (Operand.const (Value.bool false)), type := 4, pos := "adjin.go:72", after := #[{ on := 2, ground := Ground.data }, { on := 7, ground := Ground.data }], guard := none }) (v := ?_) rfl (by kernel_rfl) (by kernel_rfl) (by kernel_rfl) (fun _ _ _ h => h) (Or.inl ⟨by rfl, ?_⟩) hHeld ?_
  rotate_left
  · intro w hSw
    obtain ⟨nd, rfl⟩ := hSw
    go_simp
    try with_reducible rfl
  try simp only [Act.put, List.setIfInBounds_toArray, List.set_cons_zero, List.set_cons_succ]
  refine wpAnyH_take (i := 9) (oi := { dst := some 46, op := Op.move (Operand.tmp 45), type := 4, pos := "adjin.go:72", after := #[{ on := 8, ground := Ground.data }, { on := 2, ground := Ground.chain }], guard := none }) (v := ?_) rfl (by kernel_rfl) (by kernel_rfl) (by kernel_rfl) (fun _ _ _ h => h) (Or.inl ⟨by rfl, ?_⟩) hHeld ?_
  rotate_left
  · intro w hSw
    obtain ⟨nd, rfl⟩ := hSw
    go_simp
    try with_reducible rfl
  try simp only [Act.put, List.setIfInBounds_toArray, List.set_cons_zero, List.set_cons_succ]
  refine wpAnyH_take (i := 10) (oi := { dst := some 47, op := Op.move (Operand.tmp 0), type := 23, pos := "adjin.go:72", after := #[{ on := 9, ground := Ground.guard }], guard := some (9, true) }) (v := ?_) rfl (by kernel_rfl) (by kernel_rfl) (by kernel_rfl) (fun _ _ _ h => h) (Or.inl ⟨by rfl, ?_⟩) hHeld ?_
  rotate_left
  · intro w hSw
    obtain ⟨nd, rfl⟩ := hSw
    go_simp
    try with_reducible rfl
  try simp only [Act.put, List.setIfInBounds_toArray, List.set_cons_zero, List.set_cons_succ]
  refine wpAnyH_take (i := 11) (oi := { dst := some 48, op := Op.nilCheck (Operand.tmp 47), type := 0, pos := "adjin.go:72", after := #[{ on := 10, ground := Ground.data }, { on := 9, ground := Ground.guard }], guard := some (9, true) }) (v := ?_) rfl (by kernel_rfl) (by kernel_rfl) (by kernel_rfl) (fun _ _ _ h => h) (Or.inl ⟨by rfl, ?_⟩) hHeld ?_
  rotate_left
  · intro w hSw
    obtain ⟨nd, rfl⟩ := hSw
    go_simp
    try with_reducible rfl
  try simp only [Act.put, List.setIfInBounds_toArray, List.set_cons_zero, List.set_cons_succ]
  refine wpAnyH_take (i := 12) (oi := { dst := some 49, op := Op.fieldAddr 53 (Operand.tmp 48) 1, type := 0, pos := "adjin.go:72", after := #[{ on := 11, ground := Ground.data }, { on := 9, ground := Ground.guard }], guard := some (9, true) }) (v := ?_) rfl (by kernel_rfl) (by kernel_rfl) (by kernel_rfl) (fun _ _ _ h => h) (Or.inl ⟨by rfl, ?_⟩) hHeld ?_
  rotate_left
  · intro w hSw
    obtain ⟨nd, rfl⟩ := hSw
    go_simp
    try with_reducible rfl
  try simp only [Act.put, List.setIfInBounds_toArray, List.set_cons_zero, List.set_cons_succ]
  refine wpAnyH_take (i := 13) (oi := { dst := some 50, op := Op.load 51 (Operand.tmp 49), type := 51, pos := "adjin.go:72", after := #[{ on := 12, ground := Ground.data }, { on := 9, ground := Ground.guard }], guard := some (9, true) }) (v := ?_) rfl (by kernel_rfl) (by kernel_rfl) (by kernel_rfl) (fun _ _ _ h => h) (Or.inl ⟨by rfl, ?_⟩) hHeld ?_
  rotate_left
  · intro w hSw
    obtain ⟨nd, rfl⟩ := hSw
    go_simp
    try with_reducible rfl
  try simp only [Act.put, List.setIfInBounds_toArray, List.set_cons_zero, List.set_cons_succ]
  refine wpAnyH_take (i := 14) (oi := { dst := some 51, op := Op.call { callee := Callee.builtin Builtin.len, args := #[Operand.tmp 50], argTypes := #[51] }, type := 3, pos := "adjin.go:72", after := #[{ on := 13, ground := Ground.data }, { on := 9, ground := Ground.chain }, { on := 9, ground := Ground.guard }], guard := some (9, true) }) (v := ?_) rfl (by kernel_rfl) (by kernel_rfl) (by kernel_rfl) (fun _ _ _ h => h) (Or.inl ⟨by rfl, ?_⟩) hHeld ?_
  rotate_left
  · intro w hSw
    obtain ⟨nd, rfl⟩ := hSw
    go_simp
    try with_reducible rfl
  try simp only [Act.put, List.setIfInBounds_toArray, List.set_cons_zero, List.set_cons_succ]
  refine wpAnyH_take (i := 15) (oi := { dst := some 52, op := Op.move (Operand.tmp 0), type := 23, pos := "adjin.go:72", after := #[{ on := 9, ground := Ground.guard }], guard := some (9, true) }) (v := ?_) rfl (by kernel_rfl) (by kernel_rfl) (by kernel_rfl) (fun _ _ _ h => h) (Or.inl ⟨by rfl, ?_⟩) hHeld ?_
  rotate_left
  · intro w hSw
    obtain ⟨nd, rfl⟩ := hSw
    go_simp
    try with_reducible rfl
  try simp only [Act.put, List.setIfInBounds_toArray, List.set_cons_zero, List.set_cons_succ]
  refine wpAnyH_take (i := 16) (oi := { dst := some 53, op := Op.nilCheck (Operand.tmp 52), type := 0, pos := "adjin.go:72", after := #[{ on := 15, ground := Ground.data }, { on := 9, ground := Ground.guard }], guard := some (9, true) }) (v := ?_) rfl (by kernel_rfl) (by kernel_rfl) (by kernel_rfl) (fun _ _ _ h => h) (Or.inl ⟨by rfl, ?_⟩) hHeld ?_
  rotate_left
  · intro w hSw
    obtain ⟨nd, rfl⟩ := hSw
    go_simp
    try with_reducible rfl
  try simp only [Act.put, List.setIfInBounds_toArray, List.set_cons_zero, List.set_cons_succ]
  refine wpAnyH_take (i := 17) (oi := { dst := some 54, op := Op.fieldAddr 53 (Operand.tmp 53) 0, type := 0, pos := "adjin.go:72", after := #[{ on := 16, ground := Ground.data }, { on := 9, ground := Ground.guard }], guard := some (9, true) }) (v := ?_) rfl (by kernel_rfl) (by kernel_rfl) (by kernel_rfl) (fun _ _ _ h => h) (Or.inl ⟨by rfl, ?_⟩) hHeld ?_
  rotate_left
  · intro w hSw
    obtain ⟨nd, rfl⟩ := hSw
    go_simp
    try with_reducible rfl
  try simp only [Act.put, List.setIfInBounds_toArray, List.set_cons_zero, List.set_cons_succ]
  refine wpAnyH_take (i := 18) (oi := { dst := some 55, op := Op.load 3 (Operand.tmp 54), type := 3, pos := "adjin.go:72", after := #[{ on := 17, ground := Ground.data }, { on := 9, ground := Ground.guard }], guard := some (9, true) }) (v := ?_) rfl (by kernel_rfl) (by kernel_rfl) (by kernel_rfl) (fun _ _ _ h => h) (Or.inl ⟨by rfl, ?_⟩) hHeld ?_
  rotate_left
  · intro w hSw
    obtain ⟨nd, rfl⟩ := hSw
    go_simp
    try with_reducible rfl
  try simp only [Act.put, List.setIfInBounds_toArray, List.set_cons_zero, List.set_cons_succ]
  refine wpAnyH_take (i := 19) (oi := { dst := some 56, op := Op.binOp BinOp.geq 3 (Operand.tmp 51) (Operand.tmp 55) 3, type := 4, pos := "adjin.go:72", after := #[{ on := 14, ground := Ground.data }, { on := 18, ground := Ground.data }, { on := 9, ground := Ground.guard }], guard := some (9, true) }) (v := ?_) rfl (by kernel_rfl) (by kernel_rfl) (by kernel_rfl) (fun _ _ _ h => h) (Or.inl ⟨by rfl, ?_⟩) hHeld ?_
  rotate_left
  · intro w hSw
    obtain ⟨nd, rfl⟩ := hSw
    go_simp
    try with_reducible rfl
  try simp only [Act.put, List.setIfInBounds_toArray, List.set_cons_zero, List.set_cons_succ]
  refine wpAnyH_take (i := 20) (oi := { dst := some 57, op := Op.pick (Operand.tmp 46) (Operand.tmp 56) (Operand.const (Value.bool false)), type := 4, pos := "adjin.go:72", after := #[{ on := 9, ground := Ground.data }, { on := 19, ground := Ground.data }], guard := none }) (v := ?_) rfl (by kernel_rfl) (by kernel_rfl) (by kernel_rfl) (fun _ _ _ h => h) (Or.inl ⟨by rfl, ?_⟩) hHeld ?_
  rotate_left
  · intro w hSw
    obtain ⟨nd, rfl⟩ := hSw
    go_simp
    try with_reducible rfl
  try simp only [Act.put, List.setIfInBounds_toArray, List.set_cons_zero, List.set_cons_succ]
  refine wpAnyH_done (by kernel_rfl) ?_ _
  clear hHeld hl el c0 c1
  go_upto_region 9 with fail
  refine rb_name fun Z hZ => ?_
  have HIZ : Hid (RibAt Z base b m most S) := by rw [hZ]; exact HIX.out.drew 1
  have HKZ : Hid (CellsAt Z gp #[.int .i64 k.fam, .int .u64 k.rd, .string k.addr, .int .i64 k.len, .int .u32 (k.id : Nat)] 83) := by rw [hZ]; exact HKX.out.drew 1
  have HPZ : Hid (CellsAt Z s #[.int .i64 k.fam, .int .u64 k.rd, .string k.addr, .int .i64 k.len, .int .u32 (k.id : Nat), .int .u32 (label : Nat)] 35) := by rw [hZ]; exact HPX.out.drew 1
  have HQZ : Hid (CellsAt Z (s + 1) a.ar 41) := by rw [hZ]; exact HQX.out.drew 1
  have HBZ : Hid (Below w.heap.size w Z) := by rw [hZ]; exact below_drewN HBX.out 1
  clear hZ HIX HKX HPX HQX HBX
  have NS0 : s ≠ m := by have := HS.out; omega
  have NS1 : s + 1 ≠ m := by have := HS.out; omega
  have HMX : Hid (MapAt Tryz.prog 83 Z.drew m (tdL S)) := HIZ.out.map.drew 1
  have HAD : Hid (AtrOk Z.drew a) := HAOK.out.below (below_drewN HBZ.out 1) (Nat.le_refl _)
  have HI9 : Hid ((fun w' => CellsAt w' b #[.int .i64 most, .map (some m)] 53 ∧ (∃ L, MapAt Tryz.prog 83 w' m L) ∧ CellsAt w' gp #[.int .i64 k.fam, .int .u64 k.rd, .string k.addr, .int .i64 k.len, .int .u32 (k.id : Nat)] 83 ∧ CellsAt w' s #[.int .i64 k.fam, .int .u64 k.rd, .string k.addr, .int .i64 k.len, .int .u32 (k.id : Nat), .int .u32 (label : Nat)] 35 ∧ CellsAt w' (s + 1) a.ar 41) Z.drew) := ⟨HIZ.out.blk.drew 1, ⟨_, HMX.out⟩, HKZ.out.drew 1, HPZ.out.drew 1, HQZ.out.drew 1⟩
  refine wp_region_held_drew (S := fun w' => CellsAt w' b #[.int .i64 most, .map (some m)] 53 ∧ (∃ L, MapAt Tryz.prog 83 w' m L) ∧ CellsAt w' gp #[.int .i64 k.fam, .int .u64 k.rd, .string k.addr, .int .i64 k.len, .int .u32 (k.id : Nat)] 83 ∧ CellsAt w' s #[.int .i64 k.fam, .int .u64 k.rd, .string k.addr, .int .i64 k.len, .int .u32 (k.id : Nat), .int .u32 (label : Nat)] 35 ∧ CellsAt w' (s + 1) a.ar 41) (by kernel_rfl) (HI9.out) (fun hHeld => ?_)
  refine wpAnyH_take (i := 0) (oi := { dst := some 58, op := Op.move (Operand.tmp 0), type := 23, pos := "adjin.go:75", after := #[], guard := none }) (v := ?_) rfl (by kernel_rfl) (by kernel_rfl) (by kernel_rfl) (fun _ _ _ h => h) (Or.inl ⟨by rfl, ?_⟩) hHeld ?_
  rotate_left
  · intro w hSw
    clear hSw
    go_simp
    try with_reducible rfl
  try simp only [Act.put, List.setIfInBounds_toArray, List.set_cons_zero, List.set_cons_succ]
  refine wpAnyH_take (i := 1) (oi := { dst := some 59, op := Op.nilCheck (Operand.tmp 58), type := 0, pos := "adjin.go:75", after := #[{ on := 0, ground := Ground.data }], guard := none }) (v := ?_) rfl (by kernel_rfl) (by kernel_rfl) (by kernel_rfl) (fun _ _ _ h => h) (Or.inl ⟨by rfl, ?_⟩) hHeld ?_
  rotate_left
  · intro w hSw
    clear hSw
    go_simp
    try with_reducible rfl
  try simp only [Act.put, List.setIfInBounds_toArray, List.set_cons_zero, List.set_cons_succ]
  refine wpAnyH_take (i := 2) (oi := { dst := some 60, op := Op.fieldAddr 53 (Operand.tmp 59) 1, type := 0, pos := "adjin.go:75", after := #[{ on := 1, ground := Ground.data }], guard := none }) (v := ?_) rfl (by kernel_rfl) (by kernel_rfl) (by kernel_rfl) (fun _ _ _ h => h) (Or.inl ⟨by rfl, ?_⟩) hHeld ?_
  rotate_left
  · intro w hSw
    clear hSw
    go_simp
    try with_reducible rfl
  try simp only [Act.put, List.setIfInBounds_toArray, List.set_cons_zero, List.set_cons_succ]
  refine wpAnyH_take (i := 3) (oi := { dst := some 61, op := Op.load 51 (Operand.tmp 60), type := 51, pos := "adjin.go:75", after := #[{ on := 2, ground := Ground.data }], guard := none }) (v := ?_) rfl (by kernel_rfl) (by kernel_rfl) (by kernel_rfl) (fun _ _ _ h => h) (Or.inl ⟨by rfl, ?_⟩) hHeld ?_
  rotate_left
  · intro w hSw
    obtain ⟨q1, q2, q3, q4, q5⟩ := hSw
    obtain ⟨c0, c1⟩ := q1.c2
    obtain ⟨k0, k1, k2, k3, k4⟩ := q3.c5
    obtain ⟨n0, n1, n2, n3, n4, n5⟩ := c6 q4
    go_simp
    try with_reducible rfl
  try simp only [Act.put, List.setIfInBounds_toArray, List.set_cons_zero, List.set_cons_succ]
  refine wpAnyH_take (i := 4) (oi := { dst := some 62, op := Op.load 83 (Operand.tmp 8), type := 83, pos := "adjin.go:75", after := #[], guard := none }) (v := ?_) rfl (by kernel_rfl) (by kernel_rfl) (by kernel_rfl) (fun _ _ _ h => h) (Or.inl ⟨by rfl, ?_⟩) hHeld ?_
  rotate_left
  · intro w hSw
    obtain ⟨q1, q2, q3, q4, q5⟩ := hSw
    obtain ⟨c0, c1⟩ := q1.c2
    obtain ⟨k0, k1, k2, k3, k4⟩ := q3.c5
    obtain ⟨n0, n1, n2, n3, n4, n5⟩ := c6 q4
    go_simp
    try with_reducible rfl
  try simp only [Act.put, List.setIfInBounds_toArray, List.set_cons_zero, List.set_cons_succ]
  refine wpAnyH_take (i := 5) (oi := { dst := some 63, op := Op.fieldAddr 35 (Operand.tmp 4) 2, type := 0, pos := "adjin.go:75", after := #[], guard := none }) (v := ?_) rfl (by kernel_rfl) (by kernel_rfl) (by kernel_rfl) (fun _ _ _ h => h) (Or.inl ⟨by rfl, ?_⟩) hHeld ?_
  rotate_left
  · intro w hSw
    clear hSw
    go_simp
    try with_reducible rfl
  try simp only [Act.put, List.setIfInBounds_toArray, List.set_cons_zero, List.set_cons_succ]
  refine wpAnyH_take (i := 6) (oi := { dst := some 64, op := Op.load 33 (Operand.tmp 63), type := 33, pos := "adjin.go:75", after := #[{ on := 5, ground := Ground.data }], guard := none }) (v := ?_) rfl (by kernel_rfl) (by kernel_rfl) (by kernel_rfl) (fun _ _ _ h => h) (Or.inl ⟨by rfl, ?_⟩) hHeld ?_
  rotate_left
  · intro w hSw
    obtain ⟨q1, q2, q3, q4, q5⟩ := hSw
    obtain ⟨c0, c1⟩ := q1.c2
    obtain ⟨k0, k1, k2, k3, k4⟩ := q3.c5
    obtain ⟨n0, n1, n2, n3, n4, n5⟩ := c6 q4
    go_simp
    try with_reducible rfl
  try simp only [Act.put, List.setIfInBounds_toArray, List.set_cons_zero, List.set_cons_succ]
  refine wpAnyH_take (i := 7) (oi := { dst := some 65, op := Op.load 41 (Operand.tmp 5), type := 41, pos := "adjin.go:75", after := #[], guard := none }) (v := Value.agg a.ar) rfl (by kernel_rfl) (by kernel_rfl) (by kernel_rfl) (fun _ _ _ h => h) (yields_attrs0 (by rfl) _ rfl (s + 1) (by rfl) a (fun w h => h.2.2.2.2)) hHeld ?_
  try simp only [Act.put, List.setIfInBounds_toArray, List.set_cons_zero, List.set_cons_succ]
  refine wpAnyH_ready (rs := [8]) (by kernel_rfl) (by simp) ?_
  refine AllReadyH.cons (o := { dst := some 66, op := Op.call { callee := Callee.value (Operand.func 37), args := #[Operand.tmp 65], argTypes := #[41] }, type := 41, pos := "adjin.go:75", after := #[{ on := 7, ground := Ground.data }], guard := none }) rfl (fun K hK => ?_) AllReadyH.nil
  go_simp
  refine (HCP.out _ HAD.out).mono ?_
  rintro e w9 ⟨⟨a2, rfl, ho2, hc2⟩, hw9⟩
  have hm9 := HMX.out.below hw9 HMX.out.lt
  obtain ⟨W1, e1, g1, M1, z1⟩ := hm9.update_new (t := 51) pkLaw Tryz.underlying51 HKL.out (tdL_no HJ.out) (Td.mk k label a2 false).v
  unfold Pk.v Td.v Td.ar at e1
  dsimp only at e1
  unfold Atr.ar
  refine hK.out _ _ (And.intro (hHeld.1.below hw9 hHeld.1.lt) (And.intro ⟨_, hm9⟩ (And.intro (hHeld.2.2.1.below hw9 hHeld.2.2.1.lt) (And.intro (hHeld.2.2.2.1.below hw9 hHeld.2.2.2.1.lt) (hHeld.2.2.2.2.below hw9 hHeld.2.2.2.2.lt))))) (fun hHeld => ?_)
  clear hK K
  try simp only [Act.put, List.setIfInBounds_toArray, List.set_cons_zero, List.set_cons_succ]
  refine wpAnyH_take (i := 9) (oi := { dst := some 67, op := Op.build 86 #[(0, Operand.tmp 64), (1, Operand.tmp 66)], type := 86, pos := "adjin.go:75", after := #[{ on := 6, ground := Ground.data }, { on := 8, ground := Ground.data }], guard := none }) (v := ?_) rfl (by kernel_rfl) (by kernel_rfl) (by kernel_rfl) (fun _ _ _ h => h) (Or.inl ⟨by rfl, ?_⟩) hHeld ?_
  rotate_left
  · intro w hSw
    clear hSw
    go_simp
    try with_reducible rfl
  try simp only [Act.put, List.setIfInBounds_toArray, List.set_cons_zero, List.set_cons_succ]
  refine wpAnyH_ready (rs := [10]) (by kernel_rfl) (by simp) ?_
  refine AllReadyH.cons (o := { dst := none, op := Op.mapUpdate 51 (Operand.tmp 61) (Operand.tmp 62) (Operand.tmp 67), type := 0, pos := "adjin.go:75", after := #[{ on := 3, ground := Ground.data }, { on := 4, ground := Ground.data }, { on := 9, ground := Ground.data }, { on := 8, ground := Ground.chain }, { on := 0, ground := Ground.phase }, { on := 1, ground := Ground.phase }, { on := 2, ground := Ground.phase }, { on := 3, ground := Ground.phase }, { on := 4, ground := Ground.phase }, { on := 5, ground := Ground.phase }, { on := 6, ground := Ground.phase }, { on := 7, ground := Ground.phase }, { on := 8, ground := Ground.phase }, { on := 9, ground := Ground.phase }], guard := none }) rfl (fun K hK => ?_) AllReadyH.nil
  go_simp
  skip
  refine hK.out _ _ (And.intro (hHeld.1.row g1 N1) (And.intro ⟨_, M1⟩ (And.intro (hHeld.2.2.1.row g1 HGM.out) (And.intro (hHeld.2.2.2.1.row g1 NS0) (hHeld.2.2.2.2.row g1 NS1))))) (fun hHeld => ?_)
  clear hK K
  try simp only [Act.put, List.setIfInBounds_toArray, List.set_cons_zero, List.set_cons_succ]
  refine wpAnyH_done (by kernel_rfl) ?_ _
  have G9 : Hid (RibAt w9 base b m most S) := (HIZ.out.drew 1).below hw9
  have HB9 : Hid (Below w.heap.size w w9) := (below_drewN HBZ.out 1).trans (hw9.mono HBZ.out.size)
  have M2 : Hid (MapAt Tryz.prog 83 W1 m (tdL (S ++ [⟨k, label, a2, false⟩]))) := by
    show MapAt _ _ _ _ _
    rw [← tdL_snoc]
    exact M1
  have hX1 : ∀ i, i = m → ∀ cs T fr, w9.heap[i]? ≠ some (.cells cs T fr) := fun i hi => by rw [hi]; exact G9.out.mapBlk
  have HLOW : base ≤ Z.drew.heap.size := by have h1 := HIZ.out.low.1; have h2 := HIZ.out.lt.1; show base ≤ Z.heap.size; omega
  have HOA : Hid (AtO W1 base a2) := AtO.keepX (AtO.lower' ho2 HLOW) (GrownX.of_row (X := fun i => i = m) g1 rfl) hX1
  have HOF : Hid (AtO W1 w.heap.size a2) := AtO.keepX (AtO.lower' ho2 (show w.heap.size ≤ Z.drew.heap.size from HBZ.out.size)) (GrownX.of_row (X := fun i => i = m) g1 rfl) hX1
  have HOO : Hid (∀ p ∈ S, AtO W1 base p.a) := fun p hp => AtO.keepX (G9.out.own p hp) (GrownX.of_row (X := fun i => i = m) g1 rfl) hX1
  have HSZ2 : Hid (AtrSz a2.c) := by
    show AtrSz a2.c
    rw [hc2]
    exact HSZ.out
  have hF : RibAt W1 base b m most (S ++ [⟨k, label, a2, false⟩]) := ⟨G9.out.blk.row g1 N1, M2.out, N1, fun p hp => by
    rcases List.mem_append.1 hp with hp | hp
    · exact G9.out.ok p hp
    · rw [List.mem_singleton] at hp
      subst hp
      exact ⟨HKO.out, HLAB.out⟩, fun p hp => by
    rcases List.mem_append.1 hp with hp | hp
    · exact HOO.out p hp
    · rw [List.mem_singleton] at hp
      subst hp
      exact HOA.out, fun p hp => by
    rcases List.mem_append.1 hp with hp | hp
    · exact G9.out.sz p hp
    · rw [List.mem_singleton] at hp
      subst hp
      exact HSZ2.out, by rw [List.length_append]; exact HLEN.out, G9.out.low⟩
  have HF := Lib.hid hF
  have HG : Hid (GrownX (fun i => i = m) w W1) := (GrownX.of_below HB9.out).trans (GrownX.of_row g1 rfl)
  clear hHeld hF hX1 e1 M1 z1
  go_wp2_with fail
  go_ret2
  exact ⟨⟨a2, hc2, rfl, HF.out, HOF.out⟩, HG.out⟩
set_option maxRecDepth 100000 in
set_option maxHeartbeats 16000000 in
theorem rput_old (w : World) (base b m : Nat) (most : Int) (S : List Td) (h : RibAt w base b m most S) (k : Pk) (label : Nat) (hk : k.Ok) (hlab : label < 4294967296) (a : Atr) (ha : AtrOk w a) (hm : nlMay (nlk k label)) (hc : atOk a.c = true) (hz : AtrSz a.c) (j : Nat) (p : Td) (hj : S[j]? = some p) (he : p.k = k) :
    Calls Tryz.prog 13 #[.pointer (some ⟨b, 0, none⟩), .agg #[.int .i64 k.fam, .int .u64 k.rd, .string k.addr, .int .i64 k.len, .int .u32 (k.id : Nat), .int .u32 (label : Nat)], .agg a.ar] w fun e w' => (∃ a2 : Atr, a2.c = a.c ∧ e = .returned (.tuple #[.bool false, .int .i64 0]) ∧ RibAt w' base b m most (S.set j ⟨k, label, a2, false⟩) ∧ AtO w' w.heap.size a2) ∧ GrownX (fun i => i = m) w w' := by
  have hn := nlk_ok hk hlab
  have HNC : Hid (∀ W, Calls Tryz.prog 35 #[.agg #[.int .i64 k.fam, .int .u64 k.rd, .string k.addr, .int .i64 k.len, .int .u32 (k.id : Nat), .int .u32 (label : Nat)]] W fun e w' => e = .returned (.int .i64 0) ∧ Below W.heap.size W w') := fun W => by
    have h := ncheck_any (nlk k label) hn W
    rwa [show nlC (nlk k label) = 0 from if_pos hm] at h
  have HRIB := Lib.hid h
  have HAOK := Lib.hid ha
  have lb := h.lt.1
  have lm := h.lt.2
  have N1 := h.ne
  have HCK : Hid (∀ W, AtrOk W a → Calls Tryz.prog 36 #[.agg a.ar] W fun e w' => e = .returned (.int .i64 0) ∧ Below W.heap.size W w') := fun W h1 => by
    have h := check_any a W h1
    rw [hc, show okN true = 0 from rfl] at h
    exact h
  have HKO := Lib.hid hk
  have HLAB := Lib.hid hlab
  have HSZ := Lib.hid hz
  have HCP : Hid (∀ W, AtrOk W a → Calls Tryz.prog 37 #[.agg a.ar] W fun e w' => (∃ a' : Atr, e = .returned (.agg a'.ar) ∧ AtO w' W.heap.size a' ∧ a'.c = a.c) ∧ Below W.heap.size W w') := fun W h1 => copy_any a W h1 hz
  clear hz
  have HPK : Hid ((tdL S)[j]? = some (k.v, p.v)) := by
    show _ = _
    rw [← he]
    exact tdL_at hj
  clear he
  obtain ⟨kl, hkl⟩ := pk_key k hk
  have HKL := Lib.hid hkl
  clear hkl hj
  clear h ha hn hlab
  go_enter Tryz.func13, Tryz.ntmps13
  go_upto_region 1 with fail
  refine rb_name fun V0 hV0 => ?_
  obtain ⟨s, hs⟩ : ∃ s, s = w.heap.size := ⟨_, rfl⟩
  have HR0 : Hid (RibAt V0 base b m most S) := by rw [hV0]; exact (HRIB.out.alloc _).alloc _
  have HP0 : Hid (CellsAt V0 s #[.int .i64 k.fam, .int .u64 k.rd, .string k.addr, .int .i64 k.len, .int .u32 (k.id : Nat), .int .u32 (label : Nat)] 35) := by rw [hV0, hs]; exact (CellsAt.new _ _ _).alloc _
  have HQ0 : Hid (CellsAt V0 (s + 1) a.ar 41) := by
    have h := CellsAt.new (w.alloc (.cells #[.int .i64 k.fam, .int .u64 k.rd, .string k.addr, .int .i64 k.len, .int .u32 (k.id : Nat), .int .u32 (label : Nat)] 35)) a.ar 41
    rw [World.size_alloc] at h
    rw [hV0, hs]
    exact h
  have HB0 : Hid (Below w.heap.size w V0) := by rw [hV0]; exact ((Below.refl _ _).alloc (Nat.le_refl _) _).alloc (by simp) _
  have HS : Hid (s = w.heap.size) := hs
  rw [← hs]
  clear hV0 hs
  go_wp2_with fail
  refine (rnone_any b m most _ HR0.out.blk).mono ?_
  rintro e w2 ⟨rfl, hw2⟩
  subst w2
  obtain ⟨p0, p1, p2, p3, p4, p5⟩ := c6 HP0.out
  go_wp2_with fail
  refine (HNC.out _).mono ?_
  rintro e w3 ⟨rfl, hb3⟩
  have HR3 : Hid (RibAt w3 base b m most S) := HR0.out.below hb3
  have HP3 : Hid (CellsAt w3 s #[.int .i64 k.fam, .int .u64 k.rd, .string k.addr, .int .i64 k.len, .int .u32 (k.id : Nat), .int .u32 (label : Nat)] 35) := HP0.out.below hb3 HP0.out.lt
  have HQ3 : Hid (CellsAt w3 (s + 1) a.ar 41) := HQ0.out.below hb3 HQ0.out.lt
  have HB3 : Hid (Below w.heap.size w w3) := HB0.out.trans (hb3.mono HB0.out.size)
  clear hb3 p0 p1 p2 p3 p4 p5 HR0 HP0 HQ0 HB0
  go_wp2_with (with_reducible show wpList _ _ _ (_ :: _) _ _; refine rb_load_attrs_g (by kernel_rfl) (.tmp 5) rfl (s + 1) rfl a HQ3.out ?_)
  refine (HCK.out _ (HAOK.out.below HB3.out (Nat.le_refl _))).mono ?_
  rintro e w4 ⟨rfl, hb4⟩
  have HR4 : Hid (RibAt w4 base b m most S) := HR3.out.below hb4
  have HP4 : Hid (CellsAt w4 s #[.int .i64 k.fam, .int .u64 k.rd, .string k.addr, .int .i64 k.len, .int .u32 (k.id : Nat), .int .u32 (label : Nat)] 35) := HP3.out.below hb4 HP3.out.lt
  have HQ4 : Hid (CellsAt w4 (s + 1) a.ar 41) := HQ3.out.below hb4 HQ3.out.lt
  have HB4 : Hid (Below w.heap.size w w4) := HB3.out.trans (hb4.mono HB3.out.size)
  clear hb4 HR3 HP3 HQ3 HB3
  obtain ⟨p0, p1, p2, p3, p4, p5⟩ := c6 HP4.out
  go_upto_region 6 with fail
  refine rb_name fun V hV => ?_
  have HRV : Hid (RibAt V base b m most S) := by rw [hV]; exact HR4.out.alloc _
  have HBV : Hid (Below w.heap.size w V) := by rw [hV]; exact HB4.out.alloc HB4.out.size _
  have HPV : Hid (CellsAt V s #[.int .i64 k.fam, .int .u64 k.rd, .string k.addr, .int .i64 k.len, .int .u32 (k.id : Nat), .int .u32 (label : Nat)] 35) := by rw [hV]; exact HP4.out.alloc _
  have HQV : Hid (CellsAt V (s + 1) a.ar 41) := by rw [hV]; exact HQ4.out.alloc _
  obtain ⟨gp, hgp⟩ : ∃ gp, gp = w4.heap.size := ⟨_, rfl⟩
  have HKV : Hid (CellsAt V gp #[.int .i64 k.fam, .int .u64 k.rd, .string k.addr, .int .i64 k.len, .int .u32 (k.id : Nat)] 83) := by rw [hV, hgp]; exact CellsAt.new _ _ _
  have HGM : Hid (gp ≠ m) := by
    show _ ≠ _
    have := HB4.out.size
    omega
  rw [← hgp]
  have hsV : gp < V.heap.size := HKV.out.lt
  have hbV : b < V.heap.size := HRV.out.lt.1
  have hmV : m < V.heap.size := HRV.out.lt.2
  clear hV p0 p1 p2 p3 p4 p5 HP4 HR4 HB4 HQ4 hgp
  have HI : Hid ((fun w' => CellsAt w' b #[.int .i64 most, .map (some m)] 53 ∧ MapAt Tryz.prog 83 w' m (tdL S) ∧ CellsAt w' gp #[.int .i64 k.fam, .int .u64 k.rd, .string k.addr, .int .i64 k.len, .int .u32 (k.id : Nat)] 83 ∧ Below V.heap.size V w') V.drew) := ⟨HRV.out.blk.drew 1, HRV.out.map.drew 1, HKV.out.drew 1, below_drewN (Below.refl _ _) 1⟩
  refine wp_region_held_drew (S := fun w' => CellsAt w' b #[.int .i64 most, .map (some m)] 53 ∧ MapAt Tryz.prog 83 w' m (tdL S) ∧ CellsAt w' gp #[.int .i64 k.fam, .int .u64 k.rd, .string k.addr, .int .i64 k.len, .int .u32 (k.id : Nat)] 83 ∧ Below V.heap.size V w') (by kernel_rfl) (HI.out) (fun hHeld => ?_)
  refine wpAnyH_take (i := 0) (oi := { dst := some 29, op := Op.move (Operand.tmp 0), type := 23, pos := "adjin.go:72", after := #[], guard := none }) (v := ?_) rfl (by kernel_rfl) (by kernel_rfl) (by kernel_rfl) (fun _ _ _ h => h) (Or.inl ⟨by rfl, ?_⟩) hHeld ?_
  rotate_left
  · intro w hSw
    clear hSw
    go_simp
    try with_reducible rfl
  try simp only [Act.put, List.setIfInBounds_toArray, List.set_cons_zero, List.set_cons_succ]
  refine wpAnyH_take (i := 1) (oi := { dst := some 30, op := Op.nilCheck (Operand.tmp 29), type := 0, pos := "adjin.go:72", after := #[{ on := 0, ground := Ground.data }], guard := none }) (v := ?_) rfl (by kernel_rfl) (by kernel_rfl) (by kernel_rfl) (fun _ _ _ h => h) (Or.inl ⟨by rfl, ?_⟩) hHeld ?_
  rotate_left
  · intro w hSw
    clear hSw
    go_simp
    try with_reducible rfl
  try simp only [Act.put, List.setIfInBounds_toArray, List.set_cons_zero, List.set_cons_succ]
  refine wpAnyH_take (i := 2) (oi := { dst := some 31, op := Op.fieldAddr 53 (Operand.tmp 30) 1, type := 0, pos := "adjin.go:72", after := #[{ on := 1, ground := Ground.data }], guard := none }) (v := ?_) rfl (by kernel_rfl) (by kernel_rfl) (by kernel_rfl) (fun _ _ _ h => h) (Or.inl ⟨by rfl, ?_⟩) hHeld ?_
  rotate_left
  · intro w hSw
    clear hSw
    go_simp
    try with_reducible rfl
  try simp only [Act.put, List.setIfInBounds_toArray, List.set_cons_zero, List.set_cons_succ]
  refine wpAnyH_take (i := 3) (oi := { dst := some 32, op := Op.load 51 (Operand.tmp 31), type := 51, pos := "adjin.go:72", after := #[{ on := 2, ground := Ground.data }], guard := none }) (v := ?_) rfl (by kernel_rfl) (by kernel_rfl) (by kernel_rfl) (fun _ _ _ h => h) (Or.inl ⟨by rfl, ?_⟩) hHeld ?_
  rotate_left
  · intro w hSw
    obtain ⟨q1, q2, q3, q4⟩ := hSw
    obtain ⟨c0, c1⟩ := q1.c2
    obtain ⟨k0, k1, k2, k3, k4⟩ := q3.c5
    go_simp
    try with_reducible rfl
  try simp only [Act.put, List.setIfInBounds_toArray, List.set_cons_zero, List.set_cons_succ]
  refine wpAnyH_take (i := 4) (oi := { dst := some 33, op := Op.load 83 (Operand.tmp 8), type := 83, pos := "adjin.go:72", after := #[], guard := none }) (v := ?_) rfl (by kernel_rfl) (by kernel_rfl) (by kernel_rfl) (fun _ _ _ h => h) (Or.inl ⟨by rfl, ?_⟩) hHeld ?_
  rotate_left
  · intro w hSw
    obtain ⟨q1, q2, q3, q4⟩ := hSw
    obtain ⟨c0, c1⟩ := q1.c2
    obtain ⟨k0, k1, k2, k3, k4⟩ := q3.c5
    go_simp
    try with_reducible rfl
  try simp only [Act.put, List.setIfInBounds_toArray, List.set_cons_zero, List.set_cons_succ]
  refine wpAnyH_take (i := 5) (oi := { dst := some 34, op := Op.lookup 51 (Operand.tmp 32) (Operand.tmp 33) true, type := 94, pos := "adjin.go:72", after := #[{ on := 3, ground := Ground.data }, { on := 4, ground := Ground.data }], guard := none }) (v := ?_) rfl (by kernel_rfl) (by kernel_rfl) (by kernel_rfl) (fun _ _ _ h => h) (Or.inl ⟨by rfl, ?_⟩) hHeld ?_
  rotate_left
  · intro w hSw
    obtain ⟨q1, q2, q3, q4⟩ := hSw
    have hlk := q2.lookup_some (t := 51) pkLaw Tryz.underlying51 (zero_td _) HKL.out HPK.out
    unfold Pk.v at hlk
    go_simp
    try with_reducible rfl
  try simp only [Act.put, List.setIfInBounds_toArray, List.set_cons_zero, List.set_cons_succ]
  refine wpAnyH_take (i := 6) (oi := { dst := some 28, op := Op.move (Operand.tmp 34), type := 94, pos := "adjin.go:72", after := #[{ on := 5, ground := Ground.data }], guard := none }) (v := ?_) rfl (by kernel_rfl) (by kernel_rfl) (by kernel_rfl) (fun _ _ _ h => h) (Or.inl ⟨by rfl, ?_⟩) hHeld ?_
  rotate_left
  · intro w hSw
    clear hSw
    go_simp
    try with_reducible rfl
  try simp only [Act.put, List.setIfInBounds_toArray, List.set_cons_zero, List.set_cons_succ]
  refine wpAnyH_take (i := 7) (oi := { dst := some 35, op := Op.extract (Operand.tmp 28) 0, type := 86, pos := "adjin.go:72", after := #[{ on := 6, ground := Ground.data }], guard := none }) (v := ?_) rfl (by kernel_rfl) (by kernel_rfl) (by kernel_rfl) (fun _ _ _ h => h) (Or.inl ⟨by rfl, ?_⟩) hHeld ?_
  rotate_left
  · intro w hSw
    clear hSw
    go_simp
    try with_reducible rfl
  try simp only [Act.put, List.setIfInBounds_toArray, List.set_cons_zero, List.set_cons_succ]
  refine wpAnyH_take (i := 8) (oi := { dst := some 36, op := Op.extract (Operand.tmp 28) 1, type := 4, pos := "adjin.go:72", after := #[{ on := 6, ground := Ground.data }, { on := 10, ground := Ground.gcOnly Departure.lateStores }], guard := none }) (v := ?_) rfl (by kernel_rfl) (by kernel_rfl) (by kernel_rfl) (fun _ _ _ h => h) (Or.inl ⟨by rfl, ?_⟩) hHeld ?_
  rotate_left
  · intro w hSw
    clear hSw
    go_simp
    try with_reducible rfl
  try simp only [Act.put, List.setIfInBounds_toArray, List.set_cons_zero, List.set_cons_succ]
  refine wpAnyH_ready (rs := [9]) (by kernel_rfl) (by simp) ?_
  refine AllReadyH.cons (o := { dst := some 9, op := Op.alloc 86, type := 0, pos := "adjin.go:72", after := #[], guard := none }) rfl (fun K hK => ?_) AllReadyH.nil
  go_simp
  skip
  refine hK.out _ _ (And.intro (hHeld.1.alloc _) (And.intro (hHeld.2.1.alloc _) (And.intro (hHeld.2.2.1.alloc _) (hHeld.2.2.2.alloc hHeld.2.2.2.size _)))) (fun hHeld => ?_)
  clear hK K
  try simp only [Act.put, List.setIfInBounds_toArray, List.set_cons_zero, List.set_cons_succ]
  refine wpAnyH_ready (rs := [10]) (by kernel_rfl) (by simp) ?_
  refine AllReadyH.cons (o := { dst := none, op := Op.store 86 (Operand.tmp 9) (Operand.tmp 35), type := 0, pos := "adjin.go:72", after := #[{ on := 9, ground := Ground.data }, { on := 7, ground := Ground.data }, { on := 0, ground := Ground.phase }, { on := 1, ground := Ground.phase }, { on := 2, ground := Ground.phase }, { on := 3, ground := Ground.phase }, { on := 4, ground := Ground.phase }, { on := 5, ground := Ground.phase }, { on := 6, ground := Ground.phase }, { on := 7, ground := Ground.phase }, { on := 8, ground := Ground.textOnly Departure.lateStores }, { on := 9, ground := Ground.phase }], guard := none }) rfl (fun K hK => ?_) AllReadyH.nil
  refine wp_store_row 86 (.tmp 9) (.tmp 35) rfl V.heap.size p.ar rfl rfl 86 _ (CellsAt.new V.drew _ _) (by rw [told_size]; rfl) rfl (told_ones _) ?_
  refine hK.out _ _ (And.intro (hHeld.1.row (grown_setRow' _ _ _) (Nat.ne_of_lt hbV)) (And.intro (hHeld.2.1.rowB _ (Nat.ne_of_lt hmV)) (And.intro (hHeld.2.2.1.row (grown_setRow' _ _ _) (Nat.ne_of_lt hsV)) (hHeld.2.2.2.grown (grown_setRow' _ _ _) hHeld.2.2.2.size (fun q hq => by cases hq; exact Nat.le_refl _))))) (fun hHeld => ?_)
  clear hK K
  try simp only [Act.put, List.setIfInBounds_toArray, List.set_cons_zero, List.set_cons_succ]
  refine wpAnyH_take (i := 11) (oi := { dst := some 10, op := Op.assign (Operand.tmp 36), type := 4, pos := "adjin.go:72", after := #[{ on := 8, ground := Ground.data }, { on := 10, ground := Ground.chain }, { on := 0, ground := Ground.phase }, { on := 1, ground := Ground.phase }, { on := 2, ground := Ground.phase }, { on := 3, ground := Ground.phase }, { on := 4, ground := Ground.phase }, { on := 5, ground := Ground.phase }, { on := 6, ground := Ground.phase }, { on := 7, ground := Ground.phase }, { on := 8, ground := Ground.phase }, { on := 9, ground := Ground.phase }, { on := 10, ground := Ground.phase }], guard := none }) (v := ?_) rfl (by kernel_rfl) (by kernel_rfl) (by kernel_rfl) (fun _ _ _ h => h) (Or.inl ⟨by rfl, ?_⟩) hHeld ?_
  rotate_left
  · intro w hSw
    clear hSw
    go_simp
    try with_reducible rfl
  try simp only [Act.put, List.setIfInBounds_toArray, List.set_cons_zero, List.set_cons_succ]
  refine wpAnyH_done (by kernel_rfl) ?_ _
  have HH := Lib.hid hHeld
  clear hHeld
  go_upto_region 7 with fail
  refine rb_name fun X hX => ?_
  have HRX : Hid (Below V.heap.size V X) := by rw [hX]; exact HH.out.2.2.2
  have HKX : Hid (CellsAt X gp #[.int .i64 k.fam, .int .u64 k.rd, .string k.addr, .int .i64 k.len, .int .u32 (k.id : Nat)] 83) := by rw [hX]; exact HH.out.2.2.1
  have HIX : Hid (RibAt X base b m most S) := HRV.out.below HRX.out
  have HPX : Hid (CellsAt X s #[.int .i64 k.fam, .int .u64 k.rd, .string k.addr, .int .i64 k.len, .int .u32 (k.id : Nat), .int .u32 (label : Nat)] 35) := HPV.out.below HRX.out HPV.out.lt
  have HQX : Hid (CellsAt X (s + 1) a.ar 41) := HQV.out.below HRX.out HQV.out.lt
  have HBX : Hid (Below w.heap.size w X) := HBV.out.trans (HRX.out.mono HBV.out.size)
  clear hX HH hsV hbV hmV HRV HPV HQV HKV HRX HBV HI
  have hl := fun nd => (HIX.out.map.drew nd).len_ (t := 51) Tryz.underlying51 3
  have el : (tdL S).length = S.length := by simp [tdL]
  rw [el] at hl
  obtain ⟨c0, c1⟩ := HIX.out.blk.c2
  refine wp_region_held_drew (S := fun w' => ∃ n, w' = X.drewN n) (by kernel_rfl) (⟨1, rfl⟩) (fun hHeld => ?_)
  refine wpAnyH_take (i := 0) (oi := { dst := some 37, op := Op.move (Operand.tmp 10), type := 4, pos := "adjin.go:72", after := #[], guard := none }) (v := ?_) rfl (by kernel_rfl) (by kernel_rfl) (by kernel_rfl) (fun _ _ _ h => h) (Or.inl ⟨by rfl, ?_⟩) hHeld ?_
  rotate_left
  · intro w hSw
    obtain ⟨nd, rfl⟩ := hSw
    go_simp
    try with_reducible rfl
  try simp only [Act.put, List.setIfInBounds_toArray, List.set_cons_zero, List.set_cons_succ]
  refine wpAnyH_take (i := 1) (oi := { dst := some 38, op := Op.unOp UnOp.not 4 (Operand.tmp 37), type := 4, pos := "adjin.go:72", after := #[{ on := 0, ground := Ground.data }], guard := none }) (v := ?_) rfl (by kernel_rfl) (by kernel_rfl) (by kernel_rfl) (fun _ _ _ h => h) (Or.inl ⟨by rfl, ?_⟩) hHeld ?_
  rotate_left
  · intro w hSw
    obtain ⟨nd, rfl⟩ := hSw
    go_simp
    try with_reducible rfl
  try simp only [Act.put, List.setIfInBounds_toArray, List.set_cons_zero, List.set_cons_succ]
  refine wpAnyH_take (i := 2) (oi := { dst := some 39, op := Op.move (Operand.tmp 38), type := 4, pos := "adjin.go:72", after := #[{ on := 1, ground := Ground.data }], guard := none }) (v := ?_) rfl (by kernel_rfl) (by kernel_rfl) (by kernel_rfl) (fun _ _ _ h => h) (Or.inl ⟨by rfl, ?_⟩) hHeld ?_
  rotate_left
  · intro w hSw
    obtain ⟨nd, rfl⟩ := hSw
    go_simp
    try with_reducible rfl
  try simp only [Act.put, List.setIfInBounds_toArray, List.set_cons_zero, List.set_cons_succ]
  refine wpAnyH_take (i := 3) (oi := { dst := some 40, op := Op.move (Operand.tmp 0), type := 23, pos := "adjin.go:72", after := #[{ on := 2, ground := Ground.guard }], guard := some (2, true) }) (v := undef) rfl (by kernel_rfl) (by kernel_rfl) (by kernel_rfl) (fun _ _ _ h => h) (Or.inr ⟨by rfl, rfl⟩) hHeld ?_
  try simp only [Act.put, List.setIfInBounds_toArray, List.set_cons_zero, List.set_cons_succ]
  refine wpAnyH_take (i := 4) (oi := { dst := some 41, op := Op.nilCheck (Operand.tmp 40), type := 0, pos := "adjin.go:72", after := #[{ on := 3, ground := Ground.data }, { on := 2, ground := Ground.guard }], guard := some (2, true) }) (v := undef) rfl (by kernel_rfl) (by kernel_rfl) (by kernel_rfl) (fun _ _ _ h => h) (Or.inr ⟨by rfl, rfl⟩) hHeld ?_
  try simp only [Act.put, List.setIfInBounds_toArray, List.set_cons_zero, List.set_cons_succ]
  refine wpAnyH_take (i := 5) (oi := { dst := some 42, op := Op.fieldAddr 53 (Operand.tmp 41) 0, type := 0, pos := "adjin.go:72", after := #[{ on := 4, ground := Ground.data }, { on := 2, ground := Ground.guard }], guard := some (2, true) }) (v := undef) rfl (by kernel_rfl) (by kernel_rfl) (by kernel_rfl) (fun _ _ _ h => h) (Or.inr ⟨by rfl, rfl⟩) hHeld ?_
  try simp only [Act.put, List.setIfInBounds_toArray, List.set_cons_zero, List.set_cons_succ]
  refine wpAnyH_take (i := 6) (oi := { dst := some 43, op := Op.load 3 (Operand.tmp 42), type := 3, pos := "adjin.go:72", after := #[{ on := 5, ground := Ground.data }, { on := 2, ground := Ground.guard }], guard := some (2, true) }) (v := undef) rfl (by kernel_rfl) (by kernel_rfl) (by kernel_rfl) (fun _ _ _ h => h) (Or.inr ⟨by rfl, rfl⟩) hHeld ?_
  try simp only [Act.put, List.setIfInBounds_toArray, List.set_cons_zero, List.set_cons_succ]
  refine wpAnyH_take (i := 7) (oi := { dst := some 44, op := Op.binOp BinOp.gtr 3 (Operand.tmp 43) (Operand.const (Value.int IntKind.i64 0)) 3, type := 4, pos := "adjin.go:72", after := #[{ on := 6, ground := Ground.data }, { on := 2, ground := Ground.guard }], guard := some (2, true) }) (v := undef) rfl (by kernel_rfl) (by kernel_rfl) (by kernel_rfl) (fun _ _ _ h => h) (Or.inr ⟨by rfl, rfl⟩) hHeld ?_
  try simp only [Act.put, List.setIfInBounds_toArray, List.set_cons_zero, List.set_cons_succ]
  refine wpAnyH_take (i := 8) (oi := { dst := some 45, op := Op.pick (Operand.tmp 39) (Operand.tmp 44) (Operand.const (Value.bool false)), type := 4, pos := "adjin.go:72", after := #[{ on := 2, ground := Ground.data }, { on := 7, ground := Ground.data }], guard := none }) (v := ?_) rfl (by kernel_rfl) (by kernel_rfl) (by kernel_rfl) (fun _ _ _ h => h) (Or.inl ⟨by rfl, ?_⟩) hHeld ?_
  rotate_left
  · intro w hSw
    obtain ⟨nd, rfl⟩ := hSw
    go_simp
    try with_reducible rfl
  try simp only [Act.put, List.setIfInBounds_toArray, List.set_cons_zero, List.set_cons_succ]
  refine wpAnyH_take (i := 9) (oi := { dst := some 46, op := Op.move (Operand.tmp 45), type := 4, pos := "adjin.go:72", after := #[{ on := 8, ground := Ground.data }, { on := 2, ground := Ground.chain }], guard := none }) (v := ?_) rfl (by kernel_rfl) (by kernel_rfl) (by kernel_rfl) (fun _ _ _ h => h) (Or.inl ⟨by rfl, ?_⟩) hHeld ?_
  rotate_left
  · intro w hSw
    obtain ⟨nd, rfl⟩ := hSw
    go_simp
    try with_reducible rfl
  try simp only [Act.put, List.setIfInBounds_toArray, List.set_cons_zero, List.set_cons_succ]
  refine wpAnyH_take (i := 10) (oi := { dst := some 47, op := Op.move (Operand.tmp 0), type := 23, pos := "adjin.go:72", after := #[{ on := 9, ground := Ground.guard }], guard := some (9, true) }) (v := undef) rfl (by kernel_rfl) (by kernel_rfl) (by kernel_rfl) (fun _ _ _ h => h) (Or.inr ⟨by rfl, rfl⟩) hHeld ?_
  try simp only [Act.put, List.setIfInBounds_toArray, List.set_cons_zero, List.set_cons_succ]
  refine wpAnyH_take (i := 11) (oi := { dst := some 48, op := Op.nilCheck (Operand.tmp 47), type := 0, pos := "adjin.go:72", after := #[{ on := 10, ground := Ground.data }, { on := 9, ground := Ground.guard }], guard := some (9, true) }) (v := undef) rfl (by kernel_rfl) (by kernel_rfl) (by kernel_rfl) (fun _ _ _ h => h) (Or.inr ⟨by rfl, rfl⟩) hHeld ?_
  try simp only [Act.put, List.setIfInBounds_toArray, List.set_cons_zero, List.set_cons_succ]
  refine wpAnyH_take (i := 12) (oi := { dst := some 49, op := Op.fieldAddr 53 (Operand.tmp 48) 1, type := 0, pos := "adjin.go:72", after := #[{ on := 11, ground := Ground.data }, { on := 9, ground := Ground.guard }], guard := some (9, true) }) (v := undef) rfl (by kernel_rfl) (by kernel_rfl) (by kernel_rfl) (fun _ _ _ h => h) (Or.inr ⟨by rfl, rfl⟩) hHeld ?_
  try simp only [Act.put, List.setIfInBounds_toArray, List.set_cons_zero, List.set_cons_succ]
  refine wpAnyH_take (i := 13) (oi := { dst := some 50, op := Op.load 51 (Operand.tmp 49), type := 51, pos := "adjin.go:72", after := #[{ on := 12, ground := Ground.data }, { on := 9, ground := Ground.guard }], guard := some (9, true) }) (v := undef) rfl (by kernel_rfl) (by kernel_rfl) (by kernel_rfl) (fun _ _ _ h => h) (Or.inr ⟨by rfl, rfl⟩) hHeld ?_
  try simp only [Act.put, List.setIfInBounds_toArray, List.set_cons_zero, List.set_cons_succ]
  refine wpAnyH_take (i := 14) (oi := { dst := some 51, op := Op.call { callee := Callee.builtin Builtin.len, args := #[Operand.tmp 50], argTypes := #[51] }, type := 3, pos := "adjin.go:72", after := #[{ on := 13, ground := Ground.data }, { on := 9, ground := Ground.chain }, { on := 9, ground := Ground.guard }], guard := some (9, true) }) (v := undef) rfl (by kernel_rfl) (by kernel_rfl) (by kernel_rfl) (fun _ _ _ h => h) (Or.inr ⟨by rfl, rfl⟩) hHeld ?_
  try simp only [Act.put, List.setIfInBounds_toArray, List.set_cons_zero, List.set_cons_succ]
  refine wpAnyH_take (i := 15) (oi := { dst := some 52, op := Op.move (Operand.tmp 0), type := 23, pos := "adjin.go:72", after := #[{ on := 9, ground := Ground.guard }], guard := some (9, true) }) (v := undef) rfl (by kernel_rfl) (by kernel_rfl) (by kernel_rfl) (fun _ _ _ h => h) (Or.inr ⟨by rfl, rfl⟩) hHeld ?_
  try simp only [Act.put, List.setIfInBounds_toArray, List.set_cons_zero, List.set_cons_succ]
  refine wpAnyH_take (i := 16) (oi := { dst := some 53, op := Op.nilCheck (Operand.tmp 52), type := 0, pos := "adjin.go:72", after := #[{ on := 15, ground := Ground.data }, { on := 9, ground := Ground.guard }], guard := some (9, true) }) (v := undef) rfl (by kernel_rfl) (by kernel_rfl) (by kernel_rfl) (fun _ _ _ h => h) (Or.inr ⟨by rfl, rfl⟩) hHeld ?_
  try simp only [Act.put, List.setIfInBounds_toArray, List.set_cons_zero, List.set_cons_succ]
  refine wpAnyH_take (i := 17) (oi := { dst := some 54, op := Op.fieldAddr 53 (Operand.tmp 53) 0, type := 0, pos := "adjin.go:72", after := #[{ on := 16, ground := Ground.data }, { on := 9, ground := Ground.guard }], guard := some (9, true) }) (v := undef) rfl (by kernel_rfl) (by kernel_rfl) (by kernel_rfl) (fun _ _ _ h => h) (Or.inr ⟨by rfl, rfl⟩) hHeld ?_
  try simp only [Act.put, List.setIfInBounds_toArray, List.set_cons_zero, List.set_cons_succ]
  refine wpAnyH_take (i := 18) (oi := { dst := some 55, op := Op.load 3 (Operand.tmp 54), type := 3, pos := "adjin.go:72", after := #[{ on := 17, ground := Ground.data }, { on := 9, ground := Ground.guard }], guard := some (9, true) }) (v := undef) rfl (by kernel_rfl) (by kernel_rfl) (by kernel_rfl) (fun _ _ _ h => h) (Or.inr ⟨by rfl, rfl⟩) hHeld ?_
  try simp only [Act.put, List.setIfInBounds_toArray, List.set_cons_zero, List.set_cons_succ]
  refine wpAnyH_take (i := 19) (oi := { dst := some 56, op := Op.binOp BinOp.geq 3 (Operand.tmp 51) (Operand.tmp 55) 3, type := 4, pos := "adjin.go:72", after := #[{ on := 14, ground := Ground.data }, { on := 18, ground := Ground.data }, { on := 9, ground := Ground.guard }], guard := some (9, true) }) (v := undef) rfl (by kernel_rfl) (by kernel_rfl) (by kernel_rfl) (fun _ _ _ h => h) (Or.inr ⟨by rfl, rfl⟩) hHeld ?_
  try simp only [Act.put, List.setIfInBounds_toArray, List.set_cons_zero, List.set_cons_succ]
  refine wpAnyH_take (i := 20) (oi := { dst := some 57, op := Op.pick (Operand.tmp 46) (Operand.tmp 56) (Operand.const (Value.bool false)), type := 4, pos := "adjin.go:72", after := #[{ on := 9, ground := Ground.data }, { on := 19, ground := Ground.data }], guard := none }) (v := ?_) rfl (by kernel_rfl) (by kernel_rfl) (by kernel_rfl) (fun _ _ _ h => h) (Or.inl ⟨by rfl, ?_⟩) hHeld ?_
  rotate_left
  · intro w hSw
    obtain ⟨nd, rfl⟩ := hSw
    go_simp
    try with_reducible rfl
  try simp only [Act.put, List.setIfInBounds_toArray, List.set_cons_zero, List.set_cons_succ]
  refine wpAnyH_done (by kernel_rfl) ?_ _
  clear hHeld hl el c0 c1
  go_upto_region 9 with fail
  refine rb_name fun Z hZ => ?_
  have HIZ : Hid (RibAt Z base b m most S) := by rw [hZ]; exact HIX.out.drew 1
  have HKZ : Hid (CellsAt Z gp #[.int .i64 k.fam, .int .u64 k.rd, .string k.addr, .int .i64 k.len, .int .u32 (k.id : Nat)] 83) := by rw [hZ]; exact HKX.out.drew 1
  have HPZ : Hid (CellsAt Z s #[.int .i64 k.fam, .int .u64 k.rd, .string k.addr, .int .i64 k.len, .int .u32 (k.id : Nat), .int .u32 (label : Nat)] 35) := by rw [hZ]; exact HPX.out.drew 1
  have HQZ : Hid (CellsAt Z (s + 1) a.ar 41) := by rw [hZ]; exact HQX.out.drew 1
  have HBZ : Hid (Below w.heap.size w Z) := by rw [hZ]; exact below_drewN HBX.out 1
  clear hZ HIX HKX HPX HQX HBX
  have NS0 : s ≠ m := by have := HS.out; omega
  have NS1 : s + 1 ≠ m := by have := HS.out; omega
  have HMX : Hid (MapAt Tryz.prog 83 Z.drew m (tdL S)) := HIZ.out.map.drew 1
  have HAD : Hid (AtrOk Z.drew a) := HAOK.out.below (below_drewN HBZ.out 1) (Nat.le_refl _)
  have HI9 : Hid ((fun w' => CellsAt w' b #[.int .i64 most, .map (some m)] 53 ∧ (∃ L, MapAt Tryz.prog 83 w' m L) ∧ CellsAt w' gp #[.int .i64 k.fam, .int .u64 k.rd, .string k.addr, .int .i64 k.len, .int .u32 (k.id : Nat)] 83 ∧ CellsAt w' s #[.int .i64 k.fam, .int .u64 k.rd, .string k.addr, .int .i64 k.len, .int .u32 (k.id : Nat), .int .u32 (label : Nat)] 35 ∧ CellsAt w' (s + 1) a.ar 41) Z.drew) := ⟨HIZ.out.blk.drew 1, ⟨_, HMX.out⟩, HKZ.out.drew 1, HPZ.out.drew 1, HQZ.out.drew 1⟩
  refine wp_region_held_drew (S := fun w' => CellsAt w' b #[.int .i64 most, .map (some m)] 53 ∧ (∃ L, MapAt Tryz.prog 83 w' m L) ∧ CellsAt w' gp #[.int .i64 k.fam, .int .u64 k.rd, .string k.addr, .int .i64 k.len, .int .u32 (k.id : Nat)] 83 ∧ CellsAt w' s #[.int .i64 k.fam, .int .u64 k.rd, .string k.addr, .int .i64 k.len, .int .u32 (k.id : Nat), .int .u32 (label : Nat)] 35 ∧ CellsAt w' (s + 1) a.ar 41) (by kernel_rfl) (HI9.out) (fun hHeld => ?_)
  refine wpAnyH_take (i := 0) (oi := { dst := some 58, op := Op.move (Operand.tmp 0), type := 23, pos := "adjin.go:75", after := #[], guard := none }) (v := ?_) rfl (by kernel_rfl) (by kernel_rfl) (by kernel_rfl) (fun _ _ _ h => h) (Or.inl ⟨by rfl, ?_⟩) hHeld ?_
  rotate_left
  · intro w hSw
    clear hSw
    go_simp
    try with_reducible rfl
  try simp only [Act.put, List.setIfInBounds_toArray, List.set_cons_zero, List.set_cons_succ]
  refine wpAnyH_take (i := 1) (oi := { dst := some 59, op := Op.nilCheck (Operand.tmp 58), type := 0, pos := "adjin.go:75", after := #[{ on := 0, ground := Ground.data }], guard := none }) (v := ?_) rfl (by kernel_rfl) (by kernel_rfl) (by kernel_rfl) (fun _ _ _ h => h) (Or.inl ⟨by rfl, ?_⟩) hHeld ?_
  rotate_left
  · intro w hSw
    clear hSw
    go_simp
    try with_reducible rfl
  try simp only [Act.put, List.setIfInBounds_toArray, List.set_cons_zero, List.set_cons_succ]
  refine wpAnyH_take (i := 2) (oi := { dst := some 60, op := Op.fieldAddr 53 (Operand.tmp 59) 1, type := 0, pos := "adjin.go:75", after := #[{ on := 1, ground := Ground.data }], guard := none }) (v := ?_) rfl (by kernel_rfl) (by kernel_rfl) (by kernel_rfl) (fun _ _ _ h => h) (Or.inl ⟨by rfl, ?_⟩) hHeld ?_
  rotate_left
  · intro w hSw
    clear hSw
    go_simp
    try with_reducible rfl
  try simp only [Act.put, List.setIfInBounds_toArray, List.set_cons_zero, List.set_cons_succ]
  refine wpAnyH_take (i := 3) (oi := { dst := some 61, op := Op.load 51 (Operand.tmp 60), type := 51, pos := "adjin.go:75", after := #[{ on := 2, ground := Ground.data }], guard := none }) (v := ?_) rfl (by kernel_rfl) (by kernel_rfl) (by kernel_rfl) (fun _ _ _ h => h) (Or.inl ⟨by rfl, ?_⟩) hHeld ?_
  rotate_left
  · intro w hSw
    obtain ⟨q1, q2, q3, q4, q5⟩ := hSw
    obtain ⟨c0, c1⟩ := q1.c2
    obtain ⟨k0, k1, k2, k3, k4⟩ := q3.c5
    obtain ⟨n0, n1, n2, n3, n4, n5⟩ := c6 q4
    go_simp
    try with_reducible rfl
  try simp only [Act.put, List.setIfInBounds_toArray, List.set_cons_zero, List.set_cons_succ]
  refine wpAnyH_take (i := 4) (oi := { dst := some 62, op := Op.load 83 (Operand.tmp 8), type := 83, pos := "adjin.go:75", after := #[], guard := none }) (v := ?_) rfl (by kernel_rfl) (by kernel_rfl) (by kernel_rfl) (fun _ _ _ h => h) (Or.inl ⟨by rfl, ?_⟩) hHeld ?_
  rotate_left
  · intro w hSw
    obtain ⟨q1, q2, q3, q4, q5⟩ := hSw
    obtain ⟨c0, c1⟩ := q1.c2
    obtain ⟨k0, k1, k2, k3, k4⟩ := q3.c5
    obtain ⟨n0, n1, n2, n3, n4, n5⟩ := c6 q4
    go_simp
    try with_reducible rfl
  try simp only [Act.put, List.setIfInBounds_toArray, List.set_cons_zero, List.set_cons_succ]
  refine wpAnyH_take (i := 5) (oi := { dst := some 63, op := Op.fieldAddr 35 (Operand.tmp 4) 2, type := 0, pos := "adjin.go:75", after := #[], guard := none }) (v := ?_) rfl (by kernel_rfl) (by kernel_rfl) (by kernel_rfl) (fun _ _ _ h => h) (Or.inl ⟨by rfl, ?_⟩) hHeld ?_
  rotate_left
  · intro w hSw
    clear hSw
    go_simp
    try with_reducible rfl
  try simp only [Act.put, List.setIfInBounds_toArray, List.set_cons_zero, List.set_cons_succ]
  refine wpAnyH_take (i := 6) (oi := { dst := some 64, op := Op.load 33 (Operand.tmp 63), type := 33, pos := "adjin.go:75", after := #[{ on := 5, ground := Ground.data }], guard := none }) (v := ?_) rfl (by kernel_rfl) (by kernel_rfl) (by kernel_rfl) (fun _ _ _ h => h) (Or.inl ⟨by rfl, ?_⟩) hHeld ?_
  rotate_left
  · intro w hSw
    obtain ⟨q1, q2, q3, q4, q5⟩ := hSw
    obtain ⟨c0, c1⟩ := q1.c2
    obtain ⟨k0, k1, k2, k3, k4⟩ := q3.c5
    obtain ⟨n0, n1, n2, n3, n4, n5⟩ := c6 q4
    go_simp
    try with_reducible rfl
  try simp only [Act.put, List.setIfInBounds_toArray, List.set_cons_zero, List.set_cons_succ]
  refine wpAnyH_take (i := 7) (oi := { dst := some 65, op := Op.load 41 (Operand.tmp 5), type := 41, pos := "adjin.go:75", after := #[], guard := none }) (v := Value.agg a.ar) rfl (by kernel_rfl) (by kernel_rfl) (by kernel_rfl) (fun _ _ _ h => h) (yields_attrs0 (by rfl) _ rfl (s + 1) (by rfl) a (fun w h => h.2.2.2.2)) hHeld ?_
  try simp only [Act.put, List.setIfInBounds_toArray, List.set_cons_zero, List.set_cons_succ]
  refine wpAnyH_ready (rs := [8]) (by kernel_rfl) (by simp) ?_
  refine AllReadyH.cons (o := { dst := some 66, op := Op.call { callee := Callee.value (Operand.func 37), args := #[Operand.tmp 65], argTypes := #[41] }, type := 41, pos := "adjin.go:75", after := #[{ on := 7, ground := Ground.data }], guard := none }) rfl (fun K hK => ?_) AllReadyH.nil
  go_simp
  refine (HCP.out _ HAD.out).mono ?_
  rintro e w9 ⟨⟨a2, rfl, ho2, hc2⟩, hw9⟩
  have hm9 := HMX.out.below hw9 HMX.out.lt
  obtain ⟨W1, e1, g1, M1, z1⟩ := hm9.update_old (t := 51) pkLaw Tryz.underlying51 HKL.out HPK.out (Td.mk k label a2 false).v
  unfold Pk.v Td.v Td.ar at e1
  dsimp only at e1
  unfold Atr.ar
  refine hK.out _ _ (And.intro (hHeld.1.below hw9 hHeld.1.lt) (And.intro ⟨_, hm9⟩ (And.intro (hHeld.2.2.1.below hw9 hHeld.2.2.1.lt) (And.intro (hHeld.2.2.2.1.below hw9 hHeld.2.2.2.1.lt) (hHeld.2.2.2.2.below hw9 hHeld.2.2.2.2.lt))))) (fun hHeld => ?_)
  clear hK K
  try simp only [Act.put, List.setIfInBounds_toArray, List.set_cons_zero, List.set_cons_succ]
  refine wpAnyH_take (i := 9) (oi := { dst := some 67, op := Op.build 86 #[(0, Operand.tmp 64), (1, Operand.tmp 66)], type := 86, pos := "adjin.go:75", after := #[{ on := 6, ground := Ground.data }, { on := 8, ground := Ground.data }], guard := none }) (v := ?_) rfl (by kernel_rfl) (by kernel_rfl) (by kernel_rfl) (fun _ _ _ h => h) (Or.inl ⟨by rfl, ?_⟩) hHeld ?_
  rotate_left
  · intro w hSw
    clear hSw
    go_simp
    try with_reducible rfl
  try simp only [Act.put, List.setIfInBounds_toArray, List.set_cons_zero, List.set_cons_succ]
  refine wpAnyH_ready (rs := [10]) (by kernel_rfl) (by simp) ?_
  refine AllReadyH.cons (o := { dst := none, op := Op.mapUpdate 51 (Operand.tmp 61) (Operand.tmp 62) (Operand.tmp 67), type := 0, pos := "adjin.go:75", after := #[{ on := 3, ground := Ground.data }, { on := 4, ground := Ground.data }, { on := 9, ground := Ground.data }, { on := 8, ground := Ground.chain }, { on := 0, ground := Ground.phase }, { on := 1, ground := Ground.phase }, { on := 2, ground := Ground.phase }, { on := 3, ground := Ground.phase }, { on := 4, ground := Ground.phase }, { on := 5, ground := Ground.phase }, { on := 6, ground := Ground.phase }, { on := 7, ground := Ground.phase }, { on := 8, ground := Ground.phase }, { on := 9, ground := Ground.phase }], guard := none }) rfl (fun K hK => ?_) AllReadyH.nil
  go_simp
  skip
  refine hK.out _ _ (And.intro (hHeld.1.row g1 N1) (And.intro ⟨_, M1⟩ (And.intro (hHeld.2.2.1.row g1 HGM.out) (And.intro (hHeld.2.2.2.1.row g1 NS0) (hHeld.2.2.2.2.row g1 NS1))))) (fun hHeld => ?_)
  clear hK K
  try simp only [Act.put, List.setIfInBounds_toArray, List.set_cons_zero, List.set_cons_succ]
  refine wpAnyH_done (by kernel_rfl) ?_ _
  have G9 : Hid (RibAt w9 base b m most S) := (HIZ.out.drew 1).below hw9
  have HB9 : Hid (Below w.heap.size w w9) := (below_drewN HBZ.out 1).trans (hw9.mono HBZ.out.size)
  have M2 : Hid (MapAt Tryz.prog 83 W1 m (tdL (S.set j ⟨k, label, a2, false⟩))) := by
    show MapAt _ _ _ _ _
    rw [← tdL_set]
    exact M1
  have hX1 : ∀ i, i = m → ∀ cs T fr, w9.heap[i]? ≠ some (.cells cs T fr) := fun i hi => by rw [hi]; exact G9.out.mapBlk
  have HLOW : base ≤ Z.drew.heap.size := by have h1 := HIZ.out.low.1; have h2 := HIZ.out.lt.1; show base ≤ Z.heap.size; omega
  have HOA : Hid (AtO W1 base a2) := AtO.keepX (AtO.lower' ho2 HLOW) (GrownX.of_row (X := fun i => i = m) g1 rfl) hX1
  have HOF : Hid (AtO W1 w.heap.size a2) := AtO.keepX (AtO.lower' ho2 (show w.heap.size ≤ Z.drew.heap.size from HBZ.out.size)) (GrownX.of_row (X := fun i => i = m) g1 rfl) hX1
  have HOO : Hid (∀ p ∈ S, AtO W1 base p.a) := fun p hp => AtO.keepX (G9.out.own p hp) (GrownX.of_row (X := fun i => i = m) g1 rfl) hX1
  have HSZ2 : Hid (AtrSz a2.c) := by
    show AtrSz a2.c
    rw [hc2]
    exact HSZ.out
  have hF : RibAt W1 base b m most (S.set j ⟨k, label, a2, false⟩) := ⟨G9.out.blk.row g1 N1, M2.out, N1, fun p hp => by
    rcases List.mem_or_eq_of_mem_set hp with hp | rfl
    · exact G9.out.ok p hp
    · exact ⟨HKO.out, HLAB.out⟩, fun p hp => by
    rcases List.mem_or_eq_of_mem_set hp with hp | rfl
    · exact HOO.out p hp
    · exact HOA.out, fun p hp => by
    rcases List.mem_or_eq_of_mem_set hp with hp | rfl
    · exact G9.out.sz p hp
    · exact HSZ2.out, by rw [List.length_set]; exact G9.out.len, G9.out.low⟩
  have HF := Lib.hid hF
  have HG : Hid (GrownX (fun i => i = m) w W1) := (GrownX.of_below HB9.out).trans (GrownX.of_row g1 rfl)
  clear hHeld hF hX1 e1 M1 z1
  go_wp2_with fail
  go_ret2
  exact ⟨⟨a2, hc2, rfl, HF.out, HOF.out⟩, HG.out⟩
def PutPostF (w : World) (base b m : Nat) (most : Int) (S : List Td) (n : Nl) (c : AtC) (w' : World) (e : Ending) : Prop :=
  e = .returned (.tuple #[.bool (putC most (S.map Td.c) n c).1, .int .i64 (putC most (S.map Td.c) n c).2.1]) ∧ ∃ S', RibAt w' base b m most S' ∧ S'.map Td.c = (putC most (S.map Td.c) n c).2.2 ∧ ∀ p ∈ S', p ∈ S ∨ AtO w' w.heap.size p.a
/-- Put: what it answers, and where what is new lies -/
theorem rputF_any (w : World) (base b m : Nat) (most : Int) (S : List Td) (h : RibAt w base b m most S) (k : Pk) (label : Nat) (hk : k.Ok) (hlab : label < 4294967296) (a : Atr) (ha : AtrOk w a) (hz : AtrSz a.c) (hlen : S.length < 1000) :
    Calls Tryz.prog 13 #[.pointer (some ⟨b, 0, none⟩), .agg #[.int .i64 k.fam, .int .u64 k.rd, .string k.addr, .int .i64 k.len, .int .u32 (k.id : Nat), .int .u32 (label : Nat)], .agg a.ar] w fun e w' => PutPostF w base b m most S (nlk k label) a.c w' e ∧ GrownX (fun i => i = m) w w' := by
  have hle : (S.map Td.c).length = S.length := List.length_map ..
  by_cases hm : nlMay (nlk k label)
  · cases hc : atOk a.c with
    | false =>
      refine (rput_bad2 w base b m most S h k label hk hlab a ha hm hc).mono ?_
      rintro e w' ⟨h1, h2, h3⟩
      refine ⟨?_, GrownX.of_below h3⟩
      unfold PutPostF
      rw [putC_bad (fun h => by rw [hc] at h; exact absurd h.2 (by decide))]
      exact ⟨h1, S, h2, rfl, fun p hp => .inl hp⟩
    | true =>
      by_cases hx : ∃ p ∈ S, p.k = k
      · obtain ⟨p, hp, he⟩ := hx
        obtain ⟨j, hj⟩ := List.getElem?_of_mem hp
        refine (rput_old w base b m most S h k label hk hlab a ha hm hc hz j p hj he).mono ?_
        rintro e w' ⟨⟨a2, hc2, h1, h2, h4⟩, h3⟩
        refine ⟨?_, h3⟩
        have hg := get_at h.keys hj
        rw [he] at hg
        unfold PutPostF
        rw [putC_set ⟨hm, hc⟩ (fun h => by rw [show getC (S.map Td.c) (nlk k label).k = some p.c from hg] at h; cases h.1)]
        refine ⟨h1, _, h2, ?_, fun q hq => ?_⟩
        · rw [map_set h.keys hj (show p.k = (Td.mk k label a2 false).k from he)]
          show setC _ ⟨k, label, a2.c, false⟩ = setC _ ⟨k, label, a.c, false⟩
          rw [hc2]
        · rcases List.mem_or_eq_of_mem_set hq with hq | rfl
          · exact .inl hq
          · exact .inr h4
      · have hn : ∀ p ∈ S, p.k ≠ k := fun p hp e => hx ⟨p, hp, e⟩
        have hg : getC (S.map Td.c) (nlk k label).k = none := get_no hn
        by_cases hmost : 0 < most
        · by_cases hfull : most ≤ S.length
          · refine (rput_over w base b m most S h k label hk hlab a ha hm hc hn hmost hfull).mono ?_
            rintro e w' ⟨h1, h2, h3⟩
            refine ⟨?_, GrownX.of_below h3⟩
            unfold PutPostF
            rw [putC_over ⟨hm, hc⟩ ⟨hg, hmost, by rw [hle]; exact hfull⟩]
            exact ⟨h1, S, h2, rfl, fun p hp => .inl hp⟩
          · refine (rput_new1 w base b m most S h k label hk hlab a ha hm hc hz hlen hn hmost hfull).mono ?_
            rintro e w' ⟨⟨a2, hc2, h1, h2, h4⟩, h3⟩
            refine ⟨?_, h3⟩
            unfold PutPostF
            rw [putC_set ⟨hm, hc⟩ (fun h => hfull (by rw [← hle]; exact h.2.2))]
            refine ⟨h1, _, h2, ?_, fun q hq => ?_⟩
            · rw [map_snoc hn]
              show setC _ ⟨k, label, a2.c, false⟩ = setC _ ⟨k, label, a.c, false⟩
              rw [hc2]
            · rcases List.mem_append.1 hq with hq | hq
              · exact .inl hq
              · rw [List.mem_singleton] at hq
                subst hq
                exact .inr h4
        · refine (rput_new0 w base b m most S h k label hk hlab a ha hm hc hz hlen hn hmost).mono ?_
          rintro e w' ⟨⟨a2, hc2, h1, h2, h4⟩, h3⟩
          refine ⟨?_, h3⟩
          unfold PutPostF
          rw [putC_set ⟨hm, hc⟩ (fun h => hmost h.2.1)]
          refine ⟨h1, _, h2, ?_, fun q hq => ?_⟩
          · rw [map_snoc hn]
            show setC _ ⟨k, label, a2.c, false⟩ = setC _ ⟨k, label, a.c, false⟩
            rw [hc2]
          · rcases List.mem_append.1 hq with hq | hq
            · exact .inl hq
            · rw [List.mem_singleton] at hq
              subst hq
              exact .inr h4
  · refine (rput_bad1 w base b m most S h k label hk hlab a ha hm).mono ?_
    rintro e w' ⟨h1, h2, h3⟩
    refine ⟨?_, GrownX.of_below h3⟩
    unfold PutPostF
    rw [putC_bad (fun h => hm h.1)]
    exact ⟨h1, S, h2, rfl, fun p hp => .inl hp⟩
theorem rput_any (w : World) (base b m : Nat) (most : Int) (S : List Td) (h : RibAt w base b m most S) (k : Pk) (label : Nat) (hk : k.Ok) (hlab : label < 4294967296) (a : Atr) (ha : AtrOk w a) (hz : AtrSz a.c) (hlen : S.length < 1000) :
    Calls Tryz.prog 13 #[.pointer (some ⟨b, 0, none⟩), .agg #[.int .i64 k.fam, .int .u64 k.rd, .string k.addr, .int .i64 k.len, .int .u32 (k.id : Nat), .int .u32 (label : Nat)], .agg a.ar] w fun e w' => PutPost base b m most (S.map Td.c) (nlk k label) a.c w' e ∧ GrownX (fun i => i = m) w w' := by
  refine (rputF_any w base b m most S h k label hk hlab a ha hz hlen).mono ?_
  rintro e w' ⟨⟨h1, S', h2, h3, _⟩, h4⟩
  exact ⟨⟨h1, S', h2, h3⟩, h4⟩
end Go.Proofs.YtldpcliahfiloaaGreat
