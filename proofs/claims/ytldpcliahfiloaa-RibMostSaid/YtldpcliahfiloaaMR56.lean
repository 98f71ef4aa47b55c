/-
  RibMost: for all numbers and lists the law answers true. Conditions: none of its own.
-/
import Derived.Test.YtldpcliahfiloaaMR55
set_option linter.unusedVariables false
set_option linter.unusedSimpArgs false
namespace Go.Proofs.Ytldpcliahfiloaa
open Go.RowKit Go.MapKept Go.Shelf
open Go.ChangeShapes Go.WideShapes Go.ChangeAt
open Go.ChangeMaps (open_string shut_string)
open Go.Lib hiding intOf
open Go.Sort hiding Below

theorem most_of (z : Int) : ∃ n : Nat, 1 ≤ n ∧ n ≤ 20 ∧ wrap64 (1 + (wrap64 (z.tmod 20 + 20)).tmod 20) = n := by
  have h1 : -20 < z.tmod 20 ∧ z.tmod 20 < 20 := ⟨by have := Int.lt_tmod_of_pos z (show (0 : Int) < 20 by decide); omega, Int.tmod_lt_of_pos z (by decide)⟩
  have e1 : wrap64 (z.tmod 20 + 20) = z.tmod 20 + 20 := IntWalk.wrap64_in _ (by omega)
  have e2 : (z.tmod 20 + 20).tmod 20 = (z.tmod 20 + 20) % 20 := Int.tmod_eq_emod_of_nonneg (by omega)
  have e3 : wrap64 (1 + (z.tmod 20 + 20) % 20) = 1 + (z.tmod 20 + 20) % 20 := IntWalk.wrap64_in _ (by omega)
  refine ⟨(1 + (z.tmod 20 + 20) % 20).toNat, by omega, by omega, ?_⟩
  rw [e1, e2, e3]
  omega
theorem sum_le (M : List TdC) : ∀ f, sumC M f ≤ f * M.length
  | 0 => by simp [sumC]
  | f + 1 => by
    have h1 := sum_le M f
    have h2 : cntC M (f + 1 : Nat) ≤ M.length := List.length_filter_le ..
    show sumC M f + cntC M (f + 1 : Nat) ≤ _
    rw [Nat.succ_mul]
    omega
theorem put_cases {most : Nat} {M : List TdC} {k : Pk} {label n : Nat} : ∃ ov er M2, putC most M (nlk k label) (medC n) = (ov, er, M2) ∧
    ((ov = false ∧ er = 2 ∧ M = M2) ∨ (ov = true ∧ er = 0 ∧ M = M2 ∧ (getC M k).isSome = false ∧ getC M k = none ∧ (most : Int) ≤ M.length) ∨
     (ov = false ∧ er = 0 ∧ M2 = setC M ⟨k, label, medC n, false⟩ ∧ getC M2 k = some ⟨k, label, medC n, false⟩ ∧ M2.length = (if (getC M k).isSome = true then M.length else M.length + 1) ∧ (FamsC M → FamsC M2) ∧ ((getC M k).isSome = false → ¬ (0 < (most : Int) ∧ (most : Int) ≤ M.length)))) := by
  by_cases hm : nlMay (nlk k label)
  · by_cases hg : getC M (nlk k label).k = none ∧ 0 < (most : Int) ∧ (most : Int) ≤ M.length
    · have h1 : getC M k = none := hg.1
      exact ⟨_, _, _, putC_over ⟨hm, medC_ok n⟩ hg, .inr (.inl ⟨rfl, rfl, rfl, by rw [h1]; rfl, h1, hg.2.2⟩)⟩
    · refine ⟨_, _, _, putC_set ⟨hm, medC_ok n⟩ hg, .inr (.inr ⟨rfl, rfl, rfl, ?_, ?_, fun h => set_fams h (may_fam hm), fun h h2 => hg ⟨?_, h2⟩⟩)⟩
      · rw [setC_get, if_pos (show (nlk k label).k = k from rfl)]
        rfl
      · rw [setC_len]
        rfl
      · show getC M k = none
        cases he : getC M k with
        | none => rfl
        | some t => rw [he] at h; cases h
  · exact ⟨_, _, _, putC_bad (fun h => hm h.1), .inl ⟨rfl, rfl, rfl⟩⟩
theorem RibM.drew_ {w : World} {base b m : Nat} {most : Int} {M : List TdC} (h : RibM w base b m most M) : RibM w.drew base b m most M := by
  obtain ⟨S, h1, h2⟩ := h
  exact ⟨S, h1.drew 1, h2⟩
theorem GrownX.new_ {X Y : Nat → Prop} {w a c : World} (h : GrownX X w a) (k : GrownX Y a c) (hY : ∀ i, Y i → w.heap.size ≤ i) : GrownX X w c :=
  ⟨k.os.trans h.os, k.tape.trans h.tape, k.output.trans h.output, Nat.le_trans h.size k.size, fun i hi hx => (k.block i (Nat.lt_of_lt_of_le hi h.size) (fun hy => absurd (hY i hy) (by omega))).trans (h.block i hi hx)⟩
theorem AtO.off2 {w w' : World} {base g : Nat} {a : Atr} {T : TypeId} {cs : Array Value} (h : AtO w base a) (hg : w.grownBy w' (some g)) (hc : CellsAt w g cs T) (h1 : 97 ≠ T) (h2 : 30 ≠ T) (h3 : 23 ≠ T) (h4 : 82 ≠ T) : AtO w' base a :=
  { h with path := h.path.off hg hc h1 h2, comms := h.comms.off hg hc h2, exts := h.exts.off hg hc h3, larges := h.larges.off hg hc h4, clus := h.clus.off hg hc h2 }
theorem RibM.off {w w' : World} {base b m g : Nat} {most : Int} {M : List TdC} {cs : Array Value} (h : RibM w base b m most M) (hg : w.grownBy w' (some g)) (hc : CellsAt w g cs 47) (hb : b ≠ g) (hm : m ≠ g) : RibM w' base b m most M := by
  obtain ⟨S, h1, h2⟩ := h
  exact ⟨S, { h1 with blk := h1.blk.row hg hb, map := h1.map.grownBy hg (fun e => hm (by injection e)), own := fun p hp => AtO.off2 (h1.own p hp) hg hc (by decide) (by decide) (by decide) (by decide) }, h2⟩
theorem NrsOk.below {w w' : World} {A : Option Addr} {c : Nat} {L : List Nr} (h : NrsOk w A c L) (hb : Below w.heap.size w w') : NrsOk w' A c L := ⟨h.rd.below hb (Nat.le_refl _), h.len, h.cap, h.ok⟩
theorem path_mid {w : World} {b : Nat} {T : TypeId} {k : Pk} {l : Nat} {a : Atr} {s : Bool} (h : CellsAt w b (pathAr k l a s) T) : w.rangeAt b 6 a.ar.toList := fun j v hv => by
  rw [h.c]
  have e : (pathAr k l a s).toList = [.int .i64 k.fam, .int .u64 k.rd, .string k.addr, .int .i64 k.len, .int .u32 (k.id : Nat), .int .u32 (l : Nat)] ++ (a.cs ++ [.int .i64 0, .string ⟨#[]⟩, .int .u32 0, .int .u32 0, .string ⟨#[]⟩, .string ⟨#[]⟩, .bool s]) := rfl
  have hv2 : a.cs[j]? = some v := hv
  rw [← Array.getElem?_toList, e, List.getElem?_append_right (by simp)]
  simp only [List.length_cons, List.length_nil, Nat.zero_add, Nat.reduceAdd, Nat.add_sub_cancel_left]
  rw [List.getElem?_append_left (List.getElem?_eq_some_iff.1 hv2).1]
  exact hv2
theorem yields_attrs6 {ops : Array Oper} {S : World → Prop} {o : Oper} {a : Act} (hw : Region.wanted o (yielded ops a.tmps) = true) (src : Operand) (ho : o.op = .load 41 src)
    (b : Nat) (hx : a.eval src = .pointer (some ⟨b, 6, none⟩)) (p : Atr) (hS : ∀ w, S w → w.rangeAt b 6 p.ar.toList) : YieldsIf Try.prog ops S o (.agg p.ar) a := by
  obtain ⟨fs, hu⟩ := attrs_under
  exact yieldsIf_load_mid hw 41 src ho b 6 hx p.ar.toList _ hS hu rfl (by rw [attrs_size]; rfl)
set_option maxRecDepth 100000 in
set_option maxHeartbeats 16000000 in
theorem most_walk (z : Int) (A : Option Addr) (L0 : List Nr) (cap : Nat) (w : World) (h : NrsOk w A cap L0) :
    Calls Try.prog 4 #[.int .i64 z, .slice A L0.length cap] w fun e w' => e = .returned (.bool true) ∧ Below w.heap.size w w' := by
  have hm1 := h.len
  have hm2 := h.cap
  obtain ⟨N, hN, hN1, hN2⟩ : ∃ N : Nat, min (L0.length : Int) 60 = (N : Int) ∧ N ≤ L0.length ∧ N ≤ 60 := ⟨min L0.length 60, by omega, by omega, by omega⟩
  have HL := Lib.hid (h.take hN1)
  have hln : (L0.take N).length = N := by rw [List.length_take]; omega
  have hcapN : N ≤ cap := by omega
  generalize L0.take N = L at HL hln
  clear h
  have HWK := Lib.hid rworks_any
  obtain ⟨most, hmo1, hmo2, hmo⟩ := most_of z
  have HMO := Lib.hid hmo
  have HNEW := Lib.hid (fun w => rnewM_any most w)
  clear hmo
  go_enter Try.func4, Try.ntmps4
  go_wp2_with fail
  refine (HWK.out _).mono ?_
  rintro e w1 ⟨rfl, hb1⟩
  have HB1 : Hid (Below w.heap.size w w1) := hb1
  clear hb1
  go_upto_region 4 with fail
  rw [HMO.out]
  clear HMO
  go_wp2_with fail
  refine (HNEW.out _).mono ?_
  rintro e w2 ⟨b, m, rfl, hr, hb, hm, hbb⟩
  obtain ⟨bs, hbs⟩ : ∃ bs, bs = w1.heap.size := ⟨_, rfl⟩
  rw [← hbs] at hr
  have HM : Hid (w.heap.size ≤ m) := Nat.le_trans HB1.out.size hm
  have HR0 : Hid (RibM w2 bs b m most []) := hr
  have HB0 : Hid (Below w.heap.size w w2) := HB1.out.trans (hb.mono HB1.out.size)
  clear hbs hr hb hm hbb HB1 hN HNEW
  go_wp2_with fail
  go_loopw [6, 7] (fun c i wr => ∃ (cn n : Nat) (M : List TdC), c = .int .i64 cn ∧ i = .int .i64 n ∧ n ≤ N ∧ Hid (cn = M.length) ∧ Hid (RibM wr bs b m most M) ∧ cn ≤ most ∧ cn ≤ n ∧ Hid (FamsC M) ∧ Hid (Below w.heap.size w wr)) (fun _ i _ => N + 1 - (intOf i).toNat)
  case atStart => exact ⟨0, 0, [], rfl, rfl, by omega, rfl, HR0.out, by omega, by omega, (fun t ht => by cases ht), HB0.out⟩
  case round =>
    clear HR0 HB0
    obtain ⟨cn, n, M, rfl, rfl, hn, HCN, HRwr, hcm, hcn2, HFM, HBwr⟩ := hrel
    by_cases hlt : n < N
    · obtain ⟨x, hx⟩ : ∃ x, L[n]? = some x := ⟨L[n]'(by rw [hln]; exact hlt), List.getElem?_eq_getElem _⟩
      have HXOK := Lib.hid (HL.out.ok x (List.mem_of_getElem? hx))
      obtain ⟨b0, off, rfl, hb0, hrow⟩ := HL.out.row hx (Nat.le_refl _)
      obtain ⟨k, label⟩ := x
      dsimp only at hrow
      have HROWW := Lib.hid hrow
      have HKO : Hid k.Ok := HXOK.out.k
      have HLA : Hid (label < 4294967296) := HXOK.out.label
      have HMED : Hid (n < 4294967296) := by show _ < _; omega
      have hcv : IntKind.u32.wrap (n : Int) = n := by rw [IntKind.wrap_u32]; omega
      clear hx hrow HXOK
      have HROW : Hid (∀ W, GrownX (fun i => i = m) wr W → W.cell? ⟨b0, off + n * 6, none⟩ = some (.int .i64 k.fam) ∧ W.cell? ⟨b0, off + n * 6 + 1, none⟩ = some (.int .u64 k.rd) ∧ W.cell? ⟨b0, off + n * 6 + 2, none⟩ = some (.string k.addr) ∧ W.cell? ⟨b0, off + n * 6 + 3, none⟩ = some (.int .i64 k.len) ∧ W.cell? ⟨b0, off + n * 6 + 4, none⟩ = some (.int .u32 (k.id : Nat)) ∧ W.cell? ⟨b0, off + n * 6 + 5, none⟩ = some (.int .u32 (label : Nat))) := fun W hW => HROWW.out W (hW.below HBwr.out (fun i hi => by rw [hi]; exact HM.out) HBwr.out.size)
      have HGET : Hid (∀ W, RibM W bs b m most M → Calls Try.prog 13 #[.pointer (some ⟨b, 0, none⟩), .agg #[.int .i64 k.fam, .int .u64 k.rd, .string k.addr, .int .i64 k.len], .int .u32 (k.id : Nat)] W fun e w' => (∃ kk l a s, e = .returned (.tuple #[.agg (pathAr kk l a s), .bool (getC M k).isSome]) ∧ (∀ t, getC M k = some t → l = t.label ∧ a.c = t.c ∧ s = t.stale) ∧ AtO w' W.heap.size a) ∧ Below W.heap.size W w') := fun W h => rgetW_any h k HKO.out
      have HRISE := Lib.hid (@put_cases most M k label n)
      obtain ⟨is0, his⟩ : ∃ q, q = (getC M k).isSome := ⟨_, rfl⟩
      rw [← his] at HGET HRISE
      clear his
      go_upto_region 10 with fail
      go_cut [8, 9] (fun v8 v9 wx => ∃ (g : Nat) (kk : Pk) (l : Nat) (a : Atr) (s : Bool), v8 = .pointer (some ⟨g, 0, none⟩) ∧ v9 = .bool is0 ∧ Hid (CellsAt wx g (pathAr kk l a s) 47) ∧ Hid (∀ t, getC M k = some t → l = t.label ∧ a.c = t.c ∧ s = t.stale) ∧ Hid (RibM wx bs b m most M) ∧ Hid (AtrOk wx a) ∧ Hid (Below w.heap.size w wx))
      case first =>
        refine wp_region_held_drew (S := fun w' => GrownX (fun i => i = m) wr w') (by kernel_rfl) ((GrownX.refl _ _).drew 1) (fun hHeld => ?_)
        refine wpAnyH_take (i := 0) (oi := { dst := some 37, op := Op.move (Operand.tmp 5), type := 25, pos := "outright.go:137", after := #[], guard := none }) (v := ?_) rfl (by kernel_rfl) (by kernel_rfl) (by kernel_rfl) (fun _ _ _ h => h) (Or.inl ⟨by rfl, ?_⟩) hHeld ?_
        rotate_left
        · intro w hSw
          clear hSw
          go_simp
          try with_reducible rfl
        try simp only [Act.put, List.setIfInBounds_toArray, List.set_cons_zero, List.set_cons_succ]
        refine wpAnyH_take (i := 1) (oi := { dst := some 38, op := Op.move (Operand.tmp 1), type := 22, pos := "outright.go:137", after := #[], guard := none }) (v := ?_) rfl (by kernel_rfl) (by kernel_rfl) (by kernel_rfl) (fun _ _ _ h => h) (Or.inl ⟨by rfl, ?_⟩) hHeld ?_
        rotate_left
        · intro w hSw
          clear hSw
          go_simp
          try with_reducible rfl
        try simp only [Act.put, List.setIfInBounds_toArray, List.set_cons_zero, List.set_cons_succ]
        refine wpAnyH_take (i := 2) (oi := { dst := some 39, op := Op.move (Operand.tmp 7), type := 3, pos := "outright.go:137", after := #[], guard := none }) (v := ?_) rfl (by kernel_rfl) (by kernel_rfl) (by kernel_rfl) (fun _ _ _ h => h) (Or.inl ⟨by rfl, ?_⟩) hHeld ?_
        rotate_left
        · intro w hSw
          clear hSw
          go_simp
          try with_reducible rfl
        try simp only [Act.put, List.setIfInBounds_toArray, List.set_cons_zero, List.set_cons_succ]
        refine wpAnyH_take (i := 3) (oi := { dst := some 40, op := Op.indexAddr 22 (Operand.tmp 38) (Operand.tmp 39), type := 0, pos := "outright.go:137", after := #[{ on := 1, ground := Ground.data }, { on := 2, ground := Ground.data }], guard := none }) (v := ?_) rfl (by kernel_rfl) (by kernel_rfl) (by kernel_rfl) (fun _ _ _ h => h) (Or.inl ⟨by rfl, ?_⟩) hHeld ?_
        rotate_left
        · intro w hSw
          clear hSw
          go_simp
          try with_reducible rfl
        try simp only [Act.put, List.setIfInBounds_toArray, List.set_cons_zero, List.set_cons_succ]
        refine wpAnyH_take (i := 4) (oi := { dst := some 41, op := Op.fieldAddr 32 (Operand.tmp 40) 0, type := 0, pos := "outright.go:137", after := #[{ on := 3, ground := Ground.data }], guard := none }) (v := ?_) rfl (by kernel_rfl) (by kernel_rfl) (by kernel_rfl) (fun _ _ _ h => h) (Or.inl ⟨by rfl, ?_⟩) hHeld ?_
        rotate_left
        · intro w hSw
          clear hSw
          go_simp
          try with_reducible rfl
        try simp only [Act.put, List.setIfInBounds_toArray, List.set_cons_zero, List.set_cons_succ]
        refine wpAnyH_take (i := 5) (oi := { dst := some 42, op := Op.load 29 (Operand.tmp 41), type := 29, pos := "outright.go:137", after := #[{ on := 4, ground := Ground.data }], guard := none }) (v := ?_) rfl (by kernel_rfl) (by kernel_rfl) (by kernel_rfl) (fun _ _ _ h => h) (Or.inl ⟨by rfl, ?_⟩) hHeld ?_
        rotate_left
        · intro w hSw
          obtain ⟨c0, c1, c2, c3, c4, c5⟩ := HROW.out w hSw
          go_simp
          try with_reducible rfl
        try simp only [Act.put, List.setIfInBounds_toArray, List.set_cons_zero, List.set_cons_succ]
        refine wpAnyH_take (i := 6) (oi := { dst := some 43, op := Op.move (Operand.tmp 1), type := 22, pos := "outright.go:137", after := #[], guard := none }) (v := ?_) rfl (by kernel_rfl) (by kernel_rfl) (by kernel_rfl) (fun _ _ _ h => h) (Or.inl ⟨by rfl, ?_⟩) hHeld ?_
        rotate_left
        · intro w hSw
          clear hSw
          go_simp
          try with_reducible rfl
        try simp only [Act.put, List.setIfInBounds_toArray, List.set_cons_zero, List.set_cons_succ]
        refine wpAnyH_take (i := 7) (oi := { dst := some 44, op := Op.move (Operand.tmp 7), type := 3, pos := "outright.go:137", after := #[], guard := none }) (v := ?_) rfl (by kernel_rfl) (by kernel_rfl) (by kernel_rfl) (fun _ _ _ h => h) (Or.inl ⟨by rfl, ?_⟩) hHeld ?_
        rotate_left
        · intro w hSw
          clear hSw
          go_simp
          try with_reducible rfl
        try simp only [Act.put, List.setIfInBounds_toArray, List.set_cons_zero, List.set_cons_succ]
        refine wpAnyH_take (i := 8) (oi := { dst := some 45, op := Op.indexAddr 22 (Operand.tmp 43) (Operand.tmp 44), type := 0, pos := "outright.go:137", after := #[{ on := 6, ground := Ground.data }, { on := 7, ground := Ground.data }], guard := none }) (v := ?_) rfl (by kernel_rfl) (by kernel_rfl) (by kernel_rfl) (fun _ _ _ h => h) (Or.inl ⟨by rfl, ?_⟩) hHeld ?_
        rotate_left
        · intro w hSw
          clear hSw
          go_simp
          try with_reducible rfl
        try simp only [Act.put, List.setIfInBounds_toArray, List.set_cons_zero, List.set_cons_succ]
        refine wpAnyH_take (i := 9) (oi := { dst := some 46, op := Op.fieldAddr 32 (Operand.tmp 45) 1, type := 0, pos := "outright.go:137", after := #[{ on := 8, ground := Ground.data }], guard := none }) (v := ?_) rfl (by kernel_rfl) (by kernel_rfl) (by kernel_rfl) (fun _ _ _ h => h) (Or.inl ⟨by rfl, ?_⟩) hHeld ?_
        rotate_left
        · intro w hSw
          clear hSw
          go_simp
          try with_reducible rfl
        try simp only [Act.put, List.setIfInBounds_toArray, List.set_cons_zero, List.set_cons_succ]
        refine wpAnyH_take (i := 10) (oi := { dst := some 47, op := Op.load 30 (Operand.tmp 46), type := 30, pos := "outright.go:137", after := #[{ on := 9, ground := Ground.data }], guard := none }) (v := ?_) rfl (by kernel_rfl) (by kernel_rfl) (by kernel_rfl) (fun _ _ _ h => h) (Or.inl ⟨by rfl, ?_⟩) hHeld ?_
        rotate_left
        · intro w hSw
          obtain ⟨c0, c1, c2, c3, c4, c5⟩ := HROW.out w hSw
          go_simp
          try with_reducible rfl
        try simp only [Act.put, List.setIfInBounds_toArray, List.set_cons_zero, List.set_cons_succ]
        refine wpAnyH_ready (rs := [11, 15]) (by kernel_rfl) (by simp) ?_
        refine AllReadyH.cons (o := { dst := some 48, op := Op.call { callee := Callee.value (Operand.func 13), args := #[Operand.tmp 37, Operand.tmp 42, Operand.tmp 47], argTypes := #[25, 29, 30] }, type := 48, pos := "outright.go:137", after := #[{ on := 0, ground := Ground.data }, { on := 5, ground := Ground.data }, { on := 10, ground := Ground.data }], guard := none }) rfl (fun K hK => ?_) ?_
        · go_simp
          refine (HGET.out _ (HRwr.out.drew_)).mono ?_
          rintro e w9 ⟨⟨kk9, l9, a9, s9, rfl, hfa, ho9⟩, hw9⟩
          have HRx9 : Hid (RibM w9 bs b m most M) := (HRwr.out.drew_).below hw9
          have HFAx9 := Lib.hid hfa
          have HOx9 := Lib.hid ho9
          have HG9 : Hid (GrownX (fun i => i = m) wr w9) := hHeld.trans (GrownX.of_below hw9)
          clear hfa ho9
          refine hK.out _ _ HG9.out (fun hHeld => ?_)
          clear hK K
          try simp only [Act.put, List.setIfInBounds_toArray, List.set_cons_zero, List.set_cons_succ]
          refine wpAnyH_take (i := 12) (oi := { dst := some 36, op := Op.move (Operand.tmp 48), type := 48, pos := "outright.go:137", after := #[{ on := 11, ground := Ground.data }], guard := none }) (v := ?_) rfl (by kernel_rfl) (by kernel_rfl) (by kernel_rfl) (fun _ _ _ h => h) (Or.inl ⟨by rfl, ?_⟩) hHeld ?_
          rotate_left
          · intro w hSw
            clear hSw
            go_simp
            try with_reducible rfl
          try simp only [Act.put, List.setIfInBounds_toArray, List.set_cons_zero, List.set_cons_succ]
          refine wpAnyH_take (i := 13) (oi := { dst := some 49, op := Op.extract (Operand.tmp 36) 0, type := 47, pos := "outright.go:137", after := #[{ on := 12, ground := Ground.data }], guard := none }) (v := ?_) rfl (by kernel_rfl) (by kernel_rfl) (by kernel_rfl) (fun _ _ _ h => h) (Or.inl ⟨by rfl, ?_⟩) hHeld ?_
          rotate_left
          · intro w hSw
            clear hSw
            go_simp
            try with_reducible rfl
          try simp only [Act.put, List.setIfInBounds_toArray, List.set_cons_zero, List.set_cons_succ]
          refine wpAnyH_take (i := 14) (oi := { dst := some 50, op := Op.extract (Operand.tmp 36) 1, type := 4, pos := "outright.go:137", after := #[{ on := 12, ground := Ground.data }, { on := 16, ground := Ground.gcOnly Departure.lateStores }], guard := none }) (v := ?_) rfl (by kernel_rfl) (by kernel_rfl) (by kernel_rfl) (fun _ _ _ h => h) (Or.inl ⟨by rfl, ?_⟩) hHeld ?_
          rotate_left
          · intro w hSw
            clear hSw
            go_simp
            try with_reducible rfl
          try simp only [Act.put, List.setIfInBounds_toArray, List.set_cons_zero, List.set_cons_succ]
          have HNx9 : Hid (∀ cs : Array Value, CellsAt (w9.alloc (.cells cs 47)) w9.heap.size cs 47) := fun cs => CellsAt.new _ _ _
          have HGSx9 : Hid (∀ cs : Array Value, GrownX (fun i => i = m) wr ((w9.alloc (.cells cs 47)).setRow w9.heap.size (pathAr kk9 l9 a9 s9))) := fun cs => HG9.out.trans ((GrownX.of_below ((Below.refl _ _).alloc (Nat.le_refl _) _)).new_ (GrownX.of_row (X := fun i => i = w9.heap.size) (grown_setRow' _ _ _) rfl) (fun i hi => by rw [hi]; exact Nat.le_refl _))
          refine wpAnyH_ready (rs := [15]) (by kernel_rfl) (by simp) ?_
          refine AllReadyH.cons (o := { dst := some 8, op := Op.alloc 47, type := 0, pos := "outright.go:137", after := #[], guard := none }) rfl (fun K hK => ?_) AllReadyH.nil
          go_simp
          refine hK.out _ _ (HG9.out.trans (GrownX.of_below ((Below.refl _ _).alloc (Nat.le_refl _) _))) (fun hHeld => ?_)
          clear hK K
          try simp only [Act.put, List.setIfInBounds_toArray, List.set_cons_zero, List.set_cons_succ]
          refine wpAnyH_ready (rs := [16]) (by kernel_rfl) (by simp) ?_
          refine AllReadyH.cons (o := { dst := none, op := Op.store 47 (Operand.tmp 8) (Operand.tmp 49), type := 0, pos := "outright.go:137", after := #[{ on := 15, ground := Ground.data }, { on := 13, ground := Ground.data }, { on := 11, ground := Ground.chain }, { on := 0, ground := Ground.phase }, { on := 1, ground := Ground.phase }, { on := 2, ground := Ground.phase }, { on := 3, ground := Ground.phase }, { on := 4, ground := Ground.phase }, { on := 5, ground := Ground.phase }, { on := 6, ground := Ground.phase }, { on := 7, ground := Ground.phase }, { on := 8, ground := Ground.phase }, { on := 9, ground := Ground.phase }, { on := 10, ground := Ground.phase }, { on := 11, ground := Ground.phase }, { on := 12, ground := Ground.phase }, { on := 13, ground := Ground.phase }, { on := 14, ground := Ground.textOnly Departure.lateStores }, { on := 15, ground := Ground.phase }], guard := none }) rfl (fun K hK => ?_) AllReadyH.nil
          refine wp_store_row 47 (.tmp 8) (.tmp 49) rfl w9.heap.size (pathAr kk9 l9 a9 s9) rfl rfl 47 _ (HNx9.out _) (by rw [path_size]; rfl) rfl (path_ones _ _ _ _) ?_
          refine hK.out _ _ (HGSx9.out _) (fun hHeld => ?_)
          clear hK K
          try simp only [Act.put, List.setIfInBounds_toArray, List.set_cons_zero, List.set_cons_succ]
          refine wpAnyH_take (i := 17) (oi := { dst := some 9, op := Op.assign (Operand.tmp 50), type := 4, pos := "outright.go:137", after := #[{ on := 14, ground := Ground.data }, { on := 16, ground := Ground.chain }, { on := 0, ground := Ground.phase }, { on := 1, ground := Ground.phase }, { on := 2, ground := Ground.phase }, { on := 3, ground := Ground.phase }, { on := 4, ground := Ground.phase }, { on := 5, ground := Ground.phase }, { on := 6, ground := Ground.phase }, { on := 7, ground := Ground.phase }, { on := 8, ground := Ground.phase }, { on := 9, ground := Ground.phase }, { on := 10, ground := Ground.phase }, { on := 11, ground := Ground.phase }, { on := 12, ground := Ground.phase }, { on := 13, ground := Ground.phase }, { on := 14, ground := Ground.phase }, { on := 15, ground := Ground.phase }, { on := 16, ground := Ground.phase }], guard := none }) (v := ?_) rfl (by kernel_rfl) (by kernel_rfl) (by kernel_rfl) (fun _ _ _ h => h) (Or.inl ⟨by rfl, ?_⟩) hHeld ?_
          rotate_left
          · intro w hSw
            clear hSw
            go_simp
            try with_reducible rfl
          try simp only [Act.put, List.setIfInBounds_toArray, List.set_cons_zero, List.set_cons_succ]
          refine wpAnyH_done (by kernel_rfl) ?_ _
          have hb9 : ∀ cs : Array Value, Below w9.heap.size w9 ((w9.alloc (.cells cs 47)).setRow w9.heap.size (pathAr kk9 l9 a9 s9)) := fun cs => ((Below.refl _ _).alloc (Nat.le_refl _) _).grown (grown_setRow' _ _ _) (by simp) (fun q hq => by cases hq; exact Nat.le_refl _)
          have HF1 := Lib.hid (fun cs => (HNx9.out cs).setRow' (pathAr kk9 l9 a9 s9))
          have HF2 := Lib.hid (fun cs => HRx9.out.below (hb9 cs))
          have HF3 := Lib.hid (fun cs => (AtO.below HOx9.out (hb9 cs)).ok)
          have HF4 := Lib.hid (fun cs => (HGSx9.out cs).below HBwr.out (fun i hi => by rw [hi]; exact HM.out) HBwr.out.size)
          clear hb9 hHeld
          go_wp2_with fail
          go_meet
          exact ⟨_, kk9, l9, a9, s9, rfl, rfl, HF1.out _, HFAx9.out, HF2.out _, HF3.out _, HF4.out _⟩
        · refine AllReadyH.cons (o := { dst := some 8, op := Op.alloc 47, type := 0, pos := "outright.go:137", after := #[], guard := none }) rfl (fun K hK => ?_) AllReadyH.nil
          go_simp
          have HNB : Hid (∀ cs : Array Value, CellsAt (wr.drew.alloc (.cells cs 47)) wr.heap.size cs 47) := fun cs => CellsAt.new wr.drew _ _
          have HRB : Hid (∀ cs : Array Value, RibM (wr.drew.alloc (.cells cs 47)) bs b m most M) := fun cs => HRwr.out.drew_.below ((Below.refl _ _).alloc (Nat.le_refl _) _)
          have hbZ := HRwr.out.lt.1
          have hmZ := HRwr.out.lt.2.1
          have hsz : ∀ cs : Array Value, (wr.drew.alloc (.cells cs 47)).heap.size = wr.heap.size + 1 := fun cs => by rw [World.size_alloc]; rfl
          have HSZB := Lib.hid hsz
          clear hsz
          refine hK.out _ _ (hHeld.trans (GrownX.of_below ((Below.refl _ _).alloc (Nat.le_refl _) _))) (fun hHeld => ?_)
          clear hK K
          try simp only [Act.put, List.setIfInBounds_toArray, List.set_cons_zero, List.set_cons_succ]
          refine wpAnyH_ready (rs := [11]) (by kernel_rfl) (by simp) ?_
          refine AllReadyH.cons (o := { dst := some 48, op := Op.call { callee := Callee.value (Operand.func 13), args := #[Operand.tmp 37, Operand.tmp 42, Operand.tmp 47], argTypes := #[25, 29, 30] }, type := 48, pos := "outright.go:137", after := #[{ on := 0, ground := Ground.data }, { on := 5, ground := Ground.data }, { on := 10, ground := Ground.data }], guard := none }) rfl (fun K hK => ?_) AllReadyH.nil
          go_simp
          refine (HGET.out _ (HRB.out _)).mono ?_
          rintro e w9 ⟨⟨kk9, l9, a9, s9, rfl, hfa, ho9⟩, hw9⟩
          have HRx9 : Hid (RibM w9 bs b m most M) := (HRB.out _).below hw9
          have HFAx9 := Lib.hid hfa
          have HOx9 := Lib.hid ho9
          have HG9 : Hid (GrownX (fun i => i = m) wr w9) := hHeld.trans (GrownX.of_below hw9)
          clear hfa ho9
          refine hK.out _ _ HG9.out (fun hHeld => ?_)
          clear hK K
          try simp only [Act.put, List.setIfInBounds_toArray, List.set_cons_zero, List.set_cons_succ]
          refine wpAnyH_take (i := 12) (oi := { dst := some 36, op := Op.move (Operand.tmp 48), type := 48, pos := "outright.go:137", after := #[{ on := 11, ground := Ground.data }], guard := none }) (v := ?_) rfl (by kernel_rfl) (by kernel_rfl) (by kernel_rfl) (fun _ _ _ h => h) (Or.inl ⟨by rfl, ?_⟩) hHeld ?_
          rotate_left
          · intro w hSw
            clear hSw
            go_simp
            try with_reducible rfl
          try simp only [Act.put, List.setIfInBounds_toArray, List.set_cons_zero, List.set_cons_succ]
          refine wpAnyH_take (i := 13) (oi := { dst := some 49, op := Op.extract (Operand.tmp 36) 0, type := 47, pos := "outright.go:137", after := #[{ on := 12, ground := Ground.data }], guard := none }) (v := ?_) rfl (by kernel_rfl) (by kernel_rfl) (by kernel_rfl) (fun _ _ _ h => h) (Or.inl ⟨by rfl, ?_⟩) hHeld ?_
          rotate_left
          · intro w hSw
            clear hSw
            go_simp
            try with_reducible rfl
          try simp only [Act.put, List.setIfInBounds_toArray, List.set_cons_zero, List.set_cons_succ]
          refine wpAnyH_take (i := 14) (oi := { dst := some 50, op := Op.extract (Operand.tmp 36) 1, type := 4, pos := "outright.go:137", after := #[{ on := 12, ground := Ground.data }, { on := 16, ground := Ground.gcOnly Departure.lateStores }], guard := none }) (v := ?_) rfl (by kernel_rfl) (by kernel_rfl) (by kernel_rfl) (fun _ _ _ h => h) (Or.inl ⟨by rfl, ?_⟩) hHeld ?_
          rotate_left
          · intro w hSw
            clear hSw
            go_simp
            try with_reducible rfl
          try simp only [Act.put, List.setIfInBounds_toArray, List.set_cons_zero, List.set_cons_succ]
          have HC9 := Lib.hid ((HNB.out _).below hw9 (HNB.out _).lt)
          have HGS9 : Hid (GrownX (fun i => i = m) wr (w9.setRow wr.heap.size (pathAr kk9 l9 a9 s9))) := HG9.out.new_ (GrownX.of_row (X := fun i => i = wr.heap.size) (grown_setRow' _ _ _) rfl) (fun i hi => by rw [hi]; exact Nat.le_refl _)
          refine wpAnyH_ready (rs := [16]) (by kernel_rfl) (by simp) ?_
          refine AllReadyH.cons (o := { dst := none, op := Op.store 47 (Operand.tmp 8) (Operand.tmp 49), type := 0, pos := "outright.go:137", after := #[{ on := 15, ground := Ground.data }, { on := 13, ground := Ground.data }, { on := 11, ground := Ground.chain }, { on := 0, ground := Ground.phase }, { on := 1, ground := Ground.phase }, { on := 2, ground := Ground.phase }, { on := 3, ground := Ground.phase }, { on := 4, ground := Ground.phase }, { on := 5, ground := Ground.phase }, { on := 6, ground := Ground.phase }, { on := 7, ground := Ground.phase }, { on := 8, ground := Ground.phase }, { on := 9, ground := Ground.phase }, { on := 10, ground := Ground.phase }, { on := 11, ground := Ground.phase }, { on := 12, ground := Ground.phase }, { on := 13, ground := Ground.phase }, { on := 14, ground := Ground.textOnly Departure.lateStores }, { on := 15, ground := Ground.phase }], guard := none }) rfl (fun K hK => ?_) AllReadyH.nil
          refine wp_store_row 47 (.tmp 8) (.tmp 49) rfl wr.heap.size (pathAr kk9 l9 a9 s9) rfl rfl 47 _ HC9.out (by rw [path_size]; rfl) rfl (path_ones _ _ _ _) ?_
          refine hK.out _ _ (HGS9.out) (fun hHeld => ?_)
          clear hK K
          try simp only [Act.put, List.setIfInBounds_toArray, List.set_cons_zero, List.set_cons_succ]
          refine wpAnyH_take (i := 17) (oi := { dst := some 9, op := Op.assign (Operand.tmp 50), type := 4, pos := "outright.go:137", after := #[{ on := 14, ground := Ground.data }, { on := 16, ground := Ground.chain }, { on := 0, ground := Ground.phase }, { on := 1, ground := Ground.phase }, { on := 2, ground := Ground.phase }, { on := 3, ground := Ground.phase }, { on := 4, ground := Ground.phase }, { on := 5, ground := Ground.phase }, { on := 6, ground := Ground.phase }, { on := 7, ground := Ground.phase }, { on := 8, ground := Ground.phase }, { on := 9, ground := Ground.phase }, { on := 10, ground := Ground.phase }, { on := 11, ground := Ground.phase }, { on := 12, ground := Ground.phase }, { on := 13, ground := Ground.phase }, { on := 14, ground := Ground.phase }, { on := 15, ground := Ground.phase }, { on := 16, ground := Ground.phase }], guard := none }) (v := ?_) rfl (by kernel_rfl) (by kernel_rfl) (by kernel_rfl) (fun _ _ _ h => h) (Or.inl ⟨by rfl, ?_⟩) hHeld ?_
          rotate_left
          · intro w hSw
            clear hSw
            go_simp
            try with_reducible rfl
          try simp only [Act.put, List.setIfInBounds_toArray, List.set_cons_zero, List.set_cons_succ]
          refine wpAnyH_done (by kernel_rfl) ?_ _
          have HF1 := Lib.hid (HC9.out.setRow' (pathAr kk9 l9 a9 s9))
          have HF2 := Lib.hid (HRx9.out.off (grown_setRow' w9 wr.heap.size (pathAr kk9 l9 a9 s9)) HC9.out (Nat.ne_of_lt hbZ) (Nat.ne_of_lt hmZ))
          have HF3 := Lib.hid (AtO.ok (AtO.keep HOx9.out (fun i h1 h2 => (grown_setRow' w9 wr.heap.size (pathAr kk9 l9 a9 s9)).block i h2 (fun e => by injection e with e; rw [HSZB.out] at h1; omega))))
          have HF4 := Lib.hid (HGS9.out.below HBwr.out (fun i hi => by rw [hi]; exact HM.out) HBwr.out.size)
          clear hHeld hbZ hmZ
          go_wp2_with fail
          go_meet
          exact ⟨_, kk9, l9, a9, s9, rfl, rfl, HF1.out, HFAx9.out, HF2.out, HF3.out, HF4.out⟩
      case rest =>
      obtain ⟨g4, kk8, l8, a8, s8, rfl, rfl, HPA, HFAx8, HRZ4, HAO8, HBZ4⟩ := hcut
      obtain ⟨Z4, hZ4⟩ : ∃ x, x = wc := ⟨_, rfl⟩
      subst hZ4
      obtain ⟨Z1, hZ1⟩ : ∃ x, x = Z4 := ⟨_, rfl⟩
      subst hZ1
      have HRZ1 : Hid (RibM Z1 bs b m most M) := HRZ4
      have HBZ1 : Hid (Below w.heap.size w Z1) := HBZ4
      have HROW : Hid (∀ W, GrownX (fun i => i = m) Z1 W → W.cell? ⟨b0, off + n * 6, none⟩ = some (.int .i64 k.fam) ∧ W.cell? ⟨b0, off + n * 6 + 1, none⟩ = some (.int .u64 k.rd) ∧ W.cell? ⟨b0, off + n * 6 + 2, none⟩ = some (.string k.addr) ∧ W.cell? ⟨b0, off + n * 6 + 3, none⟩ = some (.int .i64 k.len) ∧ W.cell? ⟨b0, off + n * 6 + 4, none⟩ = some (.int .u32 (k.id : Nat)) ∧ W.cell? ⟨b0, off + n * 6 + 5, none⟩ = some (.int .u32 (label : Nat))) := fun W hW => HROWW.out W (hW.below HBZ1.out (fun i hi => by rw [hi]; exact HM.out) HBZ1.out.size)
      clear HGET HPA HFAx8 HRZ4 HAO8 HBZ4 HRwr HBwr
      go_upto_region 11 with fail
      obtain ⟨ov, er, M2, hpc, hcases⟩ := HRISE.out
      have HCASE := Lib.hid hcases
      have HPUT : Hid (∀ W, RibM W bs b m most M → Calls Try.prog 10 #[.pointer (some ⟨b, 0, none⟩), .agg #[.int .i64 k.fam, .int .u64 k.rd, .string k.addr, .int .i64 k.len, .int .u32 (k.id : Nat), .int .u32 (label : Nat)], .agg (medA n).ar] W fun e w' => (e = .returned (.tuple #[.bool ov, .int .i64 er]) ∧ RibM w' bs b m most M2) ∧ GrownX (fun i => i = m) W w') := fun W h => (rputM_any h k label HKO.out HLA.out (medA n) (medA_own W 0 HMED.out).ok (medC_sz n) (by rw [← HCN.out]; omega)).mono fun e w' h2 => by
        have h3 := h2.1
        unfold PutPost at h3
        rw [medA_c, hpc] at h3
        exact ⟨h3, h2.2⟩
      clear hpc hcases HRISE
      refine wp_region_held_drew (S := fun w' => GrownX (fun i => i = m) Z1 w') (by kernel_rfl) ((GrownX.refl _ _).drew 1) (fun hHeld => ?_)
      refine wpAnyH_take (i := 0) (oi := { dst := some 52, op := Op.move (Operand.tmp 5), type := 25, pos := "outright.go:138", after := #[], guard := none }) (v := ?_) rfl (by kernel_rfl) (by kernel_rfl) (by kernel_rfl) (fun _ _ _ h => h) (Or.inl ⟨by rfl, ?_⟩) hHeld ?_
      rotate_left
      · intro w hSw
        clear hSw
        go_simp
        try with_reducible rfl
      try simp only [Act.put, List.setIfInBounds_toArray, List.set_cons_zero, List.set_cons_succ]
      refine wpAnyH_take (i := 1) (oi := { dst := some 53, op := Op.move (Operand.tmp 1), type := 22, pos := "outright.go:138", after := #[], guard := none }) (v := ?_) rfl (by kernel_rfl) (by kernel_rfl) (by kernel_rfl) (fun _ _ _ h => h) (Or.inl ⟨by rfl, ?_⟩) hHeld ?_
      rotate_left
      · intro w hSw
        clear hSw
        go_simp
        try with_reducible rfl
      try simp only [Act.put, List.setIfInBounds_toArray, List.set_cons_zero, List.set_cons_succ]
      refine wpAnyH_take (i := 2) (oi := { dst := some 54, op := Op.move (Operand.tmp 7), type := 3, pos := "outright.go:138", after := #[], guard := none }) (v := ?_) rfl (by kernel_rfl) (by kernel_rfl) (by kernel_rfl) (fun _ _ _ h => h) (Or.inl ⟨by rfl, ?_⟩) hHeld ?_
      rotate_left
      · intro w hSw
        clear hSw
        go_simp
        try with_reducible rfl
      try simp only [Act.put, List.setIfInBounds_toArray, List.set_cons_zero, List.set_cons_succ]
      refine wpAnyH_take (i := 3) (oi := { dst := some 55, op := Op.indexAddr 22 (Operand.tmp 53) (Operand.tmp 54), type := 0, pos := "outright.go:138", after := #[{ on := 1, ground := Ground.data }, { on := 2, ground := Ground.data }], guard := none }) (v := ?_) rfl (by kernel_rfl) (by kernel_rfl) (by kernel_rfl) (fun _ _ _ h => h) (Or.inl ⟨by rfl, ?_⟩) hHeld ?_
      rotate_left
      · intro w hSw
        clear hSw
        go_simp
        try with_reducible rfl
      try simp only [Act.put, List.setIfInBounds_toArray, List.set_cons_zero, List.set_cons_succ]
      refine wpAnyH_take (i := 4) (oi := { dst := some 56, op := Op.load 32 (Operand.tmp 55), type := 32, pos := "outright.go:138", after := #[{ on := 3, ground := Ground.data }], guard := none }) (v := ?_) rfl (by kernel_rfl) (by kernel_rfl) (by kernel_rfl) (fun _ _ _ h => h) (Or.inl ⟨by rfl, ?_⟩) hHeld ?_
      rotate_left
      · intro w hSw
        obtain ⟨c0, c1, c2, c3, c4, c5⟩ := HROW.out w hSw
        go_simp
        try with_reducible rfl
      try simp only [Act.put, List.setIfInBounds_toArray, List.set_cons_zero, List.set_cons_succ]
      refine wpAnyH_take (i := 5) (oi := { dst := some 57, op := Op.move (Operand.tmp 7), type := 3, pos := "outright.go:138", after := #[], guard := none }) (v := ?_) rfl (by kernel_rfl) (by kernel_rfl) (by kernel_rfl) (fun _ _ _ h => h) (Or.inl ⟨by rfl, ?_⟩) hHeld ?_
      rotate_left
      · intro w hSw
        clear hSw
        go_simp
        try with_reducible rfl
      try simp only [Act.put, List.setIfInBounds_toArray, List.set_cons_zero, List.set_cons_succ]
      refine wpAnyH_take (i := 6) (oi := { dst := some 58, op := Op.convert 3 30 (Operand.tmp 57), type := 30, pos := "outright.go:138", after := #[{ on := 5, ground := Ground.data }], guard := none }) (v := ?_) rfl (by kernel_rfl) (by kernel_rfl) (by kernel_rfl) (fun _ _ _ h => h) (Or.inl ⟨by rfl, ?_⟩) hHeld ?_
      rotate_left
      · intro w hSw
        clear hSw
        go_simp
        try with_reducible rfl
      try simp only [Act.put, List.setIfInBounds_toArray, List.set_cons_zero, List.set_cons_succ]
      refine wpAnyH_ready (rs := [7]) (by kernel_rfl) (by simp) ?_
      refine AllReadyH.cons (o := { dst := some 59, op := Op.call { callee := Callee.value (Operand.func 11), args := #[Operand.tmp 58], argTypes := #[30] }, type := 41, pos := "outright.go:138", after := #[{ on := 6, ground := Ground.data }], guard := none }) rfl (fun K hK => ?_) AllReadyH.nil
      go_simp
      refine (of_any n _).mono ?_
      rintro e w5 ⟨rfl, hw5⟩
      have HR5 := Lib.hid (HRZ1.out.drew_.below hw5)
      refine hK.out _ _ (hHeld.trans (GrownX.of_below hw5)) (fun hHeld => ?_)
      clear hK K
      try simp only [Act.put, List.setIfInBounds_toArray, List.set_cons_zero, List.set_cons_succ]
      refine wpAnyH_ready (rs := [8]) (by kernel_rfl) (by simp) ?_
      refine AllReadyH.cons (o := { dst := some 60, op := Op.call { callee := Callee.value (Operand.func 10), args := #[Operand.tmp 52, Operand.tmp 56, Operand.tmp 59], argTypes := #[25, 32, 41] }, type := 34, pos := "outright.go:138", after := #[{ on := 0, ground := Ground.data }, { on := 4, ground := Ground.data }, { on := 7, ground := Ground.data }, { on := 7, ground := Ground.chain }], guard := none }) rfl (fun K hK => ?_) AllReadyH.nil
      go_simp
      refine (HPUT.out _ HR5.out).mono ?_
      rintro e w6 ⟨⟨rfl, hr6⟩, hg6⟩
      refine hK.out _ _ (hHeld.trans hg6) (fun hHeld => ?_)
      clear hK K
      try simp only [Act.put, List.setIfInBounds_toArray, List.set_cons_zero, List.set_cons_succ]
      refine wpAnyH_take (i := 9) (oi := { dst := some 51, op := Op.move (Operand.tmp 60), type := 34, pos := "outright.go:138", after := #[{ on := 8, ground := Ground.data }], guard := none }) (v := ?_) rfl (by kernel_rfl) (by kernel_rfl) (by kernel_rfl) (fun _ _ _ h => h) (Or.inl ⟨by rfl, ?_⟩) hHeld ?_
      rotate_left
      · intro w hSw
        clear hSw
        go_simp
        try with_reducible rfl
      try simp only [Act.put, List.setIfInBounds_toArray, List.set_cons_zero, List.set_cons_succ]
      refine wpAnyH_take (i := 10) (oi := { dst := some 61, op := Op.extract (Operand.tmp 51) 0, type := 4, pos := "outright.go:138", after := #[{ on := 9, ground := Ground.data }], guard := none }) (v := ?_) rfl (by kernel_rfl) (by kernel_rfl) (by kernel_rfl) (fun _ _ _ h => h) (Or.inl ⟨by rfl, ?_⟩) hHeld ?_
      rotate_left
      · intro w hSw
        clear hSw
        go_simp
        try with_reducible rfl
      try simp only [Act.put, List.setIfInBounds_toArray, List.set_cons_zero, List.set_cons_succ]
      refine wpAnyH_take (i := 11) (oi := { dst := some 62, op := Op.extract (Operand.tmp 51) 1, type := 33, pos := "outright.go:138", after := #[{ on := 9, ground := Ground.data }, { on := 12, ground := Ground.gcOnly Departure.lateStores }], guard := none }) (v := ?_) rfl (by kernel_rfl) (by kernel_rfl) (by kernel_rfl) (fun _ _ _ h => h) (Or.inl ⟨by rfl, ?_⟩) hHeld ?_
      rotate_left
      · intro w hSw
        clear hSw
        go_simp
        try with_reducible rfl
      try simp only [Act.put, List.setIfInBounds_toArray, List.set_cons_zero, List.set_cons_succ]
      refine wpAnyH_take (i := 12) (oi := { dst := some 10, op := Op.assign (Operand.tmp 61), type := 4, pos := "outright.go:138", after := #[{ on := 10, ground := Ground.data }, { on := 8, ground := Ground.chain }, { on := 0, ground := Ground.phase }, { on := 1, ground := Ground.phase }, { on := 2, ground := Ground.phase }, { on := 3, ground := Ground.phase }, { on := 4, ground := Ground.phase }, { on := 5, ground := Ground.phase }, { on := 6, ground := Ground.phase }, { on := 7, ground := Ground.phase }, { on := 8, ground := Ground.phase }, { on := 9, ground := Ground.phase }, { on := 10, ground := Ground.phase }, { on := 11, ground := Ground.textOnly Departure.lateStores }], guard := none }) (v := ?_) rfl (by kernel_rfl) (by kernel_rfl) (by kernel_rfl) (fun _ _ _ h => h) (Or.inl ⟨by rfl, ?_⟩) hHeld ?_
      rotate_left
      · intro w hSw
        clear hSw
        go_simp
        try with_reducible rfl
      try simp only [Act.put, List.setIfInBounds_toArray, List.set_cons_zero, List.set_cons_succ]
      refine wpAnyH_take (i := 13) (oi := { dst := some 11, op := Op.assign (Operand.tmp 62), type := 33, pos := "outright.go:138", after := #[{ on := 11, ground := Ground.data }, { on := 12, ground := Ground.chain }, { on := 0, ground := Ground.phase }, { on := 1, ground := Ground.phase }, { on := 2, ground := Ground.phase }, { on := 3, ground := Ground.phase }, { on := 4, ground := Ground.phase }, { on := 5, ground := Ground.phase }, { on := 6, ground := Ground.phase }, { on := 7, ground := Ground.phase }, { on := 8, ground := Ground.phase }, { on := 9, ground := Ground.phase }, { on := 10, ground := Ground.phase }, { on := 11, ground := Ground.phase }, { on := 12, ground := Ground.phase }], guard := none }) (v := ?_) rfl (by kernel_rfl) (by kernel_rfl) (by kernel_rfl) (fun _ _ _ h => h) (Or.inl ⟨by rfl, ?_⟩) hHeld ?_
      rotate_left
      · intro w hSw
        clear hSw
        go_simp
        try with_reducible rfl
      try simp only [Act.put, List.setIfInBounds_toArray, List.set_cons_zero, List.set_cons_succ]
      refine wpAnyH_done (by kernel_rfl) ?_ _
      go_upto_region 12 with fail
      refine rb_name fun Z2 hZ2 => ?_
      have HRZ2 : Hid (RibM Z2 bs b m most M2) := by rw [hZ2]; exact hr6
      have HBZ2 : Hid (Below w.heap.size w Z2) := by rw [hZ2]; exact hHeld.below HBZ1.out (fun i hi => by rw [hi]; exact HM.out) HBZ1.out.size
      have HROW : Hid (∀ W, GrownX (fun i => i = m) Z2 W → W.cell? ⟨b0, off + n * 6, none⟩ = some (.int .i64 k.fam) ∧ W.cell? ⟨b0, off + n * 6 + 1, none⟩ = some (.int .u64 k.rd) ∧ W.cell? ⟨b0, off + n * 6 + 2, none⟩ = some (.string k.addr) ∧ W.cell? ⟨b0, off + n * 6 + 3, none⟩ = some (.int .i64 k.len) ∧ W.cell? ⟨b0, off + n * 6 + 4, none⟩ = some (.int .u32 (k.id : Nat)) ∧ W.cell? ⟨b0, off + n * 6 + 5, none⟩ = some (.int .u32 (label : Nat))) := fun W hW => HROWW.out W (hW.below HBZ2.out (fun i hi => by rw [hi]; exact HM.out) HBZ2.out.size)
      have HGET : Hid (∀ W, RibM W bs b m most M2 → Calls Try.prog 13 #[.pointer (some ⟨b, 0, none⟩), .agg #[.int .i64 k.fam, .int .u64 k.rd, .string k.addr, .int .i64 k.len], .int .u32 (k.id : Nat)] W fun e w' => (∃ kk l a s, e = .returned (.tuple #[.agg (pathAr kk l a s), .bool (getC M2 k).isSome]) ∧ (∀ t, getC M2 k = some t → l = t.label ∧ a.c = t.c ∧ s = t.stale) ∧ AtO w' W.heap.size a) ∧ Below W.heap.size W w') := fun W h => rgetW_any h k HKO.out
      clear hZ2 hHeld hr6 hg6 HR5 hw5 HPUT HRZ1 HBZ1
      rcases HCASE.out with ⟨rfl, rfl, rfl⟩ | ⟨rfl, rfl, rfl, rfl, hgn, hfull⟩ | ⟨rfl, rfl, hsm, hgs, hlen2, hfam2, hover⟩
      · clear HGET HROW
        go_wp2_with fail
        exact ⟨⟨cn, n + 1, M, rfl, by go_num, by omega, HCN.out, HRZ2.out, hcm, by omega, HFM.out, HBZ2.out⟩, by simp [intOf]; omega⟩
      · have zc : ((cn : Int) == (most : Int)) = true := beq_iff_eq.2 (by have := HCN.out; omega)
        rw [show (getC M k).isSome = false by rw [hgn]; rfl] at HGET
        clear hgn hfull
        go_upto_region 17 with fail
        refine rb_name fun Z3 hZ3 => ?_
        have HRZ3 : Hid (RibM Z3 bs b m most M) := by rw [hZ3]; exact HRZ2.out
        have HBZ3 : Hid (Below w.heap.size w Z3) := by rw [hZ3]; exact HBZ2.out
        have HROW : Hid (∀ W, GrownX (fun i => i = m) Z3 W → W.cell? ⟨b0, off + n * 6, none⟩ = some (.int .i64 k.fam) ∧ W.cell? ⟨b0, off + n * 6 + 1, none⟩ = some (.int .u64 k.rd) ∧ W.cell? ⟨b0, off + n * 6 + 2, none⟩ = some (.string k.addr) ∧ W.cell? ⟨b0, off + n * 6 + 3, none⟩ = some (.int .i64 k.len) ∧ W.cell? ⟨b0, off + n * 6 + 4, none⟩ = some (.int .u32 (k.id : Nat)) ∧ W.cell? ⟨b0, off + n * 6 + 5, none⟩ = some (.int .u32 (label : Nat))) := fun W hW => HROWW.out W (hW.below HBZ3.out (fun i hi => by rw [hi]; exact HM.out) HBZ3.out.size)
        clear hZ3 HRZ2 HBZ2
        go_cut [12, 13] (fun v8 v9 wx => ∃ (g : Nat) (kk : Pk) (l : Nat) (a : Atr) (s : Bool), v8 = .pointer (some ⟨g, 0, none⟩) ∧ v9 = .bool false ∧ Hid (CellsAt wx g (pathAr kk l a s) 47) ∧ Hid (∀ t, getC M k = some t → l = t.label ∧ a.c = t.c ∧ s = t.stale) ∧ Hid (RibM wx bs b m most M) ∧ Hid (AtrOk wx a) ∧ Hid (Below w.heap.size w wx))
        case first =>
          refine wp_region_held_drew (S := fun w' => GrownX (fun i => i = m) Z3 w') (by kernel_rfl) ((GrownX.refl _ _).drew 1) (fun hHeld => ?_)
          refine wpAnyH_take (i := 0) (oi := { dst := some 83, op := Op.move (Operand.tmp 5), type := 25, pos := "outright.go:148", after := #[], guard := none }) (v := ?_) rfl (by kernel_rfl) (by kernel_rfl) (by kernel_rfl) (fun _ _ _ h => h) (Or.inl ⟨by rfl, ?_⟩) hHeld ?_
          rotate_left
          · intro w hSw
            clear hSw
            go_simp
            try with_reducible rfl
          try simp only [Act.put, List.setIfInBounds_toArray, List.set_cons_zero, List.set_cons_succ]
          refine wpAnyH_take (i := 1) (oi := { dst := some 84, op := Op.move (Operand.tmp 1), type := 22, pos := "outright.go:148", after := #[], guard := none }) (v := ?_) rfl (by kernel_rfl) (by kernel_rfl) (by kernel_rfl) (fun _ _ _ h => h) (Or.inl ⟨by rfl, ?_⟩) hHeld ?_
          rotate_left
          · intro w hSw
            clear hSw
            go_simp
            try with_reducible rfl
          try simp only [Act.put, List.setIfInBounds_toArray, List.set_cons_zero, List.set_cons_succ]
          refine wpAnyH_take (i := 2) (oi := { dst := some 85, op := Op.move (Operand.tmp 7), type := 3, pos := "outright.go:148", after := #[], guard := none }) (v := ?_) rfl (by kernel_rfl) (by kernel_rfl) (by kernel_rfl) (fun _ _ _ h => h) (Or.inl ⟨by rfl, ?_⟩) hHeld ?_
          rotate_left
          · intro w hSw
            clear hSw
            go_simp
            try with_reducible rfl
          try simp only [Act.put, List.setIfInBounds_toArray, List.set_cons_zero, List.set_cons_succ]
          refine wpAnyH_take (i := 3) (oi := { dst := some 86, op := Op.indexAddr 22 (Operand.tmp 84) (Operand.tmp 85), type := 0, pos := "outright.go:148", after := #[{ on := 1, ground := Ground.data }, { on := 2, ground := Ground.data }], guard := none }) (v := ?_) rfl (by kernel_rfl) (by kernel_rfl) (by kernel_rfl) (fun _ _ _ h => h) (Or.inl ⟨by rfl, ?_⟩) hHeld ?_
          rotate_left
          · intro w hSw
            clear hSw
            go_simp
            try with_reducible rfl
          try simp only [Act.put, List.setIfInBounds_toArray, List.set_cons_zero, List.set_cons_succ]
          refine wpAnyH_take (i := 4) (oi := { dst := some 87, op := Op.fieldAddr 32 (Operand.tmp 86) 0, type := 0, pos := "outright.go:148", after := #[{ on := 3, ground := Ground.data }], guard := none }) (v := ?_) rfl (by kernel_rfl) (by kernel_rfl) (by kernel_rfl) (fun _ _ _ h => h) (Or.inl ⟨by rfl, ?_⟩) hHeld ?_
          rotate_left
          · intro w hSw
            clear hSw
            go_simp
            try with_reducible rfl
          try simp only [Act.put, List.setIfInBounds_toArray, List.set_cons_zero, List.set_cons_succ]
          refine wpAnyH_take (i := 5) (oi := { dst := some 88, op := Op.load 29 (Operand.tmp 87), type := 29, pos := "outright.go:148", after := #[{ on := 4, ground := Ground.data }], guard := none }) (v := ?_) rfl (by kernel_rfl) (by kernel_rfl) (by kernel_rfl) (fun _ _ _ h => h) (Or.inl ⟨by rfl, ?_⟩) hHeld ?_
          rotate_left
          · intro w hSw
            obtain ⟨c0, c1, c2, c3, c4, c5⟩ := HROW.out w hSw
            go_simp
            try with_reducible rfl
          try simp only [Act.put, List.setIfInBounds_toArray, List.set_cons_zero, List.set_cons_succ]
          refine wpAnyH_take (i := 6) (oi := { dst := some 89, op := Op.move (Operand.tmp 1), type := 22, pos := "outright.go:148", after := #[], guard := none }) (v := ?_) rfl (by kernel_rfl) (by kernel_rfl) (by kernel_rfl) (fun _ _ _ h => h) (Or.inl ⟨by rfl, ?_⟩) hHeld ?_
          rotate_left
          · intro w hSw
            clear hSw
            go_simp
            try with_reducible rfl
          try simp only [Act.put, List.setIfInBounds_toArray, List.set_cons_zero, List.set_cons_succ]
          refine wpAnyH_take (i := 7) (oi := { dst := some 90, op := Op.move (Operand.tmp 7), type := 3, pos := "outright.go:148", after := #[], guard := none }) (v := ?_) rfl (by kernel_rfl) (by kernel_rfl) (by kernel_rfl) (fun _ _ _ h => h) (Or.inl ⟨by rfl, ?_⟩) hHeld ?_
          rotate_left
          · intro w hSw
            clear hSw
            go_simp
            try with_reducible rfl
          try simp only [Act.put, List.setIfInBounds_toArray, List.set_cons_zero, List.set_cons_succ]
          refine wpAnyH_take (i := 8) (oi := { dst := some 91, op := Op.indexAddr 22 (Operand.tmp 89) (Operand.tmp 90), type := 0, pos := "outright.go:148", after := #[{ on := 6, ground := Ground.data }, { on := 7, ground := Ground.data }], guard := none }) (v := ?_) rfl (by kernel_rfl) (by kernel_rfl) (by kernel_rfl) (fun _ _ _ h => h) (Or.inl ⟨by rfl, ?_⟩) hHeld ?_
          rotate_left
          · intro w hSw
            clear hSw
            go_simp
            try with_reducible rfl
          try simp only [Act.put, List.setIfInBounds_toArray, List.set_cons_zero, List.set_cons_succ]
          refine wpAnyH_take (i := 9) (oi := { dst := some 92, op := Op.fieldAddr 32 (Operand.tmp 91) 1, type := 0, pos := "outright.go:148", after := #[{ on := 8, ground := Ground.data }], guard := none }) (v := ?_) rfl (by kernel_rfl) (by kernel_rfl) (by kernel_rfl) (fun _ _ _ h => h) (Or.inl ⟨by rfl, ?_⟩) hHeld ?_
          rotate_left
          · intro w hSw
            clear hSw
            go_simp
            try with_reducible rfl
          try simp only [Act.put, List.setIfInBounds_toArray, List.set_cons_zero, List.set_cons_succ]
          refine wpAnyH_take (i := 10) (oi := { dst := some 93, op := Op.load 30 (Operand.tmp 92), type := 30, pos := "outright.go:148", after := #[{ on := 9, ground := Ground.data }], guard := none }) (v := ?_) rfl (by kernel_rfl) (by kernel_rfl) (by kernel_rfl) (fun _ _ _ h => h) (Or.inl ⟨by rfl, ?_⟩) hHeld ?_
          rotate_left
          · intro w hSw
            obtain ⟨c0, c1, c2, c3, c4, c5⟩ := HROW.out w hSw
            go_simp
            try with_reducible rfl
          try simp only [Act.put, List.setIfInBounds_toArray, List.set_cons_zero, List.set_cons_succ]
          refine wpAnyH_ready (rs := [11, 15]) (by kernel_rfl) (by simp) ?_
          refine AllReadyH.cons (o := { dst := some 94, op := Op.call { callee := Callee.value (Operand.func 13), args := #[Operand.tmp 83, Operand.tmp 88, Operand.tmp 93], argTypes := #[25, 29, 30] }, type := 48, pos := "outright.go:148", after := #[{ on := 0, ground := Ground.data }, { on := 5, ground := Ground.data }, { on := 10, ground := Ground.data }], guard := none }) rfl (fun K hK => ?_) ?_
          · go_simp
            refine (HGET.out _ (HRZ3.out.drew_)).mono ?_
            rintro e w9 ⟨⟨kk9, l9, a9, s9, rfl, hfa, ho9⟩, hw9⟩
            have HRx9 : Hid (RibM w9 bs b m most M) := (HRZ3.out.drew_).below hw9
            have HFAx9 := Lib.hid hfa
            have HOx9 := Lib.hid ho9
            have HG9 : Hid (GrownX (fun i => i = m) Z3 w9) := hHeld.trans (GrownX.of_below hw9)
            clear hfa ho9
            refine hK.out _ _ HG9.out (fun hHeld => ?_)
            clear hK K
            try simp only [Act.put, List.setIfInBounds_toArray, List.set_cons_zero, List.set_cons_succ]
            refine wpAnyH_take (i := 12) (oi := { dst := some 82, op := Op.move (Operand.tmp 94), type := 48, pos := "outright.go:148", after := #[{ on := 11, ground := Ground.data }], guard := none }) (v := ?_) rfl (by kernel_rfl) (by kernel_rfl) (by kernel_rfl) (fun _ _ _ h => h) (Or.inl ⟨by rfl, ?_⟩) hHeld ?_
            rotate_left
            · intro w hSw
              clear hSw
              go_simp
              try with_reducible rfl
            try simp only [Act.put, List.setIfInBounds_toArray, List.set_cons_zero, List.set_cons_succ]
            refine wpAnyH_take (i := 13) (oi := { dst := some 95, op := Op.extract (Operand.tmp 82) 0, type := 47, pos := "outright.go:148", after := #[{ on := 12, ground := Ground.data }], guard := none }) (v := ?_) rfl (by kernel_rfl) (by kernel_rfl) (by kernel_rfl) (fun _ _ _ h => h) (Or.inl ⟨by rfl, ?_⟩) hHeld ?_
            rotate_left
            · intro w hSw
              clear hSw
              go_simp
              try with_reducible rfl
            try simp only [Act.put, List.setIfInBounds_toArray, List.set_cons_zero, List.set_cons_succ]
            refine wpAnyH_take (i := 14) (oi := { dst := some 96, op := Op.extract (Operand.tmp 82) 1, type := 4, pos := "outright.go:148", after := #[{ on := 12, ground := Ground.data }, { on := 16, ground := Ground.gcOnly Departure.lateStores }], guard := none }) (v := ?_) rfl (by kernel_rfl) (by kernel_rfl) (by kernel_rfl) (fun _ _ _ h => h) (Or.inl ⟨by rfl, ?_⟩) hHeld ?_
            rotate_left
            · intro w hSw
              clear hSw
              go_simp
              try with_reducible rfl
            try simp only [Act.put, List.setIfInBounds_toArray, List.set_cons_zero, List.set_cons_succ]
            have HNx9 : Hid (∀ cs : Array Value, CellsAt (w9.alloc (.cells cs 47)) w9.heap.size cs 47) := fun cs => CellsAt.new _ _ _
            have HGSx9 : Hid (∀ cs : Array Value, GrownX (fun i => i = m) Z3 ((w9.alloc (.cells cs 47)).setRow w9.heap.size (pathAr kk9 l9 a9 s9))) := fun cs => HG9.out.trans ((GrownX.of_below ((Below.refl _ _).alloc (Nat.le_refl _) _)).new_ (GrownX.of_row (X := fun i => i = w9.heap.size) (grown_setRow' _ _ _) rfl) (fun i hi => by rw [hi]; exact Nat.le_refl _))
            refine wpAnyH_ready (rs := [15]) (by kernel_rfl) (by simp) ?_
            refine AllReadyH.cons (o := { dst := some 12, op := Op.alloc 47, type := 0, pos := "outright.go:148", after := #[], guard := none }) rfl (fun K hK => ?_) AllReadyH.nil
            go_simp
            refine hK.out _ _ (HG9.out.trans (GrownX.of_below ((Below.refl _ _).alloc (Nat.le_refl _) _))) (fun hHeld => ?_)
            clear hK K
            try simp only [Act.put, List.setIfInBounds_toArray, List.set_cons_zero, List.set_cons_succ]
            refine wpAnyH_ready (rs := [16]) (by kernel_rfl) (by simp) ?_
            refine AllReadyH.cons (o := { dst := none, op := Op.store 47 (Operand.tmp 12) (Operand.tmp 95), type := 0, pos := "outright.go:148", after := #[{ on := 15, ground := Ground.data }, { on := 13, ground := Ground.data }, { on := 11, ground := Ground.chain }, { on := 0, ground := Ground.phase }, { on := 1, ground := Ground.phase }, { on := 2, ground := Ground.phase }, { on := 3, ground := Ground.phase }, { on := 4, ground := Ground.phase }, { on := 5, ground := Ground.phase }, { on := 6, ground := Ground.phase }, { on := 7, ground := Ground.phase }, { on := 8, ground := Ground.phase }, { on := 9, ground := Ground.phase }, { on := 10, ground := Ground.phase }, { on := 11, ground := Ground.phase }, { on := 12, ground := Ground.phase }, { on := 13, ground := Ground.phase }, { on := 14, ground := Ground.textOnly Departure.lateStores }, { on := 15, ground := Ground.phase }], guard := none }) rfl (fun K hK => ?_) AllReadyH.nil
            refine wp_store_row 47 (.tmp 12) (.tmp 95) rfl w9.heap.size (pathAr kk9 l9 a9 s9) rfl rfl 47 _ (HNx9.out _) (by rw [path_size]; rfl) rfl (path_ones _ _ _ _) ?_
            refine hK.out _ _ (HGSx9.out _) (fun hHeld => ?_)
            clear hK K
            try simp only [Act.put, List.setIfInBounds_toArray, List.set_cons_zero, List.set_cons_succ]
            refine wpAnyH_take (i := 17) (oi := { dst := some 13, op := Op.assign (Operand.tmp 96), type := 4, pos := "outright.go:148", after := #[{ on := 14, ground := Ground.data }, { on := 16, ground := Ground.chain }, { on := 0, ground := Ground.phase }, { on := 1, ground := Ground.phase }, { on := 2, ground := Ground.phase }, { on := 3, ground := Ground.phase }, { on := 4, ground := Ground.phase }, { on := 5, ground := Ground.phase }, { on := 6, ground := Ground.phase }, { on := 7, ground := Ground.phase }, { on := 8, ground := Ground.phase }, { on := 9, ground := Ground.phase }, { on := 10, ground := Ground.phase }, { on := 11, ground := Ground.phase }, { on := 12, ground := Ground.phase }, { on := 13, ground := Ground.phase }, { on := 14, ground := Ground.phase }, { on := 15, ground := Ground.phase }, { on := 16, ground := Ground.phase }], guard := none }) (v := ?_) rfl (by kernel_rfl) (by kernel_rfl) (by kernel_rfl) (fun _ _ _ h => h) (Or.inl ⟨by rfl, ?_⟩) hHeld ?_
            rotate_left
            · intro w hSw
              clear hSw
              go_simp
              try with_reducible rfl
            try simp only [Act.put, List.setIfInBounds_toArray, List.set_cons_zero, List.set_cons_succ]
            refine wpAnyH_done (by kernel_rfl) ?_ _
            have hb9 : ∀ cs : Array Value, Below w9.heap.size w9 ((w9.alloc (.cells cs 47)).setRow w9.heap.size (pathAr kk9 l9 a9 s9)) := fun cs => ((Below.refl _ _).alloc (Nat.le_refl _) _).grown (grown_setRow' _ _ _) (by simp) (fun q hq => by cases hq; exact Nat.le_refl _)
            have HF1 := Lib.hid (fun cs => (HNx9.out cs).setRow' (pathAr kk9 l9 a9 s9))
            have HF2 := Lib.hid (fun cs => HRx9.out.below (hb9 cs))
            have HF3 := Lib.hid (fun cs => (AtO.below HOx9.out (hb9 cs)).ok)
            have HF4 := Lib.hid (fun cs => (HGSx9.out cs).below HBZ3.out (fun i hi => by rw [hi]; exact HM.out) HBZ3.out.size)
            clear hb9 hHeld
            go_wp2_with fail
            go_meet
            exact ⟨_, kk9, l9, a9, s9, rfl, rfl, HF1.out _, HFAx9.out, HF2.out _, HF3.out _, HF4.out _⟩
          · refine AllReadyH.cons (o := { dst := some 12, op := Op.alloc 47, type := 0, pos := "outright.go:148", after := #[], guard := none }) rfl (fun K hK => ?_) AllReadyH.nil
            go_simp
            have HNB : Hid (∀ cs : Array Value, CellsAt (Z3.drew.alloc (.cells cs 47)) Z3.heap.size cs 47) := fun cs => CellsAt.new Z3.drew _ _
            have HRB : Hid (∀ cs : Array Value, RibM (Z3.drew.alloc (.cells cs 47)) bs b m most M) := fun cs => HRZ3.out.drew_.below ((Below.refl _ _).alloc (Nat.le_refl _) _)
            have hbZ := HRZ3.out.lt.1
            have hmZ := HRZ3.out.lt.2.1
            have hsz : ∀ cs : Array Value, (Z3.drew.alloc (.cells cs 47)).heap.size = Z3.heap.size + 1 := fun cs => by rw [World.size_alloc]; rfl
            have HSZB := Lib.hid hsz
            clear hsz
            refine hK.out _ _ (hHeld.trans (GrownX.of_below ((Below.refl _ _).alloc (Nat.le_refl _) _))) (fun hHeld => ?_)
            clear hK K
            try simp only [Act.put, List.setIfInBounds_toArray, List.set_cons_zero, List.set_cons_succ]
            refine wpAnyH_ready (rs := [11]) (by kernel_rfl) (by simp) ?_
            refine AllReadyH.cons (o := { dst := some 94, op := Op.call { callee := Callee.value (Operand.func 13), args := #[Operand.tmp 83, Operand.tmp 88, Operand.tmp 93], argTypes := #[25, 29, 30] }, type := 48, pos := "outright.go:148", after := #[{ on := 0, ground := Ground.data }, { on := 5, ground := Ground.data }, { on := 10, ground := Ground.data }], guard := none }) rfl (fun K hK => ?_) AllReadyH.nil
            go_simp
            refine (HGET.out _ (HRB.out _)).mono ?_
            rintro e w9 ⟨⟨kk9, l9, a9, s9, rfl, hfa, ho9⟩, hw9⟩
            have HRx9 : Hid (RibM w9 bs b m most M) := (HRB.out _).below hw9
            have HFAx9 := Lib.hid hfa
            have HOx9 := Lib.hid ho9
            have HG9 : Hid (GrownX (fun i => i = m) Z3 w9) := hHeld.trans (GrownX.of_below hw9)
            clear hfa ho9
            refine hK.out _ _ HG9.out (fun hHeld => ?_)
            clear hK K
            try simp only [Act.put, List.setIfInBounds_toArray, List.set_cons_zero, List.set_cons_succ]
            refine wpAnyH_take (i := 12) (oi := { dst := some 82, op := Op.move (Operand.tmp 94), type := 48, pos := "outright.go:148", after := #[{ on := 11, ground := Ground.data }], guard := none }) (v := ?_) rfl (by kernel_rfl) (by kernel_rfl) (by kernel_rfl) (fun _ _ _ h => h) (Or.inl ⟨by rfl, ?_⟩) hHeld ?_
            rotate_left
            · intro w hSw
              clear hSw
              go_simp
              try with_reducible rfl
            try simp only [Act.put, List.setIfInBounds_toArray, List.set_cons_zero, List.set_cons_succ]
            refine wpAnyH_take (i := 13) (oi := { dst := some 95, op := Op.extract (Operand.tmp 82) 0, type := 47, pos := "outright.go:148", after := #[{ on := 12, ground := Ground.data }], guard := none }) (v := ?_) rfl (by kernel_rfl) (by kernel_rfl) (by kernel_rfl) (fun _ _ _ h => h) (Or.inl ⟨by rfl, ?_⟩) hHeld ?_
            rotate_left
            · intro w hSw
              clear hSw
              go_simp
              try with_reducible rfl
            try simp only [Act.put, List.setIfInBounds_toArray, List.set_cons_zero, List.set_cons_succ]
            refine wpAnyH_take (i := 14) (oi := { dst := some 96, op := Op.extract (Operand.tmp 82) 1, type := 4, pos := "outright.go:148", after := #[{ on := 12, ground := Ground.data }, { on := 16, ground := Ground.gcOnly Departure.lateStores }], guard := none }) (v := ?_) rfl (by kernel_rfl) (by kernel_rfl) (by kernel_rfl) (fun _ _ _ h => h) (Or.inl ⟨by rfl, ?_⟩) hHeld ?_
            rotate_left
            · intro w hSw
              clear hSw
              go_simp
              try with_reducible rfl
            try simp only [Act.put, List.setIfInBounds_toArray, List.set_cons_zero, List.set_cons_succ]
            have HC9 := Lib.hid ((HNB.out _).below hw9 (HNB.out _).lt)
            have HGS9 : Hid (GrownX (fun i => i = m) Z3 (w9.setRow Z3.heap.size (pathAr kk9 l9 a9 s9))) := HG9.out.new_ (GrownX.of_row (X := fun i => i = Z3.heap.size) (grown_setRow' _ _ _) rfl) (fun i hi => by rw [hi]; exact Nat.le_refl _)
            refine wpAnyH_ready (rs := [16]) (by kernel_rfl) (by simp) ?_
            refine AllReadyH.cons (o := { dst := none, op := Op.store 47 (Operand.tmp 12) (Operand.tmp 95), type := 0, pos := "outright.go:148", after := #[{ on := 15, ground := Ground.data }, { on := 13, ground := Ground.data }, { on := 11, ground := Ground.chain }, { on := 0, ground := Ground.phase }, { on := 1, ground := Ground.phase }, { on := 2, ground := Ground.phase }, { on := 3, ground := Ground.phase }, { on := 4, ground := Ground.phase }, { on := 5, ground := Ground.phase }, { on := 6, ground := Ground.phase }, { on := 7, ground := Ground.phase }, { on := 8, ground := Ground.phase }, { on := 9, ground := Ground.phase }, { on := 10, ground := Ground.phase }, { on := 11, ground := Ground.phase }, { on := 12, ground := Ground.phase }, { on := 13, ground := Ground.phase }, { on := 14, ground := Ground.textOnly Departure.lateStores }, { on := 15, ground := Ground.phase }], guard := none }) rfl (fun K hK => ?_) AllReadyH.nil
            refine wp_store_row 47 (.tmp 12) (.tmp 95) rfl Z3.heap.size (pathAr kk9 l9 a9 s9) rfl rfl 47 _ HC9.out (by rw [path_size]; rfl) rfl (path_ones _ _ _ _) ?_
            refine hK.out _ _ (HGS9.out) (fun hHeld => ?_)
            clear hK K
            try simp only [Act.put, List.setIfInBounds_toArray, List.set_cons_zero, List.set_cons_succ]
            refine wpAnyH_take (i := 17) (oi := { dst := some 13, op := Op.assign (Operand.tmp 96), type := 4, pos := "outright.go:148", after := #[{ on := 14, ground := Ground.data }, { on := 16, ground := Ground.chain }, { on := 0, ground := Ground.phase }, { on := 1, ground := Ground.phase }, { on := 2, ground := Ground.phase }, { on := 3, ground := Ground.phase }, { on := 4, ground := Ground.phase }, { on := 5, ground := Ground.phase }, { on := 6, ground := Ground.phase }, { on := 7, ground := Ground.phase }, { on := 8, ground := Ground.phase }, { on := 9, ground := Ground.phase }, { on := 10, ground := Ground.phase }, { on := 11, ground := Ground.phase }, { on := 12, ground := Ground.phase }, { on := 13, ground := Ground.phase }, { on := 14, ground := Ground.phase }, { on := 15, ground := Ground.phase }, { on := 16, ground := Ground.phase }], guard := none }) (v := ?_) rfl (by kernel_rfl) (by kernel_rfl) (by kernel_rfl) (fun _ _ _ h => h) (Or.inl ⟨by rfl, ?_⟩) hHeld ?_
            rotate_left
            · intro w hSw
              clear hSw
              go_simp
              try with_reducible rfl
            try simp only [Act.put, List.setIfInBounds_toArray, List.set_cons_zero, List.set_cons_succ]
            refine wpAnyH_done (by kernel_rfl) ?_ _
            have HF1 := Lib.hid (HC9.out.setRow' (pathAr kk9 l9 a9 s9))
            have HF2 := Lib.hid (HRx9.out.off (grown_setRow' w9 Z3.heap.size (pathAr kk9 l9 a9 s9)) HC9.out (Nat.ne_of_lt hbZ) (Nat.ne_of_lt hmZ))
            have HF3 := Lib.hid (AtO.ok (AtO.keep HOx9.out (fun i h1 h2 => (grown_setRow' w9 Z3.heap.size (pathAr kk9 l9 a9 s9)).block i h2 (fun e => by injection e with e; rw [HSZB.out] at h1; omega))))
            have HF4 := Lib.hid (HGS9.out.below HBZ3.out (fun i hi => by rw [hi]; exact HM.out) HBZ3.out.size)
            clear hHeld hbZ hmZ
            go_wp2_with fail
            go_meet
            exact ⟨_, kk9, l9, a9, s9, rfl, rfl, HF1.out, HFAx9.out, HF2.out, HF3.out, HF4.out⟩
        case rest =>
        obtain ⟨g4, kk8, l8, a8, s8, rfl, rfl, HPA, HFAx8, HRZ4, HAO8, HBZ4⟩ := hcut
        obtain ⟨Z4, hZ4⟩ : ∃ x, x = wc := ⟨_, rfl⟩
        subst hZ4
        clear HGET HRZ3 HBZ3
        go_upto_region 18 with fail
        refine wp_region_held_drew (S := fun w' => Below Z4.heap.size Z4 w') (by kernel_rfl) (below_drewN (Below.refl _ _) 1) (fun hHeld => ?_)
        refine wpAnyH_take (i := 0) (oi := { dst := some 97, op := Op.move (Operand.tmp 13), type := 4, pos := "outright.go:149", after := #[], guard := none }) (v := ?_) rfl (by kernel_rfl) (by kernel_rfl) (by kernel_rfl) (fun _ _ _ h => h) (Or.inl ⟨by rfl, ?_⟩) hHeld ?_
        rotate_left
        · intro w hSw
          clear hSw
          go_simp
          try with_reducible rfl
        try simp only [Act.put, List.setIfInBounds_toArray, List.set_cons_zero, List.set_cons_succ]
        refine wpAnyH_take (i := 1) (oi := { dst := some 98, op := Op.move (Operand.tmp 10), type := 4, pos := "outright.go:149", after := #[], guard := none }) (v := ?_) rfl (by kernel_rfl) (by kernel_rfl) (by kernel_rfl) (fun _ _ _ h => h) (Or.inl ⟨by rfl, ?_⟩) hHeld ?_
        rotate_left
        · intro w hSw
          clear hSw
          go_simp
          try with_reducible rfl
        try simp only [Act.put, List.setIfInBounds_toArray, List.set_cons_zero, List.set_cons_succ]
        refine wpAnyH_take (i := 2) (oi := { dst := some 99, op := Op.binOp BinOp.eql 4 (Operand.tmp 97) (Operand.tmp 98) 4, type := 4, pos := "outright.go:149", after := #[{ on := 0, ground := Ground.data }, { on := 1, ground := Ground.data }], guard := none }) (v := ?_) rfl (by kernel_rfl) (by kernel_rfl) (by kernel_rfl) (fun _ _ _ h => h) (Or.inl ⟨by rfl, ?_⟩) hHeld ?_
        rotate_left
        · intro w hSw
          clear hSw
          go_simp
          try with_reducible rfl
        try simp only [Act.put, List.setIfInBounds_toArray, List.set_cons_zero, List.set_cons_succ]
        refine wpAnyH_take (i := 3) (oi := { dst := some 100, op := Op.move (Operand.tmp 99), type := 4, pos := "outright.go:149", after := #[{ on := 2, ground := Ground.data }], guard := none }) (v := ?_) rfl (by kernel_rfl) (by kernel_rfl) (by kernel_rfl) (fun _ _ _ h => h) (Or.inl ⟨by rfl, ?_⟩) hHeld ?_
        rotate_left
        · intro w hSw
          clear hSw
          go_simp
          try with_reducible rfl
        try simp only [Act.put, List.setIfInBounds_toArray, List.set_cons_zero, List.set_cons_succ]
        refine wpAnyH_take (i := 4) (oi := { dst := some 101, op := Op.move (Operand.tmp 13), type := 4, pos := "outright.go:149", after := #[{ on := 3, ground := Ground.guard }], guard := some (3, false) }) (v := ?_) rfl (by kernel_rfl) (by kernel_rfl) (by kernel_rfl) (fun _ _ _ h => h) (Or.inl ⟨by rfl, ?_⟩) hHeld ?_
        rotate_left
        · intro w hSw
          clear hSw
          go_simp
          try with_reducible rfl
        try simp only [Act.put, List.setIfInBounds_toArray, List.set_cons_zero, List.set_cons_succ]
        refine wpAnyH_take (i := 5) (oi := { dst := some 102, op := Op.move (Operand.tmp 101), type := 4, pos := "outright.go:149", after := #[{ on := 4, ground := Ground.data }, { on := 3, ground := Ground.chain }, { on := 3, ground := Ground.guard }], guard := some (3, false) }) (v := ?_) rfl (by kernel_rfl) (by kernel_rfl) (by kernel_rfl) (fun _ _ _ h => h) (Or.inl ⟨by rfl, ?_⟩) hHeld ?_
        rotate_left
        · intro w hSw
          clear hSw
          go_simp
          try with_reducible rfl
        try simp only [Act.put, List.setIfInBounds_toArray, List.set_cons_zero, List.set_cons_succ]
        refine wpAnyH_take (i := 6) (oi := { dst := some 103, op := Op.fieldAddr 47 (Operand.tmp 12) 3, type := 0, pos := "outright.go:149", after := #[{ on := 5, ground := Ground.guard }], guard := some (5, true) }) (v := undef) rfl (by kernel_rfl) (by kernel_rfl) (by kernel_rfl) (fun _ _ _ h => h) (Or.inr ⟨by rfl, rfl⟩) hHeld ?_
        try simp only [Act.put, List.setIfInBounds_toArray, List.set_cons_zero, List.set_cons_succ]
        refine wpAnyH_take (i := 7) (oi := { dst := some 104, op := Op.load 41 (Operand.tmp 103), type := 41, pos := "outright.go:149", after := #[{ on := 6, ground := Ground.data }, { on := 5, ground := Ground.guard }], guard := some (5, true) }) (v := undef) rfl (by kernel_rfl) (by kernel_rfl) (by kernel_rfl) (fun _ _ _ h => h) (Or.inr ⟨by rfl, rfl⟩) hHeld ?_
        try simp only [Act.put, List.setIfInBounds_toArray, List.set_cons_zero, List.set_cons_succ]
        refine wpAnyH_take (i := 8) (oi := { dst := some 105, op := Op.move (Operand.tmp 7), type := 3, pos := "outright.go:149", after := #[{ on := 5, ground := Ground.guard }], guard := some (5, true) }) (v := undef) rfl (by kernel_rfl) (by kernel_rfl) (by kernel_rfl) (fun _ _ _ h => h) (Or.inr ⟨by rfl, rfl⟩) hHeld ?_
        try simp only [Act.put, List.setIfInBounds_toArray, List.set_cons_zero, List.set_cons_succ]
        refine wpAnyH_take (i := 9) (oi := { dst := some 106, op := Op.convert 3 30 (Operand.tmp 105), type := 30, pos := "outright.go:149", after := #[{ on := 8, ground := Ground.data }, { on := 5, ground := Ground.guard }], guard := some (5, true) }) (v := undef) rfl (by kernel_rfl) (by kernel_rfl) (by kernel_rfl) (fun _ _ _ h => h) (Or.inr ⟨by rfl, rfl⟩) hHeld ?_
        try simp only [Act.put, List.setIfInBounds_toArray, List.set_cons_zero, List.set_cons_succ]
        refine wpAnyH_take (i := 10) (oi := { dst := some 107, op := Op.call { callee := Callee.value (Operand.func 11), args := #[Operand.tmp 106], argTypes := #[30] }, type := 41, pos := "outright.go:149", after := #[{ on := 9, ground := Ground.data }, { on := 5, ground := Ground.chain }, { on := 5, ground := Ground.guard }], guard := some (5, true) }) (v := undef) rfl (by kernel_rfl) (by kernel_rfl) (by kernel_rfl) (fun _ _ _ h => h) (Or.inr ⟨by rfl, rfl⟩) hHeld ?_
        try simp only [Act.put, List.setIfInBounds_toArray, List.set_cons_zero, List.set_cons_succ]
        refine wpAnyH_take (i := 11) (oi := { dst := some 108, op := Op.call { callee := Callee.value (Operand.func 15), args := #[Operand.tmp 104, Operand.tmp 107], argTypes := #[41, 41] }, type := 4, pos := "outright.go:149", after := #[{ on := 7, ground := Ground.data }, { on := 10, ground := Ground.data }, { on := 10, ground := Ground.chain }, { on := 5, ground := Ground.guard }], guard := some (5, true) }) (v := undef) rfl (by kernel_rfl) (by kernel_rfl) (by kernel_rfl) (fun _ _ _ h => h) (Or.inr ⟨by rfl, rfl⟩) hHeld ?_
        try simp only [Act.put, List.setIfInBounds_toArray, List.set_cons_zero, List.set_cons_succ]
        refine wpAnyH_take (i := 12) (oi := { dst := some 109, op := Op.unOp UnOp.not 4 (Operand.tmp 108), type := 4, pos := "outright.go:149", after := #[{ on := 11, ground := Ground.data }, { on := 5, ground := Ground.guard }], guard := some (5, true) }) (v := undef) rfl (by kernel_rfl) (by kernel_rfl) (by kernel_rfl) (fun _ _ _ h => h) (Or.inr ⟨by rfl, rfl⟩) hHeld ?_
        try simp only [Act.put, List.setIfInBounds_toArray, List.set_cons_zero, List.set_cons_succ]
        refine wpAnyH_take (i := 13) (oi := { dst := some 110, op := Op.pick (Operand.tmp 102) (Operand.tmp 109) (Operand.const (Value.bool false)), type := 4, pos := "outright.go:149", after := #[{ on := 5, ground := Ground.data }, { on := 12, ground := Ground.data }, { on := 3, ground := Ground.guard }], guard := some (3, false) }) (v := ?_) rfl (by kernel_rfl) (by kernel_rfl) (by kernel_rfl) (fun _ _ _ h => h) (Or.inl ⟨by rfl, ?_⟩) hHeld ?_
        rotate_left
        · intro w hSw
          clear hSw
          go_simp
          try with_reducible rfl
        try simp only [Act.put, List.setIfInBounds_toArray, List.set_cons_zero, List.set_cons_succ]
        refine wpAnyH_take (i := 14) (oi := { dst := some 111, op := Op.pick (Operand.tmp 100) (Operand.const (Value.bool true)) (Operand.tmp 110), type := 4, pos := "outright.go:149", after := #[{ on := 3, ground := Ground.data }, { on := 13, ground := Ground.data }], guard := none }) (v := ?_) rfl (by kernel_rfl) (by kernel_rfl) (by kernel_rfl) (fun _ _ _ h => h) (Or.inl ⟨by rfl, ?_⟩) hHeld ?_
        rotate_left
        · intro w hSw
          clear hSw
          go_simp
          try with_reducible rfl
        try simp only [Act.put, List.setIfInBounds_toArray, List.set_cons_zero, List.set_cons_succ]
        refine wpAnyH_done (by kernel_rfl) ?_ _
        go_upto_region 9 with fail
        refine rb_name fun Z5 hZ5 => ?_
        have hb45 : Below Z4.heap.size Z4 Z5 := by rw [hZ5]; exact hHeld
        have HRZ5 : Hid (RibM Z5 bs b m most M) := HRZ4.out.below hb45
        have HBZ5 : Hid (Below w.heap.size w Z5) := HBZ4.out.trans (hb45.mono HBZ4.out.size)
        clear hZ5 hb45 hHeld HRZ4 HBZ4 HPA
        go_wp2_with fail
        exact ⟨⟨cn, n + 1, M, rfl, by go_num, by omega, HCN.out, HRZ5.out, hcm, by omega, HFM.out, HBZ5.out⟩, by simp [intOf]; omega⟩
      · have HGS2 : Hid (getC M2 k = some ⟨k, label, medC n, false⟩) := hgs
        have HF2 : Hid (FamsC M2) := hfam2 HFM.out
        clear hgs hfam2
        cases is0 with
        | true =>
          have HL2 : Hid (cn = M2.length) := by
            show _ = _
            rw [HCN.out, hlen2]
            rfl
          clear hlen2 hover hsm
          rw [show (getC M2 k).isSome = true by rw [HGS2.out]; rfl] at HGET
          go_upto_region 17 with fail
          refine rb_name fun Z3 hZ3 => ?_
          have HRZ3 : Hid (RibM Z3 bs b m most M2) := by rw [hZ3]; exact HRZ2.out
          have HBZ3 : Hid (Below w.heap.size w Z3) := by rw [hZ3]; exact HBZ2.out
          have HROW : Hid (∀ W, GrownX (fun i => i = m) Z3 W → W.cell? ⟨b0, off + n * 6, none⟩ = some (.int .i64 k.fam) ∧ W.cell? ⟨b0, off + n * 6 + 1, none⟩ = some (.int .u64 k.rd) ∧ W.cell? ⟨b0, off + n * 6 + 2, none⟩ = some (.string k.addr) ∧ W.cell? ⟨b0, off + n * 6 + 3, none⟩ = some (.int .i64 k.len) ∧ W.cell? ⟨b0, off + n * 6 + 4, none⟩ = some (.int .u32 (k.id : Nat)) ∧ W.cell? ⟨b0, off + n * 6 + 5, none⟩ = some (.int .u32 (label : Nat))) := fun W hW => HROWW.out W (hW.below HBZ3.out (fun i hi => by rw [hi]; exact HM.out) HBZ3.out.size)
          clear hZ3 HRZ2 HBZ2
          go_cut [12, 13] (fun v8 v9 wx => ∃ (g : Nat) (kk : Pk) (l : Nat) (a : Atr) (s : Bool), v8 = .pointer (some ⟨g, 0, none⟩) ∧ v9 = .bool true ∧ Hid (CellsAt wx g (pathAr kk l a s) 47) ∧ Hid (∀ t, getC M2 k = some t → l = t.label ∧ a.c = t.c ∧ s = t.stale) ∧ Hid (RibM wx bs b m most M2) ∧ Hid (AtrOk wx a) ∧ Hid (Below w.heap.size w wx))
          case first =>
            refine wp_region_held_drew (S := fun w' => GrownX (fun i => i = m) Z3 w') (by kernel_rfl) ((GrownX.refl _ _).drew 1) (fun hHeld => ?_)
            refine wpAnyH_take (i := 0) (oi := { dst := some 83, op := Op.move (Operand.tmp 5), type := 25, pos := "outright.go:148", after := #[], guard := none }) (v := ?_) rfl (by kernel_rfl) (by kernel_rfl) (by kernel_rfl) (fun _ _ _ h => h) (Or.inl ⟨by rfl, ?_⟩) hHeld ?_
            rotate_left
            · intro w hSw
              clear hSw
              go_simp
              try with_reducible rfl
            try simp only [Act.put, List.setIfInBounds_toArray, List.set_cons_zero, List.set_cons_succ]
            refine wpAnyH_take (i := 1) (oi := { dst := some 84, op := Op.move (Operand.tmp 1), type := 22, pos := "outright.go:148", after := #[], guard := none }) (v := ?_) rfl (by kernel_rfl) (by kernel_rfl) (by kernel_rfl) (fun _ _ _ h => h) (Or.inl ⟨by rfl, ?_⟩) hHeld ?_
            rotate_left
            · intro w hSw
              clear hSw
              go_simp
              try with_reducible rfl
            try simp only [Act.put, List.setIfInBounds_toArray, List.set_cons_zero, List.set_cons_succ]
            refine wpAnyH_take (i := 2) (oi := { dst := some 85, op := Op.move (Operand.tmp 7), type := 3, pos := "outright.go:148", after := #[], guard := none }) (v := ?_) rfl (by kernel_rfl) (by kernel_rfl) (by kernel_rfl) (fun _ _ _ h => h) (Or.inl ⟨by rfl, ?_⟩) hHeld ?_
            rotate_left
            · intro w hSw
              clear hSw
              go_simp
              try with_reducible rfl
            try simp only [Act.put, List.setIfInBounds_toArray, List.set_cons_zero, List.set_cons_succ]
            refine wpAnyH_take (i := 3) (oi := { dst := some 86, op := Op.indexAddr 22 (Operand.tmp 84) (Operand.tmp 85), type := 0, pos := "outright.go:148", after := #[{ on := 1, ground := Ground.data }, { on := 2, ground := Ground.data }], guard := none }) (v := ?_) rfl (by kernel_rfl) (by kernel_rfl) (by kernel_rfl) (fun _ _ _ h => h) (Or.inl ⟨by rfl, ?_⟩) hHeld ?_
            rotate_left
            · intro w hSw
              clear hSw
              go_simp
              try with_reducible rfl
            try simp only [Act.put, List.setIfInBounds_toArray, List.set_cons_zero, List.set_cons_succ]
            refine wpAnyH_take (i := 4) (oi := { dst := some 87, op := Op.fieldAddr 32 (Operand.tmp 86) 0, type := 0, pos := "outright.go:148", after := #[{ on := 3, ground := Ground.data }], guard := none }) (v := ?_) rfl (by kernel_rfl) (by kernel_rfl) (by kernel_rfl) (fun _ _ _ h => h) (Or.inl ⟨by rfl, ?_⟩) hHeld ?_
            rotate_left
            · intro w hSw
              clear hSw
              go_simp
              try with_reducible rfl
            try simp only [Act.put, List.setIfInBounds_toArray, List.set_cons_zero, List.set_cons_succ]
            refine wpAnyH_take (i := 5) (oi := { dst := some 88, op := Op.load 29 (Operand.tmp 87), type := 29, pos := "outright.go:148", after := #[{ on := 4, ground := Ground.data }], guard := none }) (v := ?_) rfl (by kernel_rfl) (by kernel_rfl) (by kernel_rfl) (fun _ _ _ h => h) (Or.inl ⟨by rfl, ?_⟩) hHeld ?_
            rotate_left
            · intro w hSw
              obtain ⟨c0, c1, c2, c3, c4, c5⟩ := HROW.out w hSw
              go_simp
              try with_reducible rfl
            try simp only [Act.put, List.setIfInBounds_toArray, List.set_cons_zero, List.set_cons_succ]
            refine wpAnyH_take (i := 6) (oi := { dst := some 89, op := Op.move (Operand.tmp 1), type := 22, pos := "outright.go:148", after := #[], guard := none }) (v := ?_) rfl (by kernel_rfl) (by kernel_rfl) (by kernel_rfl) (fun _ _ _ h => h) (Or.inl ⟨by rfl, ?_⟩) hHeld ?_
            rotate_left
            · intro w hSw
              clear hSw
              go_simp
              try with_reducible rfl
            try simp only [Act.put, List.setIfInBounds_toArray, List.set_cons_zero, List.set_cons_succ]
            refine wpAnyH_take (i := 7) (oi := { dst := some 90, op := Op.move (Operand.tmp 7), type := 3, pos := "outright.go:148", after := #[], guard := none }) (v := ?_) rfl (by kernel_rfl) (by kernel_rfl) (by kernel_rfl) (fun _ _ _ h => h) (Or.inl ⟨by rfl, ?_⟩) hHeld ?_
            rotate_left
            · intro w hSw
              clear hSw
              go_simp
              try with_reducible rfl
            try simp only [Act.put, List.setIfInBounds_toArray, List.set_cons_zero, List.set_cons_succ]
            refine wpAnyH_take (i := 8) (oi := { dst := some 91, op := Op.indexAddr 22 (Operand.tmp 89) (Operand.tmp 90), type := 0, pos := "outright.go:148", after := #[{ on := 6, ground := Ground.data }, { on := 7, ground := Ground.data }], guard := none }) (v := ?_) rfl (by kernel_rfl) (by kernel_rfl) (by kernel_rfl) (fun _ _ _ h => h) (Or.inl ⟨by rfl, ?_⟩) hHeld ?_
            rotate_left
            · intro w hSw
              clear hSw
              go_simp
              try with_reducible rfl
            try simp only [Act.put, List.setIfInBounds_toArray, List.set_cons_zero, List.set_cons_succ]
            refine wpAnyH_take (i := 9) (oi := { dst := some 92, op := Op.fieldAddr 32 (Operand.tmp 91) 1, type := 0, pos := "outright.go:148", after := #[{ on := 8, ground := Ground.data }], guard := none }) (v := ?_) rfl (by kernel_rfl) (by kernel_rfl) (by kernel_rfl) (fun _ _ _ h => h) (Or.inl ⟨by rfl, ?_⟩) hHeld ?_
            rotate_left
            · intro w hSw
              clear hSw
              go_simp
              try with_reducible rfl
            try simp only [Act.put, List.setIfInBounds_toArray, List.set_cons_zero, List.set_cons_succ]
            refine wpAnyH_take (i := 10) (oi := { dst := some 93, op := Op.load 30 (Operand.tmp 92), type := 30, pos := "outright.go:148", after := #[{ on := 9, ground := Ground.data }], guard := none }) (v := ?_) rfl (by kernel_rfl) (by kernel_rfl) (by kernel_rfl) (fun _ _ _ h => h) (Or.inl ⟨by rfl, ?_⟩) hHeld ?_
            rotate_left
            · intro w hSw
              obtain ⟨c0, c1, c2, c3, c4, c5⟩ := HROW.out w hSw
              go_simp
              try with_reducible rfl
            try simp only [Act.put, List.setIfInBounds_toArray, List.set_cons_zero, List.set_cons_succ]
            refine wpAnyH_ready (rs := [11, 15]) (by kernel_rfl) (by simp) ?_
            refine AllReadyH.cons (o := { dst := some 94, op := Op.call { callee := Callee.value (Operand.func 13), args := #[Operand.tmp 83, Operand.tmp 88, Operand.tmp 93], argTypes := #[25, 29, 30] }, type := 48, pos := "outright.go:148", after := #[{ on := 0, ground := Ground.data }, { on := 5, ground := Ground.data }, { on := 10, ground := Ground.data }], guard := none }) rfl (fun K hK => ?_) ?_
            · go_simp
              refine (HGET.out _ (HRZ3.out.drew_)).mono ?_
              rintro e w9 ⟨⟨kk9, l9, a9, s9, rfl, hfa, ho9⟩, hw9⟩
              have HRx9 : Hid (RibM w9 bs b m most M2) := (HRZ3.out.drew_).below hw9
              have HFAx9 := Lib.hid hfa
              have HOx9 := Lib.hid ho9
              have HG9 : Hid (GrownX (fun i => i = m) Z3 w9) := hHeld.trans (GrownX.of_below hw9)
              clear hfa ho9
              refine hK.out _ _ HG9.out (fun hHeld => ?_)
              clear hK K
              try simp only [Act.put, List.setIfInBounds_toArray, List.set_cons_zero, List.set_cons_succ]
              refine wpAnyH_take (i := 12) (oi := { dst := some 82, op := Op.move (Operand.tmp 94), type := 48, pos := "outright.go:148", after := #[{ on := 11, ground := Ground.data }], guard := none }) (v := ?_) rfl (by kernel_rfl) (by kernel_rfl) (by kernel_rfl) (fun _ _ _ h => h) (Or.inl ⟨by rfl, ?_⟩) hHeld ?_
              rotate_left
              · intro w hSw
                clear hSw
                go_simp
                try with_reducible rfl
              try simp only [Act.put, List.setIfInBounds_toArray, List.set_cons_zero, List.set_cons_succ]
              refine wpAnyH_take (i := 13) (oi := { dst := some 95, op := Op.extract (Operand.tmp 82) 0, type := 47, pos := "outright.go:148", after := #[{ on := 12, ground := Ground.data }], guard := none }) (v := ?_) rfl (by kernel_rfl) (by kernel_rfl) (by kernel_rfl) (fun _ _ _ h => h) (Or.inl ⟨by rfl, ?_⟩) hHeld ?_
              rotate_left
              · intro w hSw
                clear hSw
                go_simp
                try with_reducible rfl
              try simp only [Act.put, List.setIfInBounds_toArray, List.set_cons_zero, List.set_cons_succ]
              refine wpAnyH_take (i := 14) (oi := { dst := some 96, op := Op.extract (Operand.tmp 82) 1, type := 4, pos := "outright.go:148", after := #[{ on := 12, ground := Ground.data }, { on := 16, ground := Ground.gcOnly Departure.lateStores }], guard := none }) (v := ?_) rfl (by kernel_rfl) (by kernel_rfl) (by kernel_rfl) (fun _ _ _ h => h) (Or.inl ⟨by rfl, ?_⟩) hHeld ?_
              rotate_left
              · intro w hSw
                clear hSw
                go_simp
                try with_reducible rfl
              try simp only [Act.put, List.setIfInBounds_toArray, List.set_cons_zero, List.set_cons_succ]
              have HNx9 : Hid (∀ cs : Array Value, CellsAt (w9.alloc (.cells cs 47)) w9.heap.size cs 47) := fun cs => CellsAt.new _ _ _
              have HGSx9 : Hid (∀ cs : Array Value, GrownX (fun i => i = m) Z3 ((w9.alloc (.cells cs 47)).setRow w9.heap.size (pathAr kk9 l9 a9 s9))) := fun cs => HG9.out.trans ((GrownX.of_below ((Below.refl _ _).alloc (Nat.le_refl _) _)).new_ (GrownX.of_row (X := fun i => i = w9.heap.size) (grown_setRow' _ _ _) rfl) (fun i hi => by rw [hi]; exact Nat.le_refl _))
              refine wpAnyH_ready (rs := [15]) (by kernel_rfl) (by simp) ?_
              refine AllReadyH.cons (o := { dst := some 12, op := Op.alloc 47, type := 0, pos := "outright.go:148", after := #[], guard := none }) rfl (fun K hK => ?_) AllReadyH.nil
              go_simp
              refine hK.out _ _ (HG9.out.trans (GrownX.of_below ((Below.refl _ _).alloc (Nat.le_refl _) _))) (fun hHeld => ?_)
              clear hK K
              try simp only [Act.put, List.setIfInBounds_toArray, List.set_cons_zero, List.set_cons_succ]
              refine wpAnyH_ready (rs := [16]) (by kernel_rfl) (by simp) ?_
              refine AllReadyH.cons (o := { dst := none, op := Op.store 47 (Operand.tmp 12) (Operand.tmp 95), type := 0, pos := "outright.go:148", after := #[{ on := 15, ground := Ground.data }, { on := 13, ground := Ground.data }, { on := 11, ground := Ground.chain }, { on := 0, ground := Ground.phase }, { on := 1, ground := Ground.phase }, { on := 2, ground := Ground.phase }, { on := 3, ground := Ground.phase }, { on := 4, ground := Ground.phase }, { on := 5, ground := Ground.phase }, { on := 6, ground := Ground.phase }, { on := 7, ground := Ground.phase }, { on := 8, ground := Ground.phase }, { on := 9, ground := Ground.phase }, { on := 10, ground := Ground.phase }, { on := 11, ground := Ground.phase }, { on := 12, ground := Ground.phase }, { on := 13, ground := Ground.phase }, { on := 14, ground := Ground.textOnly Departure.lateStores }, { on := 15, ground := Ground.phase }], guard := none }) rfl (fun K hK => ?_) AllReadyH.nil
              refine wp_store_row 47 (.tmp 12) (.tmp 95) rfl w9.heap.size (pathAr kk9 l9 a9 s9) rfl rfl 47 _ (HNx9.out _) (by rw [path_size]; rfl) rfl (path_ones _ _ _ _) ?_
              refine hK.out _ _ (HGSx9.out _) (fun hHeld => ?_)
              clear hK K
              try simp only [Act.put, List.setIfInBounds_toArray, List.set_cons_zero, List.set_cons_succ]
              refine wpAnyH_take (i := 17) (oi := { dst := some 13, op := Op.assign (Operand.tmp 96), type := 4, pos := "outright.go:148", after := #[{ on := 14, ground := Ground.data }, { on := 16, ground := Ground.chain }, { on := 0, ground := Ground.phase }, { on := 1, ground := Ground.phase }, { on := 2, ground := Ground.phase }, { on := 3, ground := Ground.phase }, { on := 4, ground := Ground.phase }, { on := 5, ground := Ground.phase }, { on := 6, ground := Ground.phase }, { on := 7, ground := Ground.phase }, { on := 8, ground := Ground.phase }, { on := 9, ground := Ground.phase }, { on := 10, ground := Ground.phase }, { on := 11, ground := Ground.phase }, { on := 12, ground := Ground.phase }, { on := 13, ground := Ground.phase }, { on := 14, ground := Ground.phase }, { on := 15, ground := Ground.phase }, { on := 16, ground := Ground.phase }], guard := none }) (v := ?_) rfl (by kernel_rfl) (by kernel_rfl) (by kernel_rfl) (fun _ _ _ h => h) (Or.inl ⟨by rfl, ?_⟩) hHeld ?_
              rotate_left
              · intro w hSw
                clear hSw
                go_simp
                try with_reducible rfl
              try simp only [Act.put, List.setIfInBounds_toArray, List.set_cons_zero, List.set_cons_succ]
              refine wpAnyH_done (by kernel_rfl) ?_ _
              have hb9 : ∀ cs : Array Value, Below w9.heap.size w9 ((w9.alloc (.cells cs 47)).setRow w9.heap.size (pathAr kk9 l9 a9 s9)) := fun cs => ((Below.refl _ _).alloc (Nat.le_refl _) _).grown (grown_setRow' _ _ _) (by simp) (fun q hq => by cases hq; exact Nat.le_refl _)
              have HF1 := Lib.hid (fun cs => (HNx9.out cs).setRow' (pathAr kk9 l9 a9 s9))
              have HF2 := Lib.hid (fun cs => HRx9.out.below (hb9 cs))
              have HF3 := Lib.hid (fun cs => (AtO.below HOx9.out (hb9 cs)).ok)
              have HF4 := Lib.hid (fun cs => (HGSx9.out cs).below HBZ3.out (fun i hi => by rw [hi]; exact HM.out) HBZ3.out.size)
              clear hb9 hHeld
              go_wp2_with fail
              go_meet
              exact ⟨_, kk9, l9, a9, s9, rfl, rfl, HF1.out _, HFAx9.out, HF2.out _, HF3.out _, HF4.out _⟩
            · refine AllReadyH.cons (o := { dst := some 12, op := Op.alloc 47, type := 0, pos := "outright.go:148", after := #[], guard := none }) rfl (fun K hK => ?_) AllReadyH.nil
              go_simp
              have HNB : Hid (∀ cs : Array Value, CellsAt (Z3.drew.alloc (.cells cs 47)) Z3.heap.size cs 47) := fun cs => CellsAt.new Z3.drew _ _
              have HRB : Hid (∀ cs : Array Value, RibM (Z3.drew.alloc (.cells cs 47)) bs b m most M2) := fun cs => HRZ3.out.drew_.below ((Below.refl _ _).alloc (Nat.le_refl _) _)
              have hbZ := HRZ3.out.lt.1
              have hmZ := HRZ3.out.lt.2.1
              have hsz : ∀ cs : Array Value, (Z3.drew.alloc (.cells cs 47)).heap.size = Z3.heap.size + 1 := fun cs => by rw [World.size_alloc]; rfl
              have HSZB := Lib.hid hsz
              clear hsz
              refine hK.out _ _ (hHeld.trans (GrownX.of_below ((Below.refl _ _).alloc (Nat.le_refl _) _))) (fun hHeld => ?_)
              clear hK K
              try simp only [Act.put, List.setIfInBounds_toArray, List.set_cons_zero, List.set_cons_succ]
              refine wpAnyH_ready (rs := [11]) (by kernel_rfl) (by simp) ?_
              refine AllReadyH.cons (o := { dst := some 94, op := Op.call { callee := Callee.value (Operand.func 13), args := #[Operand.tmp 83, Operand.tmp 88, Operand.tmp 93], argTypes := #[25, 29, 30] }, type := 48, pos := "outright.go:148", after := #[{ on := 0, ground := Ground.data }, { on := 5, ground := Ground.data }, { on := 10, ground := Ground.data }], guard := none }) rfl (fun K hK => ?_) AllReadyH.nil
              go_simp
              refine (HGET.out _ (HRB.out _)).mono ?_
              rintro e w9 ⟨⟨kk9, l9, a9, s9, rfl, hfa, ho9⟩, hw9⟩
              have HRx9 : Hid (RibM w9 bs b m most M2) := (HRB.out _).below hw9
              have HFAx9 := Lib.hid hfa
              have HOx9 := Lib.hid ho9
              have HG9 : Hid (GrownX (fun i => i = m) Z3 w9) := hHeld.trans (GrownX.of_below hw9)
              clear hfa ho9
              refine hK.out _ _ HG9.out (fun hHeld => ?_)
              clear hK K
              try simp only [Act.put, List.setIfInBounds_toArray, List.set_cons_zero, List.set_cons_succ]
              refine wpAnyH_take (i := 12) (oi := { dst := some 82, op := Op.move (Operand.tmp 94), type := 48, pos := "outright.go:148", after := #[{ on := 11, ground := Ground.data }], guard := none }) (v := ?_) rfl (by kernel_rfl) (by kernel_rfl) (by kernel_rfl) (fun _ _ _ h => h) (Or.inl ⟨by rfl, ?_⟩) hHeld ?_
              rotate_left
              · intro w hSw
                clear hSw
                go_simp
                try with_reducible rfl
              try simp only [Act.put, List.setIfInBounds_toArray, List.set_cons_zero, List.set_cons_succ]
              refine wpAnyH_take (i := 13) (oi := { dst := some 95, op := Op.extract (Operand.tmp 82) 0, type := 47, pos := "outright.go:148", after := #[{ on := 12, ground := Ground.data }], guard := none }) (v := ?_) rfl (by kernel_rfl) (by kernel_rfl) (by kernel_rfl) (fun _ _ _ h => h) (Or.inl ⟨by rfl, ?_⟩) hHeld ?_
              rotate_left
              · intro w hSw
                clear hSw
                go_simp
                try with_reducible rfl
              try simp only [Act.put, List.setIfInBounds_toArray, List.set_cons_zero, List.set_cons_succ]
              refine wpAnyH_take (i := 14) (oi := { dst := some 96, op := Op.extract (Operand.tmp 82) 1, type := 4, pos := "outright.go:148", after := #[{ on := 12, ground := Ground.data }, { on := 16, ground := Ground.gcOnly Departure.lateStores }], guard := none }) (v := ?_) rfl (by kernel_rfl) (by kernel_rfl) (by kernel_rfl) (fun _ _ _ h => h) (Or.inl ⟨by rfl, ?_⟩) hHeld ?_
              rotate_left
              · intro w hSw
                clear hSw
                go_simp
                try with_reducible rfl
              try simp only [Act.put, List.setIfInBounds_toArray, List.set_cons_zero, List.set_cons_succ]
              have HC9 := Lib.hid ((HNB.out _).below hw9 (HNB.out _).lt)
              have HGS9 : Hid (GrownX (fun i => i = m) Z3 (w9.setRow Z3.heap.size (pathAr kk9 l9 a9 s9))) := HG9.out.new_ (GrownX.of_row (X := fun i => i = Z3.heap.size) (grown_setRow' _ _ _) rfl) (fun i hi => by rw [hi]; exact Nat.le_refl _)
              refine wpAnyH_ready (rs := [16]) (by kernel_rfl) (by simp) ?_
              refine AllReadyH.cons (o := { dst := none, op := Op.store 47 (Operand.tmp 12) (Operand.tmp 95), type := 0, pos := "outright.go:148", after := #[{ on := 15, ground := Ground.data }, { on := 13, ground := Ground.data }, { on := 11, ground := Ground.chain }, { on := 0, ground := Ground.phase }, { on := 1, ground := Ground.phase }, { on := 2, ground := Ground.phase }, { on := 3, ground := Ground.phase }, { on := 4, ground := Ground.phase }, { on := 5, ground := Ground.phase }, { on := 6, ground := Ground.phase }, { on := 7, ground := Ground.phase }, { on := 8, ground := Ground.phase }, { on := 9, ground := Ground.phase }, { on := 10, ground := Ground.phase }, { on := 11, ground := Ground.phase }, { on := 12, ground := Ground.phase }, { on := 13, ground := Ground.phase }, { on := 14, ground := Ground.textOnly Departure.lateStores }, { on := 15, ground := Ground.phase }], guard := none }) rfl (fun K hK => ?_) AllReadyH.nil
              refine wp_store_row 47 (.tmp 12) (.tmp 95) rfl Z3.heap.size (pathAr kk9 l9 a9 s9) rfl rfl 47 _ HC9.out (by rw [path_size]; rfl) rfl (path_ones _ _ _ _) ?_
              refine hK.out _ _ (HGS9.out) (fun hHeld => ?_)
              clear hK K
              try simp only [Act.put, List.setIfInBounds_toArray, List.set_cons_zero, List.set_cons_succ]
              refine wpAnyH_take (i := 17) (oi := { dst := some 13, op := Op.assign (Operand.tmp 96), type := 4, pos := "outright.go:148", after := #[{ on := 14, ground := Ground.data }, { on := 16, ground := Ground.chain }, { on := 0, ground := Ground.phase }, { on := 1, ground := Ground.phase }, { on := 2, ground := Ground.phase }, { on := 3, ground := Ground.phase }, { on := 4, ground := Ground.phase }, { on := 5, ground := Ground.phase }, { on := 6, ground := Ground.phase }, { on := 7, ground := Ground.phase }, { on := 8, ground := Ground.phase }, { on := 9, ground := Ground.phase }, { on := 10, ground := Ground.phase }, { on := 11, ground := Ground.phase }, { on := 12, ground := Ground.phase }, { on := 13, ground := Ground.phase }, { on := 14, ground := Ground.phase }, { on := 15, ground := Ground.phase }, { on := 16, ground := Ground.phase }], guard := none }) (v := ?_) rfl (by kernel_rfl) (by kernel_rfl) (by kernel_rfl) (fun _ _ _ h => h) (Or.inl ⟨by rfl, ?_⟩) hHeld ?_
              rotate_left
              · intro w hSw
                clear hSw
                go_simp
                try with_reducible rfl
              try simp only [Act.put, List.setIfInBounds_toArray, List.set_cons_zero, List.set_cons_succ]
              refine wpAnyH_done (by kernel_rfl) ?_ _
              have HF1 := Lib.hid (HC9.out.setRow' (pathAr kk9 l9 a9 s9))
              have HF2 := Lib.hid (HRx9.out.off (grown_setRow' w9 Z3.heap.size (pathAr kk9 l9 a9 s9)) HC9.out (Nat.ne_of_lt hbZ) (Nat.ne_of_lt hmZ))
              have HF3 := Lib.hid (AtO.ok (AtO.keep HOx9.out (fun i h1 h2 => (grown_setRow' w9 Z3.heap.size (pathAr kk9 l9 a9 s9)).block i h2 (fun e => by injection e with e; rw [HSZB.out] at h1; omega))))
              have HF4 := Lib.hid (HGS9.out.below HBZ3.out (fun i hi => by rw [hi]; exact HM.out) HBZ3.out.size)
              clear hHeld hbZ hmZ
              go_wp2_with fail
              go_meet
              exact ⟨_, kk9, l9, a9, s9, rfl, rfl, HF1.out, HFAx9.out, HF2.out, HF3.out, HF4.out⟩
          case rest =>
          obtain ⟨g4, kk8, l8, a8, s8, rfl, rfl, HPA, HFAx8, HRZ4, HAO8, HBZ4⟩ := hcut
          obtain ⟨Z4, hZ4⟩ : ∃ x, x = wc := ⟨_, rfl⟩
          subst hZ4
          have HAC8 : Hid (a8.c = medC n) := by
            have := (HFAx8.out _ (HGS2.out)).2.1
            exact this
          have HSAME : Hid (∀ W, Below Z4.heap.size Z4 W → Calls Try.prog 15 #[.agg a8.ar, .agg (medA n).ar] W fun e w' => e = .returned (.bool true) ∧ Below W.heap.size W w') := fun W hW => by
            have h := same_any a8 (medA n) W (HAO8.out.below hW (Nat.le_refl _)) (medA_own W 0 HMED.out).ok
            rw [show a8.c = (medA n).c from HAC8.out, decide_eq_true rfl] at h
            exact h
          clear HGET HRZ3 HBZ3
          go_upto_region 18 with fail
          refine wp_region_held_drew (S := fun w' => Below Z4.heap.size Z4 w') (by kernel_rfl) (below_drewN (Below.refl _ _) 1) (fun hHeld => ?_)
          refine wpAnyH_take (i := 0) (oi := { dst := some 97, op := Op.move (Operand.tmp 13), type := 4, pos := "outright.go:149", after := #[], guard := none }) (v := ?_) rfl (by kernel_rfl) (by kernel_rfl) (by kernel_rfl) (fun _ _ _ h => h) (Or.inl ⟨by rfl, ?_⟩) hHeld ?_
          rotate_left
          · intro w hSw
            clear hSw
            go_simp
            try with_reducible rfl
          try simp only [Act.put, List.setIfInBounds_toArray, List.set_cons_zero, List.set_cons_succ]
          refine wpAnyH_take (i := 1) (oi := { dst := some 98, op := Op.move (Operand.tmp 10), type := 4, pos := "outright.go:149", after := #[], guard := none }) (v := ?_) rfl (by kernel_rfl) (by kernel_rfl) (by kernel_rfl) (fun _ _ _ h => h) (Or.inl ⟨by rfl, ?_⟩) hHeld ?_
          rotate_left
          · intro w hSw
            clear hSw
            go_simp
            try with_reducible rfl
          try simp only [Act.put, List.setIfInBounds_toArray, List.set_cons_zero, List.set_cons_succ]
          refine wpAnyH_take (i := 2) (oi := { dst := some 99, op := Op.binOp BinOp.eql 4 (Operand.tmp 97) (Operand.tmp 98) 4, type := 4, pos := "outright.go:149", after := #[{ on := 0, ground := Ground.data }, { on := 1, ground := Ground.data }], guard := none }) (v := ?_) rfl (by kernel_rfl) (by kernel_rfl) (by kernel_rfl) (fun _ _ _ h => h) (Or.inl ⟨by rfl, ?_⟩) hHeld ?_
          rotate_left
          · intro w hSw
            clear hSw
            go_simp
            try with_reducible rfl
          try simp only [Act.put, List.setIfInBounds_toArray, List.set_cons_zero, List.set_cons_succ]
          refine wpAnyH_take (i := 3) (oi := { dst := some 100, op := Op.move (Operand.tmp 99), type := 4, pos := "outright.go:149", after := #[{ on := 2, ground := Ground.data }], guard := none }) (v := ?_) rfl (by kernel_rfl) (by kernel_rfl) (by kernel_rfl) (fun _ _ _ h => h) (Or.inl ⟨by rfl, ?_⟩) hHeld ?_
          rotate_left
          · intro w hSw
            clear hSw
            go_simp
            try with_reducible rfl
          try simp only [Act.put, List.setIfInBounds_toArray, List.set_cons_zero, List.set_cons_succ]
          refine wpAnyH_take (i := 4) (oi := { dst := some 101, op := Op.move (Operand.tmp 13), type := 4, pos := "outright.go:149", after := #[{ on := 3, ground := Ground.guard }], guard := some (3, false) }) (v := ?_) rfl (by kernel_rfl) (by kernel_rfl) (by kernel_rfl) (fun _ _ _ h => h) (Or.inl ⟨by rfl, ?_⟩) hHeld ?_
          rotate_left
          · intro w hSw
            clear hSw
            go_simp
            try with_reducible rfl
          try simp only [Act.put, List.setIfInBounds_toArray, List.set_cons_zero, List.set_cons_succ]
          refine wpAnyH_take (i := 5) (oi := { dst := some 102, op := Op.move (Operand.tmp 101), type := 4, pos := "outright.go:149", after := #[{ on := 4, ground := Ground.data }, { on := 3, ground := Ground.chain }, { on := 3, ground := Ground.guard }], guard := some (3, false) }) (v := ?_) rfl (by kernel_rfl) (by kernel_rfl) (by kernel_rfl) (fun _ _ _ h => h) (Or.inl ⟨by rfl, ?_⟩) hHeld ?_
          rotate_left
          · intro w hSw
            clear hSw
            go_simp
            try with_reducible rfl
          try simp only [Act.put, List.setIfInBounds_toArray, List.set_cons_zero, List.set_cons_succ]
          refine wpAnyH_take (i := 6) (oi := { dst := some 103, op := Op.fieldAddr 47 (Operand.tmp 12) 3, type := 0, pos := "outright.go:149", after := #[{ on := 5, ground := Ground.guard }], guard := some (5, true) }) (v := ?_) rfl (by kernel_rfl) (by kernel_rfl) (by kernel_rfl) (fun _ _ _ h => h) (Or.inl ⟨by rfl, ?_⟩) hHeld ?_
          rotate_left
          · intro w hSw
            clear hSw
            go_simp
            try with_reducible rfl
          try simp only [Act.put, List.setIfInBounds_toArray, List.set_cons_zero, List.set_cons_succ]
          refine wpAnyH_take (i := 7) (oi := { dst := some 104, op := Op.load 41 (Operand.tmp 103), type := 41, pos := "outright.go:149", after := #[{ on := 6, ground := Ground.data }, { on := 5, ground := Ground.guard }], guard := some (5, true) }) (v := Value.agg a8.ar) rfl (by kernel_rfl) (by kernel_rfl) (by kernel_rfl) (fun _ _ _ h => h) (yields_attrs6 (by rfl) _ rfl g4 (by rfl) a8 (fun w h => path_mid (HPA.out.below h HPA.out.lt))) hHeld ?_
          try simp only [Act.put, List.setIfInBounds_toArray, List.set_cons_zero, List.set_cons_succ]
          refine wpAnyH_take (i := 8) (oi := { dst := some 105, op := Op.move (Operand.tmp 7), type := 3, pos := "outright.go:149", after := #[{ on := 5, ground := Ground.guard }], guard := some (5, true) }) (v := ?_) rfl (by kernel_rfl) (by kernel_rfl) (by kernel_rfl) (fun _ _ _ h => h) (Or.inl ⟨by rfl, ?_⟩) hHeld ?_
          rotate_left
          · intro w hSw
            clear hSw
            go_simp
            try with_reducible rfl
          try simp only [Act.put, List.setIfInBounds_toArray, List.set_cons_zero, List.set_cons_succ]
          refine wpAnyH_take (i := 9) (oi := { dst := some 106, op := Op.convert 3 30 (Operand.tmp 105), type := 30, pos := "outright.go:149", after := #[{ on := 8, ground := Ground.data }, { on := 5, ground := Ground.guard }], guard := some (5, true) }) (v := ?_) rfl (by kernel_rfl) (by kernel_rfl) (by kernel_rfl) (fun _ _ _ h => h) (Or.inl ⟨by rfl, ?_⟩) hHeld ?_
          rotate_left
          · intro w hSw
            clear hSw
            go_simp
            try with_reducible rfl
          try simp only [Act.put, List.setIfInBounds_toArray, List.set_cons_zero, List.set_cons_succ]
          refine wpAnyH_ready (rs := [10]) (by kernel_rfl) (by simp) ?_
          refine AllReadyH.cons (o := { dst := some 107, op := Op.call { callee := Callee.value (Operand.func 11), args := #[Operand.tmp 106], argTypes := #[30] }, type := 41, pos := "outright.go:149", after := #[{ on := 9, ground := Ground.data }, { on := 5, ground := Ground.chain }, { on := 5, ground := Ground.guard }], guard := some (5, true) }) rfl (fun K hK => ?_) AllReadyH.nil
          go_simp
          refine (of_any n _).mono ?_
          rintro e w5 ⟨rfl, hw5⟩
          have hh5 := hHeld.trans (hw5.mono hHeld.size)
          refine hK.out _ _ (hh5) (fun hHeld => ?_)
          clear hK K
          try simp only [Act.put, List.setIfInBounds_toArray, List.set_cons_zero, List.set_cons_succ]
          refine wpAnyH_ready (rs := [11]) (by kernel_rfl) (by simp) ?_
          refine AllReadyH.cons (o := { dst := some 108, op := Op.call { callee := Callee.value (Operand.func 15), args := #[Operand.tmp 104, Operand.tmp 107], argTypes := #[41, 41] }, type := 4, pos := "outright.go:149", after := #[{ on := 7, ground := Ground.data }, { on := 10, ground := Ground.data }, { on := 10, ground := Ground.chain }, { on := 5, ground := Ground.guard }], guard := some (5, true) }) rfl (fun K hK => ?_) AllReadyH.nil
          go_simp
          refine (HSAME.out _ hh5).mono ?_
          rintro e w6 ⟨rfl, hw6⟩
          refine hK.out _ _ (hHeld.trans (hw6.mono hHeld.size)) (fun hHeld => ?_)
          clear hK K
          try simp only [Act.put, List.setIfInBounds_toArray, List.set_cons_zero, List.set_cons_succ]
          refine wpAnyH_take (i := 12) (oi := { dst := some 109, op := Op.unOp UnOp.not 4 (Operand.tmp 108), type := 4, pos := "outright.go:149", after := #[{ on := 11, ground := Ground.data }, { on := 5, ground := Ground.guard }], guard := some (5, true) }) (v := ?_) rfl (by kernel_rfl) (by kernel_rfl) (by kernel_rfl) (fun _ _ _ h => h) (Or.inl ⟨by rfl, ?_⟩) hHeld ?_
          rotate_left
          · intro w hSw
            clear hSw
            go_simp
            try with_reducible rfl
          try simp only [Act.put, List.setIfInBounds_toArray, List.set_cons_zero, List.set_cons_succ]
          refine wpAnyH_take (i := 13) (oi := { dst := some 110, op := Op.pick (Operand.tmp 102) (Operand.tmp 109) (Operand.const (Value.bool false)), type := 4, pos := "outright.go:149", after := #[{ on := 5, ground := Ground.data }, { on := 12, ground := Ground.data }, { on := 3, ground := Ground.guard }], guard := some (3, false) }) (v := ?_) rfl (by kernel_rfl) (by kernel_rfl) (by kernel_rfl) (fun _ _ _ h => h) (Or.inl ⟨by rfl, ?_⟩) hHeld ?_
          rotate_left
          · intro w hSw
            clear hSw
            go_simp
            try with_reducible rfl
          try simp only [Act.put, List.setIfInBounds_toArray, List.set_cons_zero, List.set_cons_succ]
          refine wpAnyH_take (i := 14) (oi := { dst := some 111, op := Op.pick (Operand.tmp 100) (Operand.const (Value.bool true)) (Operand.tmp 110), type := 4, pos := "outright.go:149", after := #[{ on := 3, ground := Ground.data }, { on := 13, ground := Ground.data }], guard := none }) (v := ?_) rfl (by kernel_rfl) (by kernel_rfl) (by kernel_rfl) (fun _ _ _ h => h) (Or.inl ⟨by rfl, ?_⟩) hHeld ?_
          rotate_left
          · intro w hSw
            clear hSw
            go_simp
            try with_reducible rfl
          try simp only [Act.put, List.setIfInBounds_toArray, List.set_cons_zero, List.set_cons_succ]
          refine wpAnyH_done (by kernel_rfl) ?_ _
          go_upto_region 9 with fail
          refine rb_name fun Z5 hZ5 => ?_
          have hb45 : Below Z4.heap.size Z4 Z5 := by rw [hZ5]; exact hHeld
          have HRZ5 : Hid (RibM Z5 bs b m most M2) := HRZ4.out.below hb45
          have HBZ5 : Hid (Below w.heap.size w Z5) := HBZ4.out.trans (hb45.mono HBZ4.out.size)
          clear hZ5 hb45 hHeld HRZ4 HBZ4 HPA
          go_wp2_with fail
          exact ⟨⟨cn, n + 1, M2, rfl, by go_num, by omega, HL2.out, HRZ5.out, hcm, by omega, HF2.out, HBZ5.out⟩, by simp [intOf]; omega⟩
        | false =>
          have hcl : cn < most := by
            have := hover rfl
            rw [← HCN.out] at this
            omega
          have zc : ((cn : Int) == (most : Int)) = false := beq_eq_false_iff_ne.2 (by omega)
          have HL2 : Hid (cn + 1 = M2.length) := by
            show _ = _
            rw [HCN.out, hlen2]
            rfl
          clear hlen2 hover hsm
          rw [show (getC M2 k).isSome = true by rw [HGS2.out]; rfl] at HGET
          go_upto_region 17 with fail
          refine rb_name fun Z3 hZ3 => ?_
          have HRZ3 : Hid (RibM Z3 bs b m most M2) := by rw [hZ3]; exact HRZ2.out
          have HBZ3 : Hid (Below w.heap.size w Z3) := by rw [hZ3]; exact HBZ2.out
          have HROW : Hid (∀ W, GrownX (fun i => i = m) Z3 W → W.cell? ⟨b0, off + n * 6, none⟩ = some (.int .i64 k.fam) ∧ W.cell? ⟨b0, off + n * 6 + 1, none⟩ = some (.int .u64 k.rd) ∧ W.cell? ⟨b0, off + n * 6 + 2, none⟩ = some (.string k.addr) ∧ W.cell? ⟨b0, off + n * 6 + 3, none⟩ = some (.int .i64 k.len) ∧ W.cell? ⟨b0, off + n * 6 + 4, none⟩ = some (.int .u32 (k.id : Nat)) ∧ W.cell? ⟨b0, off + n * 6 + 5, none⟩ = some (.int .u32 (label : Nat))) := fun W hW => HROWW.out W (hW.below HBZ3.out (fun i hi => by rw [hi]; exact HM.out) HBZ3.out.size)
          clear hZ3 HRZ2 HBZ2
          go_cut [12, 13] (fun v8 v9 wx => ∃ (g : Nat) (kk : Pk) (l : Nat) (a : Atr) (s : Bool), v8 = .pointer (some ⟨g, 0, none⟩) ∧ v9 = .bool true ∧ Hid (CellsAt wx g (pathAr kk l a s) 47) ∧ Hid (∀ t, getC M2 k = some t → l = t.label ∧ a.c = t.c ∧ s = t.stale) ∧ Hid (RibM wx bs b m most M2) ∧ Hid (AtrOk wx a) ∧ Hid (Below w.heap.size w wx))
          case first =>
            refine wp_region_held_drew (S := fun w' => GrownX (fun i => i = m) Z3 w') (by kernel_rfl) ((GrownX.refl _ _).drew 1) (fun hHeld => ?_)
            refine wpAnyH_take (i := 0) (oi := { dst := some 83, op := Op.move (Operand.tmp 5), type := 25, pos := "outright.go:148", after := #[], guard := none }) (v := ?_) rfl (by kernel_rfl) (by kernel_rfl) (by kernel_rfl) (fun _ _ _ h => h) (Or.inl ⟨by rfl, ?_⟩) hHeld ?_
            rotate_left
            · intro w hSw
              clear hSw
              go_simp
              try with_reducible rfl
            try simp only [Act.put, List.setIfInBounds_toArray, List.set_cons_zero, List.set_cons_succ]
            refine wpAnyH_take (i := 1) (oi := { dst := some 84, op := Op.move (Operand.tmp 1), type := 22, pos := "outright.go:148", after := #[], guard := none }) (v := ?_) rfl (by kernel_rfl) (by kernel_rfl) (by kernel_rfl) (fun _ _ _ h => h) (Or.inl ⟨by rfl, ?_⟩) hHeld ?_
            rotate_left
            · intro w hSw
              clear hSw
              go_simp
              try with_reducible rfl
            try simp only [Act.put, List.setIfInBounds_toArray, List.set_cons_zero, List.set_cons_succ]
            refine wpAnyH_take (i := 2) (oi := { dst := some 85, op := Op.move (Operand.tmp 7), type := 3, pos := "outright.go:148", after := #[], guard := none }) (v := ?_) rfl (by kernel_rfl) (by kernel_rfl) (by kernel_rfl) (fun _ _ _ h => h) (Or.inl ⟨by rfl, ?_⟩) hHeld ?_
            rotate_left
            · intro w hSw
              clear hSw
              go_simp
              try with_reducible rfl
            try simp only [Act.put, List.setIfInBounds_toArray, List.set_cons_zero, List.set_cons_succ]
            refine wpAnyH_take (i := 3) (oi := { dst := some 86, op := Op.indexAddr 22 (Operand.tmp 84) (Operand.tmp 85), type := 0, pos := "outright.go:148", after := #[{ on := 1, ground := Ground.data }, { on := 2, ground := Ground.data }], guard := none }) (v := ?_) rfl (by kernel_rfl) (by kernel_rfl) (by kernel_rfl) (fun _ _ _ h => h) (Or.inl ⟨by rfl, ?_⟩) hHeld ?_
            rotate_left
            · intro w hSw
              clear hSw
              go_simp
              try with_reducible rfl
            try simp only [Act.put, List.setIfInBounds_toArray, List.set_cons_zero, List.set_cons_succ]
            refine wpAnyH_take (i := 4) (oi := { dst := some 87, op := Op.fieldAddr 32 (Operand.tmp 86) 0, type := 0, pos := "outright.go:148", after := #[{ on := 3, ground := Ground.data }], guard := none }) (v := ?_) rfl (by kernel_rfl) (by kernel_rfl) (by kernel_rfl) (fun _ _ _ h => h) (Or.inl ⟨by rfl, ?_⟩) hHeld ?_
            rotate_left
            · intro w hSw
              clear hSw
              go_simp
              try with_reducible rfl
            try simp only [Act.put, List.setIfInBounds_toArray, List.set_cons_zero, List.set_cons_succ]
            refine wpAnyH_take (i := 5) (oi := { dst := some 88, op := Op.load 29 (Operand.tmp 87), type := 29, pos := "outright.go:148", after := #[{ on := 4, ground := Ground.data }], guard := none }) (v := ?_) rfl (by kernel_rfl) (by kernel_rfl) (by kernel_rfl) (fun _ _ _ h => h) (Or.inl ⟨by rfl, ?_⟩) hHeld ?_
            rotate_left
            · intro w hSw
              obtain ⟨c0, c1, c2, c3, c4, c5⟩ := HROW.out w hSw
              go_simp
              try with_reducible rfl
            try simp only [Act.put, List.setIfInBounds_toArray, List.set_cons_zero, List.set_cons_succ]
            refine wpAnyH_take (i := 6) (oi := { dst := some 89, op := Op.move (Operand.tmp 1), type := 22, pos := "outright.go:148", after := #[], guard := none }) (v := ?_) rfl (by kernel_rfl) (by kernel_rfl) (by kernel_rfl) (fun _ _ _ h => h) (Or.inl ⟨by rfl, ?_⟩) hHeld ?_
            rotate_left
            · intro w hSw
              clear hSw
              go_simp
              try with_reducible rfl
            try simp only [Act.put, List.setIfInBounds_toArray, List.set_cons_zero, List.set_cons_succ]
            refine wpAnyH_take (i := 7) (oi := { dst := some 90, op := Op.move (Operand.tmp 7), type := 3, pos := "outright.go:148", after := #[], guard := none }) (v := ?_) rfl (by kernel_rfl) (by kernel_rfl) (by kernel_rfl) (fun _ _ _ h => h) (Or.inl ⟨by rfl, ?_⟩) hHeld ?_
            rotate_left
            · intro w hSw
              clear hSw
              go_simp
              try with_reducible rfl
            try simp only [Act.put, List.setIfInBounds_toArray, List.set_cons_zero, List.set_cons_succ]
            refine wpAnyH_take (i := 8) (oi := { dst := some 91, op := Op.indexAddr 22 (Operand.tmp 89) (Operand.tmp 90), type := 0, pos := "outright.go:148", after := #[{ on := 6, ground := Ground.data }, { on := 7, ground := Ground.data }], guard := none }) (v := ?_) rfl (by kernel_rfl) (by kernel_rfl) (by kernel_rfl) (fun _ _ _ h => h) (Or.inl ⟨by rfl, ?_⟩) hHeld ?_
            rotate_left
            · intro w hSw
              clear hSw
              go_simp
              try with_reducible rfl
            try simp only [Act.put, List.setIfInBounds_toArray, List.set_cons_zero, List.set_cons_succ]
            refine wpAnyH_take (i := 9) (oi := { dst := some 92, op := Op.fieldAddr 32 (Operand.tmp 91) 1, type := 0, pos := "outright.go:148", after := #[{ on := 8, ground := Ground.data }], guard := none }) (v := ?_) rfl (by kernel_rfl) (by kernel_rfl) (by kernel_rfl) (fun _ _ _ h => h) (Or.inl ⟨by rfl, ?_⟩) hHeld ?_
            rotate_left
            · intro w hSw
              clear hSw
              go_simp
              try with_reducible rfl
            try simp only [Act.put, List.setIfInBounds_toArray, List.set_cons_zero, List.set_cons_succ]
            refine wpAnyH_take (i := 10) (oi := { dst := some 93, op := Op.load 30 (Operand.tmp 92), type := 30, pos := "outright.go:148", after := #[{ on := 9, ground := Ground.data }], guard := none }) (v := ?_) rfl (by kernel_rfl) (by kernel_rfl) (by kernel_rfl) (fun _ _ _ h => h) (Or.inl ⟨by rfl, ?_⟩) hHeld ?_
            rotate_left
            · intro w hSw
              obtain ⟨c0, c1, c2, c3, c4, c5⟩ := HROW.out w hSw
              go_simp
              try with_reducible rfl
            try simp only [Act.put, List.setIfInBounds_toArray, List.set_cons_zero, List.set_cons_succ]
            refine wpAnyH_ready (rs := [11, 15]) (by kernel_rfl) (by simp) ?_
            refine AllReadyH.cons (o := { dst := some 94, op := Op.call { callee := Callee.value (Operand.func 13), args := #[Operand.tmp 83, Operand.tmp 88, Operand.tmp 93], argTypes := #[25, 29, 30] }, type := 48, pos := "outright.go:148", after := #[{ on := 0, ground := Ground.data }, { on := 5, ground := Ground.data }, { on := 10, ground := Ground.data }], guard := none }) rfl (fun K hK => ?_) ?_
            · go_simp
              refine (HGET.out _ (HRZ3.out.drew_)).mono ?_
              rintro e w9 ⟨⟨kk9, l9, a9, s9, rfl, hfa, ho9⟩, hw9⟩
              have HRx9 : Hid (RibM w9 bs b m most M2) := (HRZ3.out.drew_).below hw9
              have HFAx9 := Lib.hid hfa
              have HOx9 := Lib.hid ho9
              have HG9 : Hid (GrownX (fun i => i = m) Z3 w9) := hHeld.trans (GrownX.of_below hw9)
              clear hfa ho9
              refine hK.out _ _ HG9.out (fun hHeld => ?_)
              clear hK K
              try simp only [Act.put, List.setIfInBounds_toArray, List.set_cons_zero, List.set_cons_succ]
              refine wpAnyH_take (i := 12) (oi := { dst := some 82, op := Op.move (Operand.tmp 94), type := 48, pos := "outright.go:148", after := #[{ on := 11, ground := Ground.data }], guard := none }) (v := ?_) rfl (by kernel_rfl) (by kernel_rfl) (by kernel_rfl) (fun _ _ _ h => h) (Or.inl ⟨by rfl, ?_⟩) hHeld ?_
              rotate_left
              · intro w hSw
                clear hSw
                go_simp
                try with_reducible rfl
              try simp only [Act.put, List.setIfInBounds_toArray, List.set_cons_zero, List.set_cons_succ]
              refine wpAnyH_take (i := 13) (oi := { dst := some 95, op := Op.extract (Operand.tmp 82) 0, type := 47, pos := "outright.go:148", after := #[{ on := 12, ground := Ground.data }], guard := none }) (v := ?_) rfl (by kernel_rfl) (by kernel_rfl) (by kernel_rfl) (fun _ _ _ h => h) (Or.inl ⟨by rfl, ?_⟩) hHeld ?_
              rotate_left
              · intro w hSw
                clear hSw
                go_simp
                try with_reducible rfl
              try simp only [Act.put, List.setIfInBounds_toArray, List.set_cons_zero, List.set_cons_succ]
              refine wpAnyH_take (i := 14) (oi := { dst := some 96, op := Op.extract (Operand.tmp 82) 1, type := 4, pos := "outright.go:148", after := #[{ on := 12, ground := Ground.data }, { on := 16, ground := Ground.gcOnly Departure.lateStores }], guard := none }) (v := ?_) rfl (by kernel_rfl) (by kernel_rfl) (by kernel_rfl) (fun _ _ _ h => h) (Or.inl ⟨by rfl, ?_⟩) hHeld ?_
              rotate_left
              · intro w hSw
                clear hSw
                go_simp
                try with_reducible rfl
              try simp only [Act.put, List.setIfInBounds_toArray, List.set_cons_zero, List.set_cons_succ]
              have HNx9 : Hid (∀ cs : Array Value, CellsAt (w9.alloc (.cells cs 47)) w9.heap.size cs 47) := fun cs => CellsAt.new _ _ _
              have HGSx9 : Hid (∀ cs : Array Value, GrownX (fun i => i = m) Z3 ((w9.alloc (.cells cs 47)).setRow w9.heap.size (pathAr kk9 l9 a9 s9))) := fun cs => HG9.out.trans ((GrownX.of_below ((Below.refl _ _).alloc (Nat.le_refl _) _)).new_ (GrownX.of_row (X := fun i => i = w9.heap.size) (grown_setRow' _ _ _) rfl) (fun i hi => by rw [hi]; exact Nat.le_refl _))
              refine wpAnyH_ready (rs := [15]) (by kernel_rfl) (by simp) ?_
              refine AllReadyH.cons (o := { dst := some 12, op := Op.alloc 47, type := 0, pos := "outright.go:148", after := #[], guard := none }) rfl (fun K hK => ?_) AllReadyH.nil
              go_simp
              refine hK.out _ _ (HG9.out.trans (GrownX.of_below ((Below.refl _ _).alloc (Nat.le_refl _) _))) (fun hHeld => ?_)
              clear hK K
              try simp only [Act.put, List.setIfInBounds_toArray, List.set_cons_zero, List.set_cons_succ]
              refine wpAnyH_ready (rs := [16]) (by kernel_rfl) (by simp) ?_
              refine AllReadyH.cons (o := { dst := none, op := Op.store 47 (Operand.tmp 12) (Operand.tmp 95), type := 0, pos := "outright.go:148", after := #[{ on := 15, ground := Ground.data }, { on := 13, ground := Ground.data }, { on := 11, ground := Ground.chain }, { on := 0, ground := Ground.phase }, { on := 1, ground := Ground.phase }, { on := 2, ground := Ground.phase }, { on := 3, ground := Ground.phase }, { on := 4, ground := Ground.phase }, { on := 5, ground := Ground.phase }, { on := 6, ground := Ground.phase }, { on := 7, ground := Ground.phase }, { on := 8, ground := Ground.phase }, { on := 9, ground := Ground.phase }, { on := 10, ground := Ground.phase }, { on := 11, ground := Ground.phase }, { on := 12, ground := Ground.phase }, { on := 13, ground := Ground.phase }, { on := 14, ground := Ground.textOnly Departure.lateStores }, { on := 15, ground := Ground.phase }], guard := none }) rfl (fun K hK => ?_) AllReadyH.nil
              refine wp_store_row 47 (.tmp 12) (.tmp 95) rfl w9.heap.size (pathAr kk9 l9 a9 s9) rfl rfl 47 _ (HNx9.out _) (by rw [path_size]; rfl) rfl (path_ones _ _ _ _) ?_
              refine hK.out _ _ (HGSx9.out _) (fun hHeld => ?_)
              clear hK K
              try simp only [Act.put, List.setIfInBounds_toArray, List.set_cons_zero, List.set_cons_succ]
              refine wpAnyH_take (i := 17) (oi := { dst := some 13, op := Op.assign (Operand.tmp 96), type := 4, pos := "outright.go:148", after := #[{ on := 14, ground := Ground.data }, { on := 16, ground := Ground.chain }, { on := 0, ground := Ground.phase }, { on := 1, ground := Ground.phase }, { on := 2, ground := Ground.phase }, { on := 3, ground := Ground.phase }, { on := 4, ground := Ground.phase }, { on := 5, ground := Ground.phase }, { on := 6, ground := Ground.phase }, { on := 7, ground := Ground.phase }, { on := 8, ground := Ground.phase }, { on := 9, ground := Ground.phase }, { on := 10, ground := Ground.phase }, { on := 11, ground := Ground.phase }, { on := 12, ground := Ground.phase }, { on := 13, ground := Ground.phase }, { on := 14, ground := Ground.phase }, { on := 15, ground := Ground.phase }, { on := 16, ground := Ground.phase }], guard := none }) (v := ?_) rfl (by kernel_rfl) (by kernel_rfl) (by kernel_rfl) (fun _ _ _ h => h) (Or.inl ⟨by rfl, ?_⟩) hHeld ?_
              rotate_left
              · intro w hSw
                clear hSw
                go_simp
                try with_reducible rfl
              try simp only [Act.put, List.setIfInBounds_toArray, List.set_cons_zero, List.set_cons_succ]
              refine wpAnyH_done (by kernel_rfl) ?_ _
              have hb9 : ∀ cs : Array Value, Below w9.heap.size w9 ((w9.alloc (.cells cs 47)).setRow w9.heap.size (pathAr kk9 l9 a9 s9)) := fun cs => ((Below.refl _ _).alloc (Nat.le_refl _) _).grown (grown_setRow' _ _ _) (by simp) (fun q hq => by cases hq; exact Nat.le_refl _)
              have HF1 := Lib.hid (fun cs => (HNx9.out cs).setRow' (pathAr kk9 l9 a9 s9))
              have HF2 := Lib.hid (fun cs => HRx9.out.below (hb9 cs))
              have HF3 := Lib.hid (fun cs => (AtO.below HOx9.out (hb9 cs)).ok)
              have HF4 := Lib.hid (fun cs => (HGSx9.out cs).below HBZ3.out (fun i hi => by rw [hi]; exact HM.out) HBZ3.out.size)
              clear hb9 hHeld
              go_wp2_with fail
              go_meet
              exact ⟨_, kk9, l9, a9, s9, rfl, rfl, HF1.out _, HFAx9.out, HF2.out _, HF3.out _, HF4.out _⟩
            · refine AllReadyH.cons (o := { dst := some 12, op := Op.alloc 47, type := 0, pos := "outright.go:148", after := #[], guard := none }) rfl (fun K hK => ?_) AllReadyH.nil
              go_simp
              have HNB : Hid (∀ cs : Array Value, CellsAt (Z3.drew.alloc (.cells cs 47)) Z3.heap.size cs 47) := fun cs => CellsAt.new Z3.drew _ _
              have HRB : Hid (∀ cs : Array Value, RibM (Z3.drew.alloc (.cells cs 47)) bs b m most M2) := fun cs => HRZ3.out.drew_.below ((Below.refl _ _).alloc (Nat.le_refl _) _)
              have hbZ := HRZ3.out.lt.1
              have hmZ := HRZ3.out.lt.2.1
              have hsz : ∀ cs : Array Value, (Z3.drew.alloc (.cells cs 47)).heap.size = Z3.heap.size + 1 := fun cs => by rw [World.size_alloc]; rfl
              have HSZB := Lib.hid hsz
              clear hsz
              refine hK.out _ _ (hHeld.trans (GrownX.of_below ((Below.refl _ _).alloc (Nat.le_refl _) _))) (fun hHeld => ?_)
              clear hK K
              try simp only [Act.put, List.setIfInBounds_toArray, List.set_cons_zero, List.set_cons_succ]
              refine wpAnyH_ready (rs := [11]) (by kernel_rfl) (by simp) ?_
              refine AllReadyH.cons (o := { dst := some 94, op := Op.call { callee := Callee.value (Operand.func 13), args := #[Operand.tmp 83, Operand.tmp 88, Operand.tmp 93], argTypes := #[25, 29, 30] }, type := 48, pos := "outright.go:148", after := #[{ on := 0, ground := Ground.data }, { on := 5, ground := Ground.data }, { on := 10, ground := Ground.data }], guard := none }) rfl (fun K hK => ?_) AllReadyH.nil
              go_simp
              refine (HGET.out _ (HRB.out _)).mono ?_
              rintro e w9 ⟨⟨kk9, l9, a9, s9, rfl, hfa, ho9⟩, hw9⟩
              have HRx9 : Hid (RibM w9 bs b m most M2) := (HRB.out _).below hw9
              have HFAx9 := Lib.hid hfa
              have HOx9 := Lib.hid ho9
              have HG9 : Hid (GrownX (fun i => i = m) Z3 w9) := hHeld.trans (GrownX.of_below hw9)
              clear hfa ho9
              refine hK.out _ _ HG9.out (fun hHeld => ?_)
              clear hK K
              try simp only [Act.put, List.setIfInBounds_toArray, List.set_cons_zero, List.set_cons_succ]
              refine wpAnyH_take (i := 12) (oi := { dst := some 82, op := Op.move (Operand.tmp 94), type := 48, pos := "outright.go:148", after := #[{ on := 11, ground := Ground.data }], guard := none }) (v := ?_) rfl (by kernel_rfl) (by kernel_rfl) (by kernel_rfl) (fun _ _ _ h => h) (Or.inl ⟨by rfl, ?_⟩) hHeld ?_
              rotate_left
              · intro w hSw
                clear hSw
                go_simp
                try with_reducible rfl
              try simp only [Act.put, List.setIfInBounds_toArray, List.set_cons_zero, List.set_cons_succ]
              refine wpAnyH_take (i := 13) (oi := { dst := some 95, op := Op.extract (Operand.tmp 82) 0, type := 47, pos := "outright.go:148", after := #[{ on := 12, ground := Ground.data }], guard := none }) (v := ?_) rfl (by kernel_rfl) (by kernel_rfl) (by kernel_rfl) (fun _ _ _ h => h) (Or.inl ⟨by rfl, ?_⟩) hHeld ?_
              rotate_left
              · intro w hSw
                clear hSw
                go_simp
                try with_reducible rfl
              try simp only [Act.put, List.setIfInBounds_toArray, List.set_cons_zero, List.set_cons_succ]
              refine wpAnyH_take (i := 14) (oi := { dst := some 96, op := Op.extract (Operand.tmp 82) 1, type := 4, pos := "outright.go:148", after := #[{ on := 12, ground := Ground.data }, { on := 16, ground := Ground.gcOnly Departure.lateStores }], guard := none }) (v := ?_) rfl (by kernel_rfl) (by kernel_rfl) (by kernel_rfl) (fun _ _ _ h => h) (Or.inl ⟨by rfl, ?_⟩) hHeld ?_
              rotate_left
              · intro w hSw
                clear hSw
                go_simp
                try with_reducible rfl
              try simp only [Act.put, List.setIfInBounds_toArray, List.set_cons_zero, List.set_cons_succ]
              have HC9 := Lib.hid ((HNB.out _).below hw9 (HNB.out _).lt)
              have HGS9 : Hid (GrownX (fun i => i = m) Z3 (w9.setRow Z3.heap.size (pathAr kk9 l9 a9 s9))) := HG9.out.new_ (GrownX.of_row (X := fun i => i = Z3.heap.size) (grown_setRow' _ _ _) rfl) (fun i hi => by rw [hi]; exact Nat.le_refl _)
              refine wpAnyH_ready (rs := [16]) (by kernel_rfl) (by simp) ?_
              refine AllReadyH.cons (o := { dst := none, op := Op.store 47 (Operand.tmp 12) (Operand.tmp 95), type := 0, pos := "outright.go:148", after := #[{ on := 15, ground := Ground.data }, { on := 13, ground := Ground.data }, { on := 11, ground := Ground.chain }, { on := 0, ground := Ground.phase }, { on := 1, ground := Ground.phase }, { on := 2, ground := Ground.phase }, { on := 3, ground := Ground.phase }, { on := 4, ground := Ground.phase }, { on := 5, ground := Ground.phase }, { on := 6, ground := Ground.phase }, { on := 7, ground := Ground.phase }, { on := 8, ground := Ground.phase }, { on := 9, ground := Ground.phase }, { on := 10, ground := Ground.phase }, { on := 11, ground := Ground.phase }, { on := 12, ground := Ground.phase }, { on := 13, ground := Ground.phase }, { on := 14, ground := Ground.textOnly Departure.lateStores }, { on := 15, ground := Ground.phase }], guard := none }) rfl (fun K hK => ?_) AllReadyH.nil
              refine wp_store_row 47 (.tmp 12) (.tmp 95) rfl Z3.heap.size (pathAr kk9 l9 a9 s9) rfl rfl 47 _ HC9.out (by rw [path_size]; rfl) rfl (path_ones _ _ _ _) ?_
              refine hK.out _ _ (HGS9.out) (fun hHeld => ?_)
              clear hK K
              try simp only [Act.put, List.setIfInBounds_toArray, List.set_cons_zero, List.set_cons_succ]
              refine wpAnyH_take (i := 17) (oi := { dst := some 13, op := Op.assign (Operand.tmp 96), type := 4, pos := "outright.go:148", after := #[{ on := 14, ground := Ground.data }, { on := 16, ground := Ground.chain }, { on := 0, ground := Ground.phase }, { on := 1, ground := Ground.phase }, { on := 2, ground := Ground.phase }, { on := 3, ground := Ground.phase }, { on := 4, ground := Ground.phase }, { on := 5, ground := Ground.phase }, { on := 6, ground := Ground.phase }, { on := 7, ground := Ground.phase }, { on := 8, ground := Ground.phase }, { on := 9, ground := Ground.phase }, { on := 10, ground := Ground.phase }, { on := 11, ground := Ground.phase }, { on := 12, ground := Ground.phase }, { on := 13, ground := Ground.phase }, { on := 14, ground := Ground.phase }, { on := 15, ground := Ground.phase }, { on := 16, ground := Ground.phase }], guard := none }) (v := ?_) rfl (by kernel_rfl) (by kernel_rfl) (by kernel_rfl) (fun _ _ _ h => h) (Or.inl ⟨by rfl, ?_⟩) hHeld ?_
              rotate_left
              · intro w hSw
                clear hSw
                go_simp
                try with_reducible rfl
              try simp only [Act.put, List.setIfInBounds_toArray, List.set_cons_zero, List.set_cons_succ]
              refine wpAnyH_done (by kernel_rfl) ?_ _
              have HF1 := Lib.hid (HC9.out.setRow' (pathAr kk9 l9 a9 s9))
              have HF2 := Lib.hid (HRx9.out.off (grown_setRow' w9 Z3.heap.size (pathAr kk9 l9 a9 s9)) HC9.out (Nat.ne_of_lt hbZ) (Nat.ne_of_lt hmZ))
              have HF3 := Lib.hid (AtO.ok (AtO.keep HOx9.out (fun i h1 h2 => (grown_setRow' w9 Z3.heap.size (pathAr kk9 l9 a9 s9)).block i h2 (fun e => by injection e with e; rw [HSZB.out] at h1; omega))))
              have HF4 := Lib.hid (HGS9.out.below HBZ3.out (fun i hi => by rw [hi]; exact HM.out) HBZ3.out.size)
              clear hHeld hbZ hmZ
              go_wp2_with fail
              go_meet
              exact ⟨_, kk9, l9, a9, s9, rfl, rfl, HF1.out, HFAx9.out, HF2.out, HF3.out, HF4.out⟩
          case rest =>
          obtain ⟨g4, kk8, l8, a8, s8, rfl, rfl, HPA, HFAx8, HRZ4, HAO8, HBZ4⟩ := hcut
          obtain ⟨Z4, hZ4⟩ : ∃ x, x = wc := ⟨_, rfl⟩
          subst hZ4
          have HAC8 : Hid (a8.c = medC n) := by
            have := (HFAx8.out _ (HGS2.out)).2.1
            exact this
          have HSAME : Hid (∀ W, Below Z4.heap.size Z4 W → Calls Try.prog 15 #[.agg a8.ar, .agg (medA n).ar] W fun e w' => e = .returned (.bool true) ∧ Below W.heap.size W w') := fun W hW => by
            have h := same_any a8 (medA n) W (HAO8.out.below hW (Nat.le_refl _)) (medA_own W 0 HMED.out).ok
            rw [show a8.c = (medA n).c from HAC8.out, decide_eq_true rfl] at h
            exact h
          clear HGET HRZ3 HBZ3
          go_upto_region 18 with fail
          refine wp_region_held_drew (S := fun w' => Below Z4.heap.size Z4 w') (by kernel_rfl) (below_drewN (Below.refl _ _) 1) (fun hHeld => ?_)
          refine wpAnyH_take (i := 0) (oi := { dst := some 97, op := Op.move (Operand.tmp 13), type := 4, pos := "outright.go:149", after := #[], guard := none }) (v := ?_) rfl (by kernel_rfl) (by kernel_rfl) (by kernel_rfl) (fun _ _ _ h => h) (Or.inl ⟨by rfl, ?_⟩) hHeld ?_
          rotate_left
          · intro w hSw
            clear hSw
            go_simp
            try with_reducible rfl
          try simp only [Act.put, List.setIfInBounds_toArray, List.set_cons_zero, List.set_cons_succ]
          refine wpAnyH_take (i := 1) (oi := { dst := some 98, op := Op.move (Operand.tmp 10), type := 4, pos := "outright.go:149", after := #[], guard := none }) (v := ?_) rfl (by kernel_rfl) (by kernel_rfl) (by kernel_rfl) (fun _ _ _ h => h) (Or.inl ⟨by rfl, ?_⟩) hHeld ?_
          rotate_left
          · intro w hSw
            clear hSw
            go_simp
            try with_reducible rfl
          try simp only [Act.put, List.setIfInBounds_toArray, List.set_cons_zero, List.set_cons_succ]
          refine wpAnyH_take (i := 2) (oi := { dst := some 99, op := Op.binOp BinOp.eql 4 (Operand.tmp 97) (Operand.tmp 98) 4, type := 4, pos := "outright.go:149", after := #[{ on := 0, ground := Ground.data }, { on := 1, ground := Ground.data }], guard := none }) (v := ?_) rfl (by kernel_rfl) (by kernel_rfl) (by kernel_rfl) (fun _ _ _ h => h) (Or.inl ⟨by rfl, ?_⟩) hHeld ?_
          rotate_left
          · intro w hSw
            clear hSw
            go_simp
            try with_reducible rfl
          try simp only [Act.put, List.setIfInBounds_toArray, List.set_cons_zero, List.set_cons_succ]
          refine wpAnyH_take (i := 3) (oi := { dst := some 100, op := Op.move (Operand.tmp 99), type := 4, pos := "outright.go:149", after := #[{ on := 2, ground := Ground.data }], guard := none }) (v := ?_) rfl (by kernel_rfl) (by kernel_rfl) (by kernel_rfl) (fun _ _ _ h => h) (Or.inl ⟨by rfl, ?_⟩) hHeld ?_
          rotate_left
          · intro w hSw
            clear hSw
            go_simp
            try with_reducible rfl
          try simp only [Act.put, List.setIfInBounds_toArray, List.set_cons_zero, List.set_cons_succ]
          refine wpAnyH_take (i := 4) (oi := { dst := some 101, op := Op.move (Operand.tmp 13), type := 4, pos := "outright.go:149", after := #[{ on := 3, ground := Ground.guard }], guard := some (3, false) }) (v := ?_) rfl (by kernel_rfl) (by kernel_rfl) (by kernel_rfl) (fun _ _ _ h => h) (Or.inl ⟨by rfl, ?_⟩) hHeld ?_
          rotate_left
          · intro w hSw
            clear hSw
            go_simp
            try with_reducible rfl
          try simp only [Act.put, List.setIfInBounds_toArray, List.set_cons_zero, List.set_cons_succ]
          refine wpAnyH_take (i := 5) (oi := { dst := some 102, op := Op.move (Operand.tmp 101), type := 4, pos := "outright.go:149", after := #[{ on := 4, ground := Ground.data }, { on := 3, ground := Ground.chain }, { on := 3, ground := Ground.guard }], guard := some (3, false) }) (v := ?_) rfl (by kernel_rfl) (by kernel_rfl) (by kernel_rfl) (fun _ _ _ h => h) (Or.inl ⟨by rfl, ?_⟩) hHeld ?_
          rotate_left
          · intro w hSw
            clear hSw
            go_simp
            try with_reducible rfl
          try simp only [Act.put, List.setIfInBounds_toArray, List.set_cons_zero, List.set_cons_succ]
          refine wpAnyH_take (i := 6) (oi := { dst := some 103, op := Op.fieldAddr 47 (Operand.tmp 12) 3, type := 0, pos := "outright.go:149", after := #[{ on := 5, ground := Ground.guard }], guard := some (5, true) }) (v := ?_) rfl (by kernel_rfl) (by kernel_rfl) (by kernel_rfl) (fun _ _ _ h => h) (Or.inl ⟨by rfl, ?_⟩) hHeld ?_
          rotate_left
          · intro w hSw
            clear hSw
            go_simp
            try with_reducible rfl
          try simp only [Act.put, List.setIfInBounds_toArray, List.set_cons_zero, List.set_cons_succ]
          refine wpAnyH_take (i := 7) (oi := { dst := some 104, op := Op.load 41 (Operand.tmp 103), type := 41, pos := "outright.go:149", after := #[{ on := 6, ground := Ground.data }, { on := 5, ground := Ground.guard }], guard := some (5, true) }) (v := Value.agg a8.ar) rfl (by kernel_rfl) (by kernel_rfl) (by kernel_rfl) (fun _ _ _ h => h) (yields_attrs6 (by rfl) _ rfl g4 (by rfl) a8 (fun w h => path_mid (HPA.out.below h HPA.out.lt))) hHeld ?_
          try simp only [Act.put, List.setIfInBounds_toArray, List.set_cons_zero, List.set_cons_succ]
          refine wpAnyH_take (i := 8) (oi := { dst := some 105, op := Op.move (Operand.tmp 7), type := 3, pos := "outright.go:149", after := #[{ on := 5, ground := Ground.guard }], guard := some (5, true) }) (v := ?_) rfl (by kernel_rfl) (by kernel_rfl) (by kernel_rfl) (fun _ _ _ h => h) (Or.inl ⟨by rfl, ?_⟩) hHeld ?_
          rotate_left
          · intro w hSw
            clear hSw
            go_simp
            try with_reducible rfl
          try simp only [Act.put, List.setIfInBounds_toArray, List.set_cons_zero, List.set_cons_succ]
          refine wpAnyH_take (i := 9) (oi := { dst := some 106, op := Op.convert 3 30 (Operand.tmp 105), type := 30, pos := "outright.go:149", after := #[{ on := 8, ground := Ground.data }, { on := 5, ground := Ground.guard }], guard := some (5, true) }) (v := ?_) rfl (by kernel_rfl) (by kernel_rfl) (by kernel_rfl) (fun _ _ _ h => h) (Or.inl ⟨by rfl, ?_⟩) hHeld ?_
          rotate_left
          · intro w hSw
            clear hSw
            go_simp
            try with_reducible rfl
          try simp only [Act.put, List.setIfInBounds_toArray, List.set_cons_zero, List.set_cons_succ]
          refine wpAnyH_ready (rs := [10]) (by kernel_rfl) (by simp) ?_
          refine AllReadyH.cons (o := { dst := some 107, op := Op.call { callee := Callee.value (Operand.func 11), args := #[Operand.tmp 106], argTypes := #[30] }, type := 41, pos := "outright.go:149", after := #[{ on := 9, ground := Ground.data }, { on := 5, ground := Ground.chain }, { on := 5, ground := Ground.guard }], guard := some (5, true) }) rfl (fun K hK => ?_) AllReadyH.nil
          go_simp
          refine (of_any n _).mono ?_
          rintro e w5 ⟨rfl, hw5⟩
          have hh5 := hHeld.trans (hw5.mono hHeld.size)
          refine hK.out _ _ (hh5) (fun hHeld => ?_)
          clear hK K
          try simp only [Act.put, List.setIfInBounds_toArray, List.set_cons_zero, List.set_cons_succ]
          refine wpAnyH_ready (rs := [11]) (by kernel_rfl) (by simp) ?_
          refine AllReadyH.cons (o := { dst := some 108, op := Op.call { callee := Callee.value (Operand.func 15), args := #[Operand.tmp 104, Operand.tmp 107], argTypes := #[41, 41] }, type := 4, pos := "outright.go:149", after := #[{ on := 7, ground := Ground.data }, { on := 10, ground := Ground.data }, { on := 10, ground := Ground.chain }, { on := 5, ground := Ground.guard }], guard := some (5, true) }) rfl (fun K hK => ?_) AllReadyH.nil
          go_simp
          refine (HSAME.out _ hh5).mono ?_
          rintro e w6 ⟨rfl, hw6⟩
          refine hK.out _ _ (hHeld.trans (hw6.mono hHeld.size)) (fun hHeld => ?_)
          clear hK K
          try simp only [Act.put, List.setIfInBounds_toArray, List.set_cons_zero, List.set_cons_succ]
          refine wpAnyH_take (i := 12) (oi := { dst := some 109, op := Op.unOp UnOp.not 4 (Operand.tmp 108), type := 4, pos := "outright.go:149", after := #[{ on := 11, ground := Ground.data }, { on := 5, ground := Ground.guard }], guard := some (5, true) }) (v := ?_) rfl (by kernel_rfl) (by kernel_rfl) (by kernel_rfl) (fun _ _ _ h => h) (Or.inl ⟨by rfl, ?_⟩) hHeld ?_
          rotate_left
          · intro w hSw
            clear hSw
            go_simp
            try with_reducible rfl
          try simp only [Act.put, List.setIfInBounds_toArray, List.set_cons_zero, List.set_cons_succ]
          refine wpAnyH_take (i := 13) (oi := { dst := some 110, op := Op.pick (Operand.tmp 102) (Operand.tmp 109) (Operand.const (Value.bool false)), type := 4, pos := "outright.go:149", after := #[{ on := 5, ground := Ground.data }, { on := 12, ground := Ground.data }, { on := 3, ground := Ground.guard }], guard := some (3, false) }) (v := ?_) rfl (by kernel_rfl) (by kernel_rfl) (by kernel_rfl) (fun _ _ _ h => h) (Or.inl ⟨by rfl, ?_⟩) hHeld ?_
          rotate_left
          · intro w hSw
            clear hSw
            go_simp
            try with_reducible rfl
          try simp only [Act.put, List.setIfInBounds_toArray, List.set_cons_zero, List.set_cons_succ]
          refine wpAnyH_take (i := 14) (oi := { dst := some 111, op := Op.pick (Operand.tmp 100) (Operand.const (Value.bool true)) (Operand.tmp 110), type := 4, pos := "outright.go:149", after := #[{ on := 3, ground := Ground.data }, { on := 13, ground := Ground.data }], guard := none }) (v := ?_) rfl (by kernel_rfl) (by kernel_rfl) (by kernel_rfl) (fun _ _ _ h => h) (Or.inl ⟨by rfl, ?_⟩) hHeld ?_
          rotate_left
          · intro w hSw
            clear hSw
            go_simp
            try with_reducible rfl
          try simp only [Act.put, List.setIfInBounds_toArray, List.set_cons_zero, List.set_cons_succ]
          refine wpAnyH_done (by kernel_rfl) ?_ _
          go_upto_region 9 with fail
          refine rb_name fun Z5 hZ5 => ?_
          have hb45 : Below Z4.heap.size Z4 Z5 := by rw [hZ5]; exact hHeld
          have HRZ5 : Hid (RibM Z5 bs b m most M2) := HRZ4.out.below hb45
          have HBZ5 : Hid (Below w.heap.size w Z5) := HBZ4.out.trans (hb45.mono HBZ4.out.size)
          clear hZ5 hb45 hHeld HRZ4 HBZ4 HPA
          go_wp2_with fail
          exact ⟨⟨cn + 1, n + 1, M2, by go_num, by go_num, by omega, HL2.out, HRZ5.out, by omega, by omega, HF2.out, HBZ5.out⟩, by simp [intOf]; omega⟩
    · have HS5 : Hid (sumC M 5 = cn) := by
        show _ = _
        rw [sum_all HFM.out, HCN.out]
      clear HL
      go_wp2_with fail
      go_loopw [14, 15] (fun al fa wz => ∃ f : Nat, f ≤ 5 ∧ fa = .int .i64 (f + 1 : Nat) ∧ al = .int .i64 (sumC M f : Nat) ∧ Hid (RibM wz bs b m most M) ∧ Hid (Below w.heap.size w wz)) (fun _ fa _ => 7 - (intOf fa).toNat)
      case atStart => exact ⟨0, by omega, rfl, rfl, HRwr.out, HBwr.out⟩
      case round =>
        clear HRwr HBwr
        obtain ⟨f, hf, rfl, rfl, HRz, HBz⟩ := hrel
        by_cases hf5 : f < 5
        · have HCT := Lib.hid (rcountM_any HRz.out (f + 1 : Nat))
          have hsum : Hid (sumC M (f + 1) = sumC M f + cntC M (f + 1 : Nat)) := rfl
          have hle : cntC M (f + 1 : Nat) ≤ M.length := List.length_filter_le ..
          have hle2 : sumC M f ≤ f * M.length := sum_le M f
          have hml := HCN.out
          have hfm : f * M.length ≤ 5 * 60 := Nat.mul_le_mul (by omega) (by omega)
          generalize cntC M (f + 1 : Nat) = ct at HCT hsum hle
          generalize hsf : sumC M f = sf at hsum hle2 ⊢
          have hw1 : IntKind.i64.wrap ((sf : Int) + ct) = ((sf + ct : Nat) : Int) := by rw [IntWalk.i64_in _ (by omega)]; omega
          clear hsf hle hle2 hml hfm
          go_wp2_with fail
          refine HCT.out.mono ?_
          rintro e w4 ⟨rfl, hb4⟩
          have HR4 := Lib.hid (HRz.out.below hb4)
          have HB4 : Hid (Below w.heap.size w w4) := HBz.out.trans (hb4.mono HBz.out.size)
          clear hb4
          go_wp2_with fail
          exact ⟨⟨f + 1, by omega, by go_num, by rw [hsum.out, Int.natCast_add], HR4.out, HB4.out⟩, by simp [intOf]; omega⟩
        · obtain rfl : f = 5 := by omega
          rw [HS5.out]
          go_wp2_with fail
          go_ret
          exact ⟨rfl, HBz.out⟩
set_option maxHeartbeats 4000000 in
set_option maxRecDepth 100000 in
theorem ribMost_lifted (os : Os) (started : os.Started) (H : Type) (enc : TypeId × Value → H) :
    ReturnsInHanded {} Try.checked os 4 .any (Rows.ribMostSpec.pre6 enc Try.prog Try.f4 Rows.ribMostRow.domain false) (Rows.ribMostSpec.post enc Try.prog Try.f4 false true false false) := by
  refine returnsInHanded_of_change_sized (C := Try.checked) own started (by kernel_rfl) Try.func4
    (ChangeSpec.witness6 (enc := enc) (C := Try.checked) false ⟨#[], #[.int .i64 0, .slice none 0 0], []⟩ 8 (by kernel_rfl) (by kernel_rfl) (by kernel_rfl) (by kernel_rfl)) ?_
  intro W base args ds gs before hval0 hW hcnd hsz _
  have hval : ∀ (j : Nat) t v, Try.f4.params[j]? = some t → args[j]? = some v → Value.okWide Try.prog W .any base t v := hval0
  have hW' := hW
  obtain ⟨p, q, hA0, hV, rfl, hfz, hnd⟩ := hW
  have hA : DataW.TrodAll enc Try.prog W 0 (fun _ => true) true Try.f4.params.toList args.toList ds p := hA0
  rw [Try.params4] at hA hval
  obtain ⟨v0, vs0, d0, ds0, p0, q0, hargs, rfl, rfl, h0, r0⟩ := trodAll_cons hA
  obtain ⟨v1, vs1, d1, ds1, p1, q1, rfl, rfl, rfl, h1, r1⟩ := trodAll_cons r0
  obtain ⟨rfl, rfl, rfl⟩ := trodAll_nil r1
  obtain rfl : args = #[v0, v1] := by cases args; simp_all
  obtain ⟨rfl, rfl⟩ := trodVars_none hV
  obtain ⟨z, rfl, rfl, rfl, wf_z⟩ := open_int Try.underlying3 (hval 0 3 v0 rfl rfl) h0
  obtain ⟨A0, len0, cap0, rfl⟩ := okWide_slice Try.underlying22 (hval 1 22 v1 rfl rfl)
  obtain ⟨fu0, hf0⟩ := h1
  obtain ⟨A, l, cap, hv0, hok⟩ := open_nrs (v := .slice A0 len0 cap0) (x := (d1, p1)) hf0 (light_of hsz (j := 1) rfl rfl)
  injection hv0 with ea0 eb0 ec0
  subst ea0
  subst eb0
  subst ec0
  refine (most_walk z A0 l cap0 W hok).mono fun e W' ⟨he, bel⟩ => ?_
  exact ⟨_, he, law_post laidOut (by kernel_rfl) rfl (by kernel_rfl) Try.underlying4 hW' rfl bel⟩

theorem ribMost_holds : Rows.RibMostSaid :=
  OpenClaim.holds_of_wide 4 Try.f4 rfl rfl rfl rfl rfl rfl rfl ⟨rfl, rfl, rfl, rfl, rfl⟩ rfl rfl rfl rfl rfl (by kernel_rfl) Try.func4 (by kernel_rfl)
    (of_decide_eq_true (by kernel_rfl)) (by unfold Func.isWrapper; first | (rw [if_pos (by decide +kernel)]; kernel_rfl) | (rw [if_neg (by decide +kernel)]; exact ⟨rfl, rfl⟩))
    (fun os started H enc _ => ribMost_lifted os started H enc)
end Go.Proofs.Ytldpcliahfiloaa
