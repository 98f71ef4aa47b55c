/-
  The document's raw attributes of bytes: heraldref06.Split walked. Conditions: sizes.
-/
import Derived.Test.YtkcojblflebomaaGreatAbC
import Derived.Test.YtkcojblflebomaaGreatWireW
import Derived.Test.YtkcojblflebomaaGreatAcC
import Derived.StillTailTactics
import Derived.BigQuiet
import Derived.Deep.QuietTactic
set_option linter.unusedVariables false
set_option linter.unusedSimpArgs false
namespace Go.Proofs.YtkcojblflebomaaGreat
open Go.RowKit Go.MapKept Go.Shelf
open Go.Lib hiding intOf

theorem nx_list (t : ByteArray) (n : Nat) : (nx t n).data.toList = t.data.toList.drop n := by
  unfold nx
  rw [ByteArray.data_extract, Array.toList_extract]
  simp [List.extract]
  rw [List.take_of_length_le (by simp)]
theorem ext_list (t : ByteArray) (a b : Nat) : (t.extract a b).data.toList = (t.data.toList.drop a).take (b - a) := by
  rw [ByteArray.data_extract, Array.toList_extract]
theorem bytes_ext {a b : ByteArray} (h : a.data.toList = b.data.toList) : a = b := ByteArray.ext (Array.ext' h)
theorem nx_nx (t : ByteArray) (a b : Nat) : nx (nx t a) b = nx t (a + b) := bytes_ext (by rw [nx_list, nx_list, nx_list, List.drop_drop])
theorem nx_ext (t : ByteArray) (a b : Nat) : (nx t a).extract 0 b = t.extract a (a + b) := bytes_ext (by
  rw [ext_list, nx_list, ext_list, List.drop_zero]
  congr 1
  omega)
theorem hd_ext (t : ByteArray) (a n : Nat) : hd (nx t a) n = beVal (t.extract a (a + n)).data.toList := by
  unfold hd
  rw [nx_list, ext_list]
  congr 2
  omega
theorem hd_byte (t : ByteArray) (a : Nat) (h : a < t.size) : hd (nx t a) 1 = t[a].toNat := by
  rw [hd_ext, ext_list]
  have h2 : (t.data.toList.drop a).take (a + 1 - a) = [t[a]] := by
    rw [show a + 1 - a = 1 by omega, List.drop_eq_getElem_cons (by simpa using h)]
    simp
    rfl
  rw [h2]
  simp [beVal]
theorem hd_byte0 (t : ByteArray) (h : 0 < t.size) : hd t 1 = t[0].toNat := by
  have h2 := hd_byte t 0 h
  rwa [show nx t 0 = t from bytes_ext (by rw [nx_list, List.drop_zero])] at h2
theorem split_tiny {t : ByteArray} (h : t.size < 3) : splitStep t = none := by
  unfold splitStep
  rw [if_pos h]
theorem split_short {t : ByteArray} {sz : Nat} (h3 : 3 ≤ t.size) (hs : lenSize (hd t 1) = sz) (h : t.size < 2 + sz) : splitStep t = none := by
  unfold splitStep
  rw [if_neg (by omega), hs, nx_nx, if_pos (by rw [nx_size]; omega)]
theorem split_flat {t : ByteArray} {sz n : Nat} (h3 : 3 ≤ t.size) (hs : lenSize (hd t 1) = sz) (h : 2 + sz ≤ t.size) (hn : n = beVal (t.extract 2 (2 + sz)).data.toList) :
    splitStep t = if t.size < 2 + sz + n then none else some (⟨t[0], t[1], t.extract (2 + sz) (2 + sz + n)⟩, t.extract (2 + sz + n) t.size) := by
  unfold splitStep
  rw [if_neg (by omega), hs, nx_nx, if_neg (by rw [nx_size]; omega), nx_nx, hd_ext, ← hn, nx_size, nx_nx, nx_ext, hd_byte0 t (by omega), hd_byte t 1 (by omega)]
  by_cases h2 : t.size < 2 + sz + n
  · rw [if_pos h2, if_pos (by omega)]
  · rw [if_neg h2, if_neg (by omega)]
    simp
    rfl
theorem and16u (f : UInt8) : bits .and .u8 (f.toNat : Int) 16 = if bit8 f.toNat = true then 16 else 0 := by
  have k : ∀ x : Fin 256, bits .and .u8 (x.val : Int) 16 = if bit8 x.val = true then 16 else 0 := by decide +kernel
  exact k ⟨f.toNat, f.toNat_lt⟩
theorem val_lt {t : ByteArray} {k : Nat} (h : t.size ≤ k) : beVal t.data.toList < 256 ^ k := by
  have h1 := beVal_lt t.data.toList _ rfl
  have h2 : t.data.toList.length ≤ k := h
  exact Nat.lt_of_lt_of_le h1 (Nat.pow_le_pow_right (by decide) h2)
def lenS : Value → Nat
  | .string s => s.size
  | _ => 0
set_option maxRecDepth 100000 in
set_option maxHeartbeats 16000000 in
theorem rsplit_any (s : ByteArray) (w : World) (hm0 : (s.size : Int) ≤ 1048576) :
    Calls Tryz.prog 18 #[.string s] w fun e w' => SplitPost w.heap.size (splitA s) w' e ∧ Below w.heap.size w w' := by
  obtain ⟨i0, hi, hz0, hz1, hz2⟩ := info_parts infoRaw
  have HI := Lib.hid hi
  have HZ0 := Lib.hid hz0
  have HZ1 := Lib.hid hz1
  have HZ2 := Lib.hid hz2
  clear hi hz0 hz1 hz2
  have HVAL := Lib.hid rvalue_any
  generalize hres : splitA s = res
  have HRES := Lib.hid hres
  clear hres
  go_enter Tryz.func18, Tryz.ntmps18
  go_wp2_with fail
  go_loopw [0, 4] (fun x v wr => ∃ (L : List Rw) (t : ByteArray), x = .string t ∧ Hid (OwnL wr w.heap.size 32 3 Rw.cs v L) ∧ Hid (Below w.heap.size w wr) ∧ Hid (splitA s = (splitA t).map (L ++ ·)) ∧ t.size + L.length ≤ s.size) (fun x _ _ => lenS x)
  case atStart => exact ⟨[], s, rfl, OwnL.nil _ _ _ _ _, Below.refl _ _, by show _ = _; simp, by simp⟩
  case round =>
    obtain ⟨L, t, rfl, HO, HB, HSP, hsum⟩ := hrel
    by_cases h0 : 0 < t.size
    · have h0n := h0
      have HNN : Hid (splitStep t = none → res = none) := fun e => by rw [← HRES.out]; exact split_no HSP.out h0n e
      by_cases h3 : t.size < 3
      · have HN : Hid (res = none) := HNN.out (split_tiny h3)
        go_wp2_with fail
        go_ret2
        exact ⟨by rw [HN.out]; rfl, HB.out⟩
      have h3' : 3 ≤ t.size := by omega
      have hand := and16u (t[0]'h0)
      have HLS : Hid (lenSize (hd t 1) = lenSize (t[0]'h0).toNat) := by show _ = _; rw [hd_byte0 t h0]
      cases hbit : bit8 (t[0]'h0).toNat with
      | true =>
        rw [hbit, if_pos rfl] at hand
        have HLZ : Hid (lenSize (hd t 1) = 2) := by show _ = _; rw [HLS.out]; unfold lenSize; rw [hbit]; rfl
        clear hbit HLS
        by_cases h4 : t.size < 4
        · have HN : Hid (res = none) := HNN.out (split_short h3' HLZ.out (by omega))
          go_wp2_with fail
          go_ret2
          exact ⟨by rw [HN.out]; rfl, HB.out⟩
        have hex : (t.extract 2 4).size = 2 := by rw [ByteArray.size_extract]; omega
        obtain ⟨n, hn⟩ : ∃ n, n = beVal (t.extract 2 4).data.toList := ⟨_, rfl⟩
        have hnlt : n < 65536 := by rw [hn]; exact val_lt (Nat.le_of_eq hex)
        have HV : Hid (∀ W, Calls Tryz.prog 37 #[.string (t.extract 2 4)] W fun e w' => e = .returned (.int .u64 (n : Nat)) ∧ w' = W) := fun W => by
          rw [hn]
          exact HVAL.out _ W (by omega)
        have HSV := Lib.hid (split_flat h3' HLZ.out (by omega) hn)
        have zw : IntKind.i64.wrap (n : Int) = (n : Int) := IntWalk.i64_in _ (by omega)
        clear hn hex HVAL
        go_wp2_with fail
        refine (HV.out _).mono ?_
        rintro e w1 ⟨rfl, rfl⟩
        by_cases h5 : t.size < 4 + n
        · have HN : Hid (res = none) := HNN.out (by rw [HSV.out, if_pos h5])
          go_wp2_with fail
          go_ret2
          exact ⟨by rw [HN.out]; rfl, HB.out⟩
        have h1n : 1 < t.size := by omega
        have h5n : 4 + n ≤ t.size := by omega
        have h5n' : 4 ≤ 4 + n := by omega
        have wk : IntKind.i64.wrap 4 = 4 := IntWalk.i64_in _ (by omega)
        have wn : IntKind.i64.wrap (4 + (n : Int)) = 4 + (n : Int) := IntWalk.i64_in _ (by omega)
        have i1n : (1 : Int) < (t.size : Int) := by omega
        have i5n : (4 : Int) + (n : Int) ≤ (t.size : Int) := by omega
        have i5m : (4 : Int) ≤ (4 : Int) + (n : Int) := by omega
        have i5z : (0 : Int) ≤ (4 : Int) + (n : Int) := by omega
        obtain ⟨u, hu⟩ : ∃ u, u = t.extract (4 + n) t.size := ⟨_, rfl⟩
        obtain ⟨val, hval⟩ : ∃ u, u = t.extract 4 (4 + n) := ⟨_, rfl⟩
        have HGO : Hid (splitA s = (splitA u).map ((L ++ [⟨t[0]'h0, t[1]'(by omega), val⟩]) ++ ·)) := split_go HSP.out h0n (by rw [HSV.out, if_neg h5, ← hu, ← hval])
        have hus : u.size + (4 + n) = t.size := by rw [hu, ByteArray.size_extract]; omega
        have HU := Lib.hid hu
        have HVL := Lib.hid hval
        clear hu hval HSP HRES HNN HSV
        obtain ⟨A0, c, rfl⟩ := HO.out.form
        go_upto_region 13 with fail
        have HO9 : Hid (OwnL w1.drew w.heap.size 32 3 Rw.cs (.slice A0 L.length c) L) := HO.out.drewN 1
        have HB9 : Hid (Below w.heap.size w w1.drew) := below_drewN HB.out 1
        have hsz9 := HB9.out.size
        obtain ⟨x, hx⟩ : ∃ x : Rw, x = ⟨t[0]'h0, t[1]'h1n, val⟩ := ⟨_, rfl⟩
        rw [← hx] at HGO
        have HXC : Hid ([Value.int .u8 (t[0]'h0).toNat, .int .u8 (t[1]'h1n).toNat, .string val] = x.cs) := by show _ = _; rw [hx]; rfl
        clear hx
        have HCB : Hid (CellsAt (w1.drew.alloc (.cells #[.int .u8 (t[0]'h0).toNat, .int .u8 (t[1]'h1n).toNat, .string val] 32)) w1.heap.size #[.int .u8 (t[0]'h0).toNat, .int .u8 (t[1]'h1n).toNat, .string val] 32) := CellsAt.new w1.drew _ _
        have HS := Lib.hid (Src.block (P := Tryz.prog) (t2 := 22) (size := 3) (m := 1) (c := 1) Tryz.underlying22 HCB.out rfl (by simp [Value.oneCell']))
        have HOa := Lib.hid (HO9.out.alloc (.cells #[.int .u8 (t[0]'h0).toNat, .int .u8 (t[1]'h1n).toNat, .string val] 32))
        have HBS : Hid (w.heap.size ≤ (w1.drew.alloc (.cells #[.int .u8 (t[0]'h0).toNat, .int .u8 (t[1]'h1n).toNat, .string val] 32)).heap.size) := by show _ ≤ _; simp at hsz9 ⊢; omega
        have HBa : Hid (Below w.heap.size w (w1.drew.alloc (.cells #[.int .u8 (t[0]'h0).toNat, .int .u8 (t[1]'h1n).toNat, .string val] 32))) := HB9.out.alloc hsz9 _
        have HM : Hid (L.length + 1 ≤ maxLen) := by show _ ≤ _; unfold maxLen; omega
        have HY : Hid ((L.length + 1) * 24 ≤ 140737488355328) := by show _ ≤ _; omega
        clear hsz9
        refine wp_region_held_drew (S := fun w' => Below w.heap.size w w') (by kernel_rfl) (HB9.out) (fun hHeld => ?_)
        refine wpAnyH_take (i := 0) (oi := { dst := some 35, op := Op.move (Operand.tmp 4), type := 22, pos := "ref.go:202", after := #[], guard := none }) (v := ?_) rfl (by kernel_rfl) (by kernel_rfl) (by kernel_rfl) (fun _ _ _ h => h) (Or.inl ⟨by rfl, ?_⟩) hHeld ?_
        rotate_left
        · intro w hSw
          clear hSw
          go_simp
          try with_reducible rfl
        try simp only [Act.put, List.setIfInBounds_toArray, List.set_cons_zero, List.set_cons_succ]
        refine wpAnyH_take (i := 1) (oi := { dst := some 36, op := Op.move (Operand.tmp 0), type := 9, pos := "ref.go:202", after := #[], guard := none }) (v := ?_) rfl (by kernel_rfl) (by kernel_rfl) (by kernel_rfl) (fun _ _ _ h => h) (Or.inl ⟨by rfl, ?_⟩) hHeld ?_
        rotate_left
        · intro w hSw
          clear hSw
          go_simp
          try with_reducible rfl
        try simp only [Act.put, List.setIfInBounds_toArray, List.set_cons_zero, List.set_cons_succ]
        refine wpAnyH_take (i := 2) (oi := { dst := some 37, op := Op.index 9 (Operand.tmp 36) (Operand.const (Value.int IntKind.i64 0)), type := 5, pos := "ref.go:202", after := #[{ on := 1, ground := Ground.data }], guard := none }) (v := ?_) rfl (by kernel_rfl) (by kernel_rfl) (by kernel_rfl) (fun _ _ _ h => h) (Or.inl ⟨by rfl, ?_⟩) hHeld ?_
        rotate_left
        · intro w hSw
          clear hSw
          go_simp
          try with_reducible rfl
        try simp only [Act.put, List.setIfInBounds_toArray, List.set_cons_zero, List.set_cons_succ]
        refine wpAnyH_take (i := 3) (oi := { dst := some 38, op := Op.move (Operand.tmp 0), type := 9, pos := "ref.go:202", after := #[], guard := none }) (v := ?_) rfl (by kernel_rfl) (by kernel_rfl) (by kernel_rfl) (fun _ _ _ h => h) (Or.inl ⟨by rfl, ?_⟩) hHeld ?_
        rotate_left
        · intro w hSw
          clear hSw
          go_simp
          try with_reducible rfl
        try simp only [Act.put, List.setIfInBounds_toArray, List.set_cons_zero, List.set_cons_succ]
        refine wpAnyH_take (i := 4) (oi := { dst := some 39, op := Op.index 9 (Operand.tmp 38) (Operand.const (Value.int IntKind.i64 1)), type := 5, pos := "ref.go:202", after := #[{ on := 3, ground := Ground.data }], guard := none }) (v := ?_) rfl (by kernel_rfl) (by kernel_rfl) (by kernel_rfl) (fun _ _ _ h => h) (Or.inl ⟨by rfl, ?_⟩) hHeld ?_
        rotate_left
        · intro w hSw
          clear hSw
          go_simp
          try with_reducible rfl
        try simp only [Act.put, List.setIfInBounds_toArray, List.set_cons_zero, List.set_cons_succ]
        refine wpAnyH_take (i := 5) (oi := { dst := some 40, op := Op.move (Operand.tmp 0), type := 9, pos := "ref.go:202", after := #[], guard := none }) (v := ?_) rfl (by kernel_rfl) (by kernel_rfl) (by kernel_rfl) (fun _ _ _ h => h) (Or.inl ⟨by rfl, ?_⟩) hHeld ?_
        rotate_left
        · intro w hSw
          clear hSw
          go_simp
          try with_reducible rfl
        try simp only [Act.put, List.setIfInBounds_toArray, List.set_cons_zero, List.set_cons_succ]
        refine wpAnyH_take (i := 6) (oi := { dst := some 41, op := Op.move (Operand.tmp 5), type := 3, pos := "ref.go:202", after := #[], guard := none }) (v := ?_) rfl (by kernel_rfl) (by kernel_rfl) (by kernel_rfl) (fun _ _ _ h => h) (Or.inl ⟨by rfl, ?_⟩) hHeld ?_
        rotate_left
        · intro w hSw
          clear hSw
          go_simp
          try with_reducible rfl
        try simp only [Act.put, List.setIfInBounds_toArray, List.set_cons_zero, List.set_cons_succ]
        refine wpAnyH_take (i := 7) (oi := { dst := some 42, op := Op.binOp BinOp.add 3 (Operand.const (Value.int IntKind.i64 2)) (Operand.tmp 41) 3, type := 3, pos := "ref.go:202", after := #[{ on := 6, ground := Ground.data }], guard := none }) (v := ?_) rfl (by kernel_rfl) (by kernel_rfl) (by kernel_rfl) (fun _ _ _ h => h) (Or.inl ⟨by rfl, ?_⟩) hHeld ?_
        rotate_left
        · intro w hSw
          clear hSw
          go_simp
          try with_reducible rfl
        try simp only [Act.put, List.setIfInBounds_toArray, List.set_cons_zero, List.set_cons_succ]
        refine wpAnyH_take (i := 8) (oi := { dst := some 43, op := Op.move (Operand.tmp 5), type := 3, pos := "ref.go:202", after := #[], guard := none }) (v := ?_) rfl (by kernel_rfl) (by kernel_rfl) (by kernel_rfl) (fun _ _ _ h => h) (Or.inl ⟨by rfl, ?_⟩) hHeld ?_
        rotate_left
        · intro w hSw
          clear hSw
          go_simp
          try with_reducible rfl
        try simp only [Act.put, List.setIfInBounds_toArray, List.set_cons_zero, List.set_cons_succ]
        refine wpAnyH_take (i := 9) (oi := { dst := some 44, op := Op.binOp BinOp.add 3 (Operand.const (Value.int IntKind.i64 2)) (Operand.tmp 43) 3, type := 3, pos := "ref.go:202", after := #[{ on := 8, ground := Ground.data }], guard := none }) (v := ?_) rfl (by kernel_rfl) (by kernel_rfl) (by kernel_rfl) (fun _ _ _ h => h) (Or.inl ⟨by rfl, ?_⟩) hHeld ?_
        rotate_left
        · intro w hSw
          clear hSw
          go_simp
          try with_reducible rfl
        try simp only [Act.put, List.setIfInBounds_toArray, List.set_cons_zero, List.set_cons_succ]
        refine wpAnyH_take (i := 10) (oi := { dst := some 45, op := Op.move (Operand.tmp 6), type := 3, pos := "ref.go:202", after := #[], guard := none }) (v := ?_) rfl (by kernel_rfl) (by kernel_rfl) (by kernel_rfl) (fun _ _ _ h => h) (Or.inl ⟨by rfl, ?_⟩) hHeld ?_
        rotate_left
        · intro w hSw
          clear hSw
          go_simp
          try with_reducible rfl
        try simp only [Act.put, List.setIfInBounds_toArray, List.set_cons_zero, List.set_cons_succ]
        refine wpAnyH_take (i := 11) (oi := { dst := some 46, op := Op.binOp BinOp.add 3 (Operand.tmp 44) (Operand.tmp 45) 3, type := 3, pos := "ref.go:202", after := #[{ on := 9, ground := Ground.data }, { on := 10, ground := Ground.data }], guard := none }) (v := ?_) rfl (by kernel_rfl) (by kernel_rfl) (by kernel_rfl) (fun _ _ _ h => h) (Or.inl ⟨by rfl, ?_⟩) hHeld ?_
        rotate_left
        · intro w hSw
          clear hSw
          go_simp
          try with_reducible rfl
        try simp only [Act.put, List.setIfInBounds_toArray, List.set_cons_zero, List.set_cons_succ]
        refine wpAnyH_take (i := 12) (oi := { dst := some 47, op := Op.slice 9 (Operand.tmp 40) (some (Operand.tmp 42)) (some (Operand.tmp 46)) none, type := 9, pos := "ref.go:202", after := #[{ on := 5, ground := Ground.data }, { on := 7, ground := Ground.data }, { on := 11, ground := Ground.data }], guard := none }) (v := .string val) rfl (by kernel_rfl) (by kernel_rfl) (by kernel_rfl) (fun _ _ _ h => h) (Or.inl ⟨by rfl, ?_⟩) hHeld ?_
        · intro w hSw
          clear hSw
          go_simp
          rw [show ((4 : Int) + (n : Int)).toNat = 4 + n by omega, ← HVL.out]
          try rfl
        try simp only [Act.put, List.setIfInBounds_toArray, List.set_cons_zero, List.set_cons_succ]
        refine wpAnyH_take (i := 13) (oi := { dst := some 48, op := Op.build 32 #[(0, Operand.tmp 37), (1, Operand.tmp 39), (2, Operand.tmp 47)], type := 32, pos := "ref.go:202", after := #[{ on := 2, ground := Ground.data }, { on := 4, ground := Ground.data }, { on := 12, ground := Ground.data }], guard := none }) (v := ?_) rfl (by kernel_rfl) (by kernel_rfl) (by kernel_rfl) (fun _ _ _ h => h) (Or.inl ⟨by rfl, ?_⟩) hHeld ?_
        rotate_left
        · intro w hSw
          clear hSw
          go_simp
          try with_reducible rfl
        try simp only [Act.put, List.setIfInBounds_toArray, List.set_cons_zero, List.set_cons_succ]
        refine wpAnyH_ready (rs := [14]) (by kernel_rfl) (by simp) ?_
        refine AllReadyH.cons (o := { dst := some 49, op := Op.buildSlice 22 1 #[(0, Operand.tmp 48)], type := 22, pos := "ref.go:202", after := #[{ on := 13, ground := Ground.data }], guard := none }) rfl (fun K hK => ?_) AllReadyH.nil
        go_simp
        clear hHeld
        refine hK.out _ _ (HBa.out) (fun hHeld => ?_)
        clear hK K
        try simp only [Act.put, List.setIfInBounds_toArray, List.set_cons_zero, List.set_cons_succ]
        refine wpAnyH_ready (rs := [15]) (by kernel_rfl) (by simp) ?_
        refine AllReadyH.cons (o := { dst := some 50, op := Op.call { callee := Callee.builtin Builtin.append, args := #[Operand.tmp 35, Operand.tmp 49], argTypes := #[22, 22] }, type := 22, pos := "ref.go:202", after := #[{ on := 0, ground := Ground.data }, { on := 14, ground := Ground.data }], guard := none }) rfl (fun K hK => ?_) AllReadyH.nil
        refine step_append_m rfl (.tmp 35) (.tmp 49) 22 22 rfl w.heap.size 32 i0 _ 3 24 Tryz.underlying22 HI.out HZ0.out HZ1.out HZ2.out rfl (by decide) (.slice A0 L.length c) L.length (L.flatMap Rw.cs) rfl HOa.out _ 1 _ rfl HS.out HM.out HY.out HBS.out ?_
        intro v' w5 hown hgr hat
        obtain ⟨A6, c6, rfl⟩ := hown.form
        have HN5 : Hid (OwnL w5 w.heap.size 32 3 Rw.cs (.slice A6 (L.length + 1) c6) (L ++ [x])) := OwnL.snoc (by rw [← HXC.out]; exact hown)
        have HB5 : Hid (Below w.heap.size w w5) := OwnM.below_grown HOa.out hgr HBa.out (by have := HBS.out; omega) (by omega)
        clear hown hgr hat
        refine hK.out _ _ (HB5.out) (fun hHeld => ?_)
        clear hK K
        try simp only [Act.put, List.setIfInBounds_toArray, List.set_cons_zero, List.set_cons_succ]
        refine wpAnyH_take (i := 16) (oi := { dst := some 4, op := Op.assign (Operand.tmp 50), type := 22, pos := "ref.go:202", after := #[{ on := 15, ground := Ground.data }, { on := 15, ground := Ground.chain }, { on := 0, ground := Ground.phase }, { on := 1, ground := Ground.phase }, { on := 2, ground := Ground.phase }, { on := 3, ground := Ground.phase }, { on := 4, ground := Ground.phase }, { on := 5, ground := Ground.phase }, { on := 6, ground := Ground.phase }, { on := 7, ground := Ground.phase }, { on := 8, ground := Ground.phase }, { on := 9, ground := Ground.phase }, { on := 10, ground := Ground.phase }, { on := 11, ground := Ground.phase }, { on := 12, ground := Ground.phase }, { on := 13, ground := Ground.phase }, { on := 14, ground := Ground.phase }, { on := 15, ground := Ground.phase }], guard := none }) (v := ?_) rfl (by kernel_rfl) (by kernel_rfl) (by kernel_rfl) (fun _ _ _ h => h) (Or.inl ⟨by rfl, ?_⟩) hHeld ?_
        rotate_left
        · intro w hSw
          clear hSw
          go_simp
          try with_reducible rfl
        try simp only [Act.put, List.setIfInBounds_toArray, List.set_cons_zero, List.set_cons_succ]
        refine wpAnyH_done (by kernel_rfl) ?_ _
        have hEND := Lib.hid hHeld
        clear hHeld
        go_wp2_with fail
        try rw [← HU.out]
        exact ⟨⟨L ++ [x], u, rfl, HN5.out, hEND.out, HGO.out, by rw [List.length_append]; simp; omega⟩, by simp [lenS]; omega⟩
      | false =>
        rw [hbit, if_neg (by simp)] at hand
        have HLZ : Hid (lenSize (hd t 1) = 1) := by show _ = _; rw [HLS.out]; unfold lenSize; rw [hbit]; rfl
        clear hbit HLS
        have h4 : ¬ t.size < 3 := h3
        have hex : (t.extract 2 3).size = 1 := by rw [ByteArray.size_extract]; omega
        obtain ⟨n, hn⟩ : ∃ n, n = beVal (t.extract 2 3).data.toList := ⟨_, rfl⟩
        have hnlt : n < 256 := by rw [hn]; exact val_lt (Nat.le_of_eq hex)
        have HV : Hid (∀ W, Calls Tryz.prog 37 #[.string (t.extract 2 3)] W fun e w' => e = .returned (.int .u64 (n : Nat)) ∧ w' = W) := fun W => by
          rw [hn]
          exact HVAL.out _ W (by omega)
        have HSV := Lib.hid (split_flat h3' HLZ.out (by omega) hn)
        have zw : IntKind.i64.wrap (n : Int) = (n : Int) := IntWalk.i64_in _ (by omega)
        clear hn hex HVAL
        go_wp2_with fail
        refine (HV.out _).mono ?_
        rintro e w1 ⟨rfl, rfl⟩
        by_cases h5 : t.size < 3 + n
        · have HN : Hid (res = none) := HNN.out (by rw [HSV.out, if_pos h5])
          go_wp2_with fail
          go_ret2
          exact ⟨by rw [HN.out]; rfl, HB.out⟩
        have h1n : 1 < t.size := by omega
        have h5n : 3 + n ≤ t.size := by omega
        have h5n' : 3 ≤ 3 + n := by omega
        have wk : IntKind.i64.wrap 3 = 3 := IntWalk.i64_in _ (by omega)
        have wn : IntKind.i64.wrap (3 + (n : Int)) = 3 + (n : Int) := IntWalk.i64_in _ (by omega)
        have i1n : (1 : Int) < (t.size : Int) := by omega
        have i5n : (3 : Int) + (n : Int) ≤ (t.size : Int) := by omega
        have i5m : (3 : Int) ≤ (3 : Int) + (n : Int) := by omega
        have i5z : (0 : Int) ≤ (3 : Int) + (n : Int) := by omega
        obtain ⟨u, hu⟩ : ∃ u, u = t.extract (3 + n) t.size := ⟨_, rfl⟩
        obtain ⟨val, hval⟩ : ∃ u, u = t.extract 3 (3 + n) := ⟨_, rfl⟩
        have HGO : Hid (splitA s = (splitA u).map ((L ++ [⟨t[0]'h0, t[1]'(by omega), val⟩]) ++ ·)) := split_go HSP.out h0n (by rw [HSV.out, if_neg h5, ← hu, ← hval])
        have hus : u.size + (3 + n) = t.size := by rw [hu, ByteArray.size_extract]; omega
        have HU := Lib.hid hu
        have HVL := Lib.hid hval
        clear hu hval HSP HRES HNN HSV
        obtain ⟨A0, c, rfl⟩ := HO.out.form
        go_upto_region 13 with fail
        have HO9 : Hid (OwnL w1.drew w.heap.size 32 3 Rw.cs (.slice A0 L.length c) L) := HO.out.drewN 1
        have HB9 : Hid (Below w.heap.size w w1.drew) := below_drewN HB.out 1
        have hsz9 := HB9.out.size
        obtain ⟨x, hx⟩ : ∃ x : Rw, x = ⟨t[0]'h0, t[1]'h1n, val⟩ := ⟨_, rfl⟩
        rw [← hx] at HGO
        have HXC : Hid ([Value.int .u8 (t[0]'h0).toNat, .int .u8 (t[1]'h1n).toNat, .string val] = x.cs) := by show _ = _; rw [hx]; rfl
        clear hx
        have HCB : Hid (CellsAt (w1.drew.alloc (.cells #[.int .u8 (t[0]'h0).toNat, .int .u8 (t[1]'h1n).toNat, .string val] 32)) w1.heap.size #[.int .u8 (t[0]'h0).toNat, .int .u8 (t[1]'h1n).toNat, .string val] 32) := CellsAt.new w1.drew _ _
        have HS := Lib.hid (Src.block (P := Tryz.prog) (t2 := 22) (size := 3) (m := 1) (c := 1) Tryz.underlying22 HCB.out rfl (by simp [Value.oneCell']))
        have HOa := Lib.hid (HO9.out.alloc (.cells #[.int .u8 (t[0]'h0).toNat, .int .u8 (t[1]'h1n).toNat, .string val] 32))
        have HBS : Hid (w.heap.size ≤ (w1.drew.alloc (.cells #[.int .u8 (t[0]'h0).toNat, .int .u8 (t[1]'h1n).toNat, .string val] 32)).heap.size) := by show _ ≤ _; simp at hsz9 ⊢; omega
        have HBa : Hid (Below w.heap.size w (w1.drew.alloc (.cells #[.int .u8 (t[0]'h0).toNat, .int .u8 (t[1]'h1n).toNat, .string val] 32))) := HB9.out.alloc hsz9 _
        have HM : Hid (L.length + 1 ≤ maxLen) := by show _ ≤ _; unfold maxLen; omega
        have HY : Hid ((L.length + 1) * 24 ≤ 140737488355328) := by show _ ≤ _; omega
        clear hsz9
        refine wp_region_held_drew (S := fun w' => Below w.heap.size w w') (by kernel_rfl) (HB9.out) (fun hHeld => ?_)
        refine wpAnyH_take (i := 0) (oi := { dst := some 35, op := Op.move (Operand.tmp 4), type := 22, pos := "ref.go:202", after := #[], guard := none }) (v := ?_) rfl (by kernel_rfl) (by kernel_rfl) (by kernel_rfl) (fun _ _ _ h => h) (Or.inl ⟨by rfl, ?_⟩) hHeld ?_
        rotate_left
        · intro w hSw
          clear hSw
          go_simp
          try with_reducible rfl
        try simp only [Act.put, List.setIfInBounds_toArray, List.set_cons_zero, List.set_cons_succ]
        refine wpAnyH_take (i := 1) (oi := { dst := some 36, op := Op.move (Operand.tmp 0), type := 9, pos := "ref.go:202", after := #[], guard := none }) (v := ?_) rfl (by kernel_rfl) (by kernel_rfl) (by kernel_rfl) (fun _ _ _ h => h) (Or.inl ⟨by rfl, ?_⟩) hHeld ?_
        rotate_left
        · intro w hSw
          clear hSw
          go_simp
          try with_reducible rfl
        try simp only [Act.put, List.setIfInBounds_toArray, List.set_cons_zero, List.set_cons_succ]
        refine wpAnyH_take (i := 2) (oi := { dst := some 37, op := Op.index 9 (Operand.tmp 36) (Operand.const (Value.int IntKind.i64 0)), type := 5, pos := "ref.go:202", after := #[{ on := 1, ground := Ground.data }], guard := none }) (v := ?_) rfl (by kernel_rfl) (by kernel_rfl) (by kernel_rfl) (fun _ _ _ h => h) (Or.inl ⟨by rfl, ?_⟩) hHeld ?_
        rotate_left
        · intro w hSw
          clear hSw
          go_simp
          try with_reducible rfl
        try simp only [Act.put, List.setIfInBounds_toArray, List.set_cons_zero, List.set_cons_succ]
        refine wpAnyH_take (i := 3) (oi := { dst := some 38, op := Op.move (Operand.tmp 0), type := 9, pos := "ref.go:202", after := #[], guard := none }) (v := ?_) rfl (by kernel_rfl) (by kernel_rfl) (by kernel_rfl) (fun _ _ _ h => h) (Or.inl ⟨by rfl, ?_⟩) hHeld ?_
        rotate_left
        · intro w hSw
          clear hSw
          go_simp
          try with_reducible rfl
        try simp only [Act.put, List.setIfInBounds_toArray, List.set_cons_zero, List.set_cons_succ]
        refine wpAnyH_take (i := 4) (oi := { dst := some 39, op := Op.index 9 (Operand.tmp 38) (Operand.const (Value.int IntKind.i64 1)), type := 5, pos := "ref.go:202", after := #[{ on := 3, ground := Ground.data }], guard := none }) (v := ?_) rfl (by kernel_rfl) (by kernel_rfl) (by kernel_rfl) (fun _ _ _ h => h) (Or.inl ⟨by rfl, ?_⟩) hHeld ?_
        rotate_left
        · intro w hSw
          clear hSw
          go_simp
          try with_reducible rfl
        try simp only [Act.put, List.setIfInBounds_toArray, List.set_cons_zero, List.set_cons_succ]
        refine wpAnyH_take (i := 5) (oi := { dst := some 40, op := Op.move (Operand.tmp 0), type := 9, pos := "ref.go:202", after := #[], guard := none }) (v := ?_) rfl (by kernel_rfl) (by kernel_rfl) (by kernel_rfl) (fun _ _ _ h => h) (Or.inl ⟨by rfl, ?_⟩) hHeld ?_
        rotate_left
        · intro w hSw
          clear hSw
          go_simp
          try with_reducible rfl
        try simp only [Act.put, List.setIfInBounds_toArray, List.set_cons_zero, List.set_cons_succ]
        refine wpAnyH_take (i := 6) (oi := { dst := some 41, op := Op.move (Operand.tmp 5), type := 3, pos := "ref.go:202", after := #[], guard := none }) (v := ?_) rfl (by kernel_rfl) (by kernel_rfl) (by kernel_rfl) (fun _ _ _ h => h) (Or.inl ⟨by rfl, ?_⟩) hHeld ?_
        rotate_left
        · intro w hSw
          clear hSw
          go_simp
          try with_reducible rfl
        try simp only [Act.put, List.setIfInBounds_toArray, List.set_cons_zero, List.set_cons_succ]
        refine wpAnyH_take (i := 7) (oi := { dst := some 42, op := Op.binOp BinOp.add 3 (Operand.const (Value.int IntKind.i64 2)) (Operand.tmp 41) 3, type := 3, pos := "ref.go:202", after := #[{ on := 6, ground := Ground.data }], guard := none }) (v := ?_) rfl (by kernel_rfl) (by kernel_rfl) (by kernel_rfl) (fun _ _ _ h => h) (Or.inl ⟨by rfl, ?_⟩) hHeld ?_
        rotate_left
        · intro w hSw
          clear hSw
          go_simp
          try with_reducible rfl
        try simp only [Act.put, List.setIfInBounds_toArray, List.set_cons_zero, List.set_cons_succ]
        refine wpAnyH_take (i := 8) (oi := { dst := some 43, op := Op.move (Operand.tmp 5), type := 3, pos := "ref.go:202", after := #[], guard := none }) (v := ?_) rfl (by kernel_rfl) (by kernel_rfl) (by kernel_rfl) (fun _ _ _ h => h) (Or.inl ⟨by rfl, ?_⟩) hHeld ?_
        rotate_left
        · intro w hSw
          clear hSw
          go_simp
          try with_reducible rfl
        try simp only [Act.put, List.setIfInBounds_toArray, List.set_cons_zero, List.set_cons_succ]
        refine wpAnyH_take (i := 9) (oi := { dst := some 44, op := Op.binOp BinOp.add 3 (Operand.const (Value.int IntKind.i64 2)) (Operand.tmp 43) 3, type := 3, pos := "ref.go:202", after := #[{ on := 8, ground := Ground.data }], guard := none }) (v := ?_) rfl (by kernel_rfl) (by kernel_rfl) (by kernel_rfl) (fun _ _ _ h => h) (Or.inl ⟨by rfl, ?_⟩) hHeld ?_
        rotate_left
        · intro w hSw
          clear hSw
          go_simp
          try with_reducible rfl
        try simp only [Act.put, List.setIfInBounds_toArray, List.set_cons_zero, List.set_cons_succ]
        refine wpAnyH_take (i := 10) (oi := { dst := some 45, op := Op.move (Operand.tmp 6), type := 3, pos := "ref.go:202", after := #[], guard := none }) (v := ?_) rfl (by kernel_rfl) (by kernel_rfl) (by kernel_rfl) (fun _ _ _ h => h) (Or.inl ⟨by rfl, ?_⟩) hHeld ?_
        rotate_left
        · intro w hSw
          clear hSw
          go_simp
          try with_reducible rfl
        try simp only [Act.put, List.setIfInBounds_toArray, List.set_cons_zero, List.set_cons_succ]
        refine wpAnyH_take (i := 11) (oi := { dst := some 46, op := Op.binOp BinOp.add 3 (Operand.tmp 44) (Operand.tmp 45) 3, type := 3, pos := "ref.go:202", after := #[{ on := 9, ground := Ground.data }, { on := 10, ground := Ground.data }], guard := none }) (v := ?_) rfl (by kernel_rfl) (by kernel_rfl) (by kernel_rfl) (fun _ _ _ h => h) (Or.inl ⟨by rfl, ?_⟩) hHeld ?_
        rotate_left
        · intro w hSw
          clear hSw
          go_simp
          try with_reducible rfl
        try simp only [Act.put, List.setIfInBounds_toArray, List.set_cons_zero, List.set_cons_succ]
        refine wpAnyH_take (i := 12) (oi := { dst := some 47, op := Op.slice 9 (Operand.tmp 40) (some (Operand.tmp 42)) (some (Operand.tmp 46)) none, type := 9, pos := "ref.go:202", after := #[{ on := 5, ground := Ground.data }, { on := 7, ground := Ground.data }, { on := 11, ground := Ground.data }], guard := none }) (v := .string val) rfl (by kernel_rfl) (by kernel_rfl) (by kernel_rfl) (fun _ _ _ h => h) (Or.inl ⟨by rfl, ?_⟩) hHeld ?_
        · intro w hSw
          clear hSw
          go_simp
          rw [show ((3 : Int) + (n : Int)).toNat = 3 + n by omega, ← HVL.out]
          try rfl
        try simp only [Act.put, List.setIfInBounds_toArray, List.set_cons_zero, List.set_cons_succ]
        refine wpAnyH_take (i := 13) (oi := { dst := some 48, op := Op.build 32 #[(0, Operand.tmp 37), (1, Operand.tmp 39), (2, Operand.tmp 47)], type := 32, pos := "ref.go:202", after := #[{ on := 2, ground := Ground.data }, { on := 4, ground := Ground.data }, { on := 12, ground := Ground.data }], guard := none }) (v := ?_) rfl (by kernel_rfl) (by kernel_rfl) (by kernel_rfl) (fun _ _ _ h => h) (Or.inl ⟨by rfl, ?_⟩) hHeld ?_
        rotate_left
        · intro w hSw
          clear hSw
          go_simp
          try with_reducible rfl
        try simp only [Act.put, List.setIfInBounds_toArray, List.set_cons_zero, List.set_cons_succ]
        refine wpAnyH_ready (rs := [14]) (by kernel_rfl) (by simp) ?_
        refine AllReadyH.cons (o := { dst := some 49, op := Op.buildSlice 22 1 #[(0, Operand.tmp 48)], type := 22, pos := "ref.go:202", after := #[{ on := 13, ground := Ground.data }], guard := none }) rfl (fun K hK => ?_) AllReadyH.nil
        go_simp
        clear hHeld
        refine hK.out _ _ (HBa.out) (fun hHeld => ?_)
        clear hK K
        try simp only [Act.put, List.setIfInBounds_toArray, List.set_cons_zero, List.set_cons_succ]
        refine wpAnyH_ready (rs := [15]) (by kernel_rfl) (by simp) ?_
        refine AllReadyH.cons (o := { dst := some 50, op := Op.call { callee := Callee.builtin Builtin.append, args := #[Operand.tmp 35, Operand.tmp 49], argTypes := #[22, 22] }, type := 22, pos := "ref.go:202", after := #[{ on := 0, ground := Ground.data }, { on := 14, ground := Ground.data }], guard := none }) rfl (fun K hK => ?_) AllReadyH.nil
        refine step_append_m rfl (.tmp 35) (.tmp 49) 22 22 rfl w.heap.size 32 i0 _ 3 24 Tryz.underlying22 HI.out HZ0.out HZ1.out HZ2.out rfl (by decide) (.slice A0 L.length c) L.length (L.flatMap Rw.cs) rfl HOa.out _ 1 _ rfl HS.out HM.out HY.out HBS.out ?_
        intro v' w5 hown hgr hat
        obtain ⟨A6, c6, rfl⟩ := hown.form
        have HN5 : Hid (OwnL w5 w.heap.size 32 3 Rw.cs (.slice A6 (L.length + 1) c6) (L ++ [x])) := OwnL.snoc (by rw [← HXC.out]; exact hown)
        have HB5 : Hid (Below w.heap.size w w5) := OwnM.below_grown HOa.out hgr HBa.out (by have := HBS.out; omega) (by omega)
        clear hown hgr hat
        refine hK.out _ _ (HB5.out) (fun hHeld => ?_)
        clear hK K
        try simp only [Act.put, List.setIfInBounds_toArray, List.set_cons_zero, List.set_cons_succ]
        refine wpAnyH_take (i := 16) (oi := { dst := some 4, op := Op.assign (Operand.tmp 50), type := 22, pos := "ref.go:202", after := #[{ on := 15, ground := Ground.data }, { on := 15, ground := Ground.chain }, { on := 0, ground := Ground.phase }, { on := 1, ground := Ground.phase }, { on := 2, ground := Ground.phase }, { on := 3, ground := Ground.phase }, { on := 4, ground := Ground.phase }, { on := 5, ground := Ground.phase }, { on := 6, ground := Ground.phase }, { on := 7, ground := Ground.phase }, { on := 8, ground := Ground.phase }, { on := 9, ground := Ground.phase }, { on := 10, ground := Ground.phase }, { on := 11, ground := Ground.phase }, { on := 12, ground := Ground.phase }, { on := 13, ground := Ground.phase }, { on := 14, ground := Ground.phase }, { on := 15, ground := Ground.phase }], guard := none }) (v := ?_) rfl (by kernel_rfl) (by kernel_rfl) (by kernel_rfl) (fun _ _ _ h => h) (Or.inl ⟨by rfl, ?_⟩) hHeld ?_
        rotate_left
        · intro w hSw
          clear hSw
          go_simp
          try with_reducible rfl
        try simp only [Act.put, List.setIfInBounds_toArray, List.set_cons_zero, List.set_cons_succ]
        refine wpAnyH_done (by kernel_rfl) ?_ _
        have hEND := Lib.hid hHeld
        clear hHeld
        go_wp2_with fail
        try rw [← HU.out]
        exact ⟨⟨L ++ [x], u, rfl, HN5.out, hEND.out, HGO.out, by rw [List.length_append]; simp; omega⟩, by simp [lenS]; omega⟩
    · have ht0 : t.size = 0 := by omega
      have HN : Hid (res = some L) := by
        show _ = _
        rw [← HRES.out]
        exact split_end HSP.out ht0
      go_wp2_with fail
      go_ret2
      exact ⟨by rw [HN.out]; exact ⟨_, rfl, HO.out⟩, HB.out⟩
end Go.Proofs.YtkcojblflebomaaGreat
