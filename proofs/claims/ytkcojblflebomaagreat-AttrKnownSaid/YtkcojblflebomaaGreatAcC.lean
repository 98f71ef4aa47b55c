/-
  The document's bytes of raw attributes: heraldref06.Lay walked. Conditions: sizes.
-/
import Derived.Test.YtkcojblflebomaaGreatAcA
import Derived.Test.YtkcojblflebomaaGreatAbB
import Derived.OrdersHeld
import Derived.Deep.MidRow
set_option linter.unusedVariables false
set_option linter.unusedSimpArgs false
namespace Go.Proofs.YtkcojblflebomaaGreat
open Go.RowKit Go.MapKept Go.Shelf
open Go.Lib hiding intOf

theorem beB_one (n : Nat) : beB n 1 1 = [UInt8.ofNat n] := by simp [beB, List.range_succ]
theorem beB_two (n : Nat) : beB n 2 2 = [UInt8.ofNat (n / 256), UInt8.ofNat n] := by simp [beB, List.range_succ]
theorem u8_self (x : UInt8) : UInt8.ofNat x.toNat = x := by simp
theorem set_clr (f : UInt8) : set8 (clr8 f) = set8 f := by
  have h : ∀ x : Fin 256, set8 (clr8 (UInt8.ofNat x.val)) = set8 (UInt8.ofNat x.val) := by decide +kernel
  have := h ⟨f.toNat, f.toNat_lt⟩
  simpa using this
theorem bts_cat (l : List UInt8) (v : ByteArray) : bts l ++ v = bts (l ++ v.data.toList) := by
  rw [← bts_app, bts_self]
/-- a raw attribute's cells, where a world has them -/
structure RwS (w0 : World) (b o : Nat) (x : Rw) (w : World) : Prop where
  lt : b < w.heap.size
  t : w.cell? ⟨b, o + 1, none⟩ = some (.int .u8 x.t.toNat)
  v : w.cell? ⟨b, o + 2, none⟩ = some (.string x.v)
  b : Below w0.heap.size w0 w
theorem RwS.below {w0 w w' : World} {b o : Nat} {x : Rw} (h : RwS w0 b o x w) (hb : Below w.heap.size w w') : RwS w0 b o x w' :=
  ⟨Nat.lt_of_lt_of_le h.lt hb.size, (hb.cell (p := ⟨b, _, none⟩) h.lt).trans h.t, (hb.cell (p := ⟨b, _, none⟩) h.lt).trans h.v, h.b.trans (hb.mono h.b.size)⟩
theorem RwS.drew {w0 w : World} {b o : Nat} {x : Rw} (h : RwS w0 b o x w) (n : Nat) : RwS w0 b o x (w.drewN n) := h.below (below_drewN (Below.refl _ _) n)
theorem rnum_lit (v : Nat) (k : Nat) (s : ByteArray) (w : World) (s0 : 1 ≤ k) (s1 : k ≤ 2) (hf : v < 256 ^ k) (hs : s = bts (beB v k k)) : Calls Tryz.prog 31 #[.int .u64 (v : Nat), .int .i64 (k : Nat)] w fun e w' => e = .returned (.string s) ∧ Below w.heap.size w w' := by
  subst hs
  have h2 : (256 : Nat) ^ k = 2 ^ (8 * k) := by rw [show (256 : Nat) = 2 ^ 8 from rfl, ← Nat.pow_mul]
  have h3 : (256 : Nat) ^ k ≤ 256 ^ 2 := Nat.pow_le_pow_right (by decide) s1
  exact rnum_any v k w s0 (by omega) (by omega) (by have : (256 : Nat) ^ 2 = 65536 := rfl; omega)
set_option maxRecDepth 100000 in
set_option maxHeartbeats 16000000 in
theorem rlay_any (A : Option Addr) (cap : Nat) (L : List Rw) (w : World) (h : RwsOk w A cap L) (hsz : ∀ r ∈ L, r.v.size ≤ 140737488351232) :
    Calls Tryz.prog 14 #[.slice A L.length cap] w fun e w' => e = .returned (layR L) ∧ Below w.heap.size w w' := by
  have HR := Lib.hid h
  have HSZ := Lib.hid hsz
  have hl := h.len
  have hc := h.cap
  have HNUM := Lib.hid rnum_lit
  clear h hsz
  generalize hres : layR L = res
  have HRES := Lib.hid hres
  clear hres
  go_enter Tryz.func14, Tryz.ntmps14
  go_wp2_with fail
  go_loopw [4, 5] (fun n i wr => ∃ (k m : Nat), k ≤ L.length ∧ Hid (Below w.heap.size w wr) ∧ i = .int .i64 k ∧ n = .int .i64 m ∧ m ≤ 4077 ∧ Hid (m = (laysB (L.take k)).length)) (fun _ i _ => L.length + 1 - (intOf i).toNat)
  case atStart => exact ⟨0, 0, by omega, Below.refl _ _, rfl, rfl, by omega, rfl⟩
  case round =>
    obtain ⟨k, m, hk, HBW, rfl, rfl, hm, HM⟩ := hrel
    by_cases hlt : k < L.length
    · obtain ⟨x, hx⟩ : ∃ x, L[k]? = some x := ⟨L[k], List.getElem?_eq_getElem hlt⟩
      have hmem := List.mem_of_getElem? hx
      have hxs := HSZ.out x hmem
      obtain ⟨b, off, rfl, hb, c0, c1, c2⟩ := rw_at (HR.out.below HBW.out (Nat.le_refl _)).rd hx
      have HX := Lib.hid hx
      clear hx hmem
      by_cases hlong : 255 < x.v.size
      · have HLEN : Hid ((laysB (L.take (k + 1))).length = m + 3 + x.v.size + 1) := by
          show _ = _
          rw [lays_take HX.out, rawB_long hlong, List.length_append, ← HM.out]
          simp
          omega
        by_cases hbig : 4077 < m + 3 + x.v.size + 1
        · have HF : Hid (res = .tuple #[.string ⟨#[]⟩, .int .i64 3]) := by
            show _ = _
            rw [← HRES.out]
            exact lay_no HX.out (by rw [← lays_take HX.out, HLEN.out]; exact hbig)
          go_wp2_with fail
          go_ret2
          exact ⟨by rw [HF.out]; rfl, HBW.out⟩
        · go_wp2_with fail
          exact ⟨⟨k + 1, m + 3 + x.v.size + 1, by omega, HBW.out, by go_num, by go_num, by omega, HLEN.out.symm⟩, by simp [intOf]; omega⟩
      · have HLEN : Hid ((laysB (L.take (k + 1))).length = m + 3 + x.v.size) := by
          show _ = _
          rw [lays_take HX.out, rawB_short hlong, List.length_append, ← HM.out]
          simp
          omega
        by_cases hbig : 4077 < m + 3 + x.v.size
        · have HF : Hid (res = .tuple #[.string ⟨#[]⟩, .int .i64 3]) := by
            show _ = _
            rw [← HRES.out]
            exact lay_no HX.out (by rw [← lays_take HX.out, HLEN.out]; exact hbig)
          go_wp2_with fail
          go_ret2
          exact ⟨by rw [HF.out]; rfl, HBW.out⟩
        · go_wp2_with fail
          exact ⟨⟨k + 1, m + 3 + x.v.size, by omega, HBW.out, by go_num, by go_num, by omega, HLEN.out.symm⟩, by simp [intOf]; omega⟩
    · obtain rfl : k = L.length := by omega
      have HALL : Hid ((laysB L).length ≤ 4077) := by
        show _ ≤ _
        rw [← List.take_length (l := L), ← HM.out]
        exact hm
      have HF : Hid (res = .tuple #[.string (bts (laysB L)), .int .i64 0]) := by
        show _ = _
        rw [← HRES.out]
        exact layR_ok HALL.out
      clear HM HRES
      go_wp2_with fail
      clear hm hlt hk
      go_loopw [6, 7] (fun s i wr => ∃ (k : Nat), k ≤ L.length ∧ i = .int .i64 k ∧ s = .string (bts (laysB (L.take k))) ∧ Hid (Below w.heap.size w wr)) (fun _ i _ => L.length + 1 - (intOf i).toNat)
      case atStart => exact ⟨0, by omega, rfl, rfl, HBW.out⟩
      case round =>
        obtain ⟨k, hk, rfl, rfl, HB⟩ := hrel
        by_cases hlt : k < L.length
        · obtain ⟨x, hx⟩ : ∃ x, L[k]? = some x := ⟨L[k], List.getElem?_eq_getElem hlt⟩
          have hmem := List.mem_of_getElem? hx
          obtain ⟨b, off, rfl, hb, c0, c1, c2⟩ := rw_at (HR.out.below HB.out (Nat.le_refl _)).rd hx
          have HX := Lib.hid hx
          clear hmem hx
          have HNEXT := Lib.hid (lays_take HX.out)
          have hle : (laysB (L.take k)).length ≤ 4077 := Nat.le_trans (lays_le L k) HALL.out
          have hle2 : (laysB (L.take (k + 1))).length ≤ 4077 := Nat.le_trans (lays_le L (k + 1)) HALL.out
          have hxs : x.v.size ≤ 4077 := by
            rw [HNEXT.out, List.length_append] at hle2
            unfold rawB at hle2
            rw [List.length_append] at hle2
            have : x.v.data.toList.length = x.v.size := rfl
            omega
          have HS0 : Hid (RwS w b (off + k * 3) x wr) := ⟨hb, c1, c2, HB.out⟩
          obtain ⟨sP, hsP⟩ : ∃ s, s = bts (laysB (L.take k)) := ⟨_, rfl⟩
          have hP : sP.size ≤ 4077 := by rw [hsP, bts_size]; exact hle
          obtain ⟨cf, hcf⟩ : ∃ c, c = clr8 x.f := ⟨_, rfl⟩
          have zc := clr_bits x.f
          rw [← hcf] at zc
          rw [← hsP]
          have HPE := Lib.hid hsP
          have HCF := Lib.hid hcf
          have zt : IntKind.u64.wrap (x.t.toNat : Int) = (x.t.toNat : Int) := IntWalk.u64_in _ (by have := x.t.toNat_lt; omega)
          have zn : IntKind.u64.wrap (x.v.size : Int) = (x.v.size : Int) := IntWalk.u64_in _ (by omega)
          clear hle hle2 hsP hcf hb
          by_cases hlong : 255 < x.v.size
          · have zs := set_bits cf
            obtain ⟨cs, hcs⟩ : ∃ c, c = set8 cf := ⟨_, rfl⟩
            rw [← hcs] at zs
            have zw : IntKind.u64.wrap (cs.toNat : Int) = (cs.toNat : Int) := IntWalk.u64_in _ (by have := cs.toNat_lt; omega)
            have HCS : Hid (cs = set8 x.f) := by show _ = _; rw [hcs, HCF.out, set_clr]
            clear hcs
            obtain ⟨s1, hs1⟩ : ∃ s, s = bts [cs] := ⟨_, rfl⟩
            obtain ⟨s2, hs2⟩ : ∃ s, s = bts [x.t] := ⟨_, rfl⟩
            obtain ⟨s3, hs3⟩ : ∃ s, s = bts [UInt8.ofNat (x.v.size / 256), UInt8.ofNat x.v.size] := ⟨_, rfl⟩
            have HN1 : Hid (∀ W, Calls Tryz.prog 31 #[.int .u64 (cs.toNat : Nat), .int .i64 1] W fun e w' => e = .returned (.string s1) ∧ Below W.heap.size W w') := fun W => HNUM.out cs.toNat 1 s1 W (by decide) (by decide) cs.toNat_lt (by rw [hs1, beB_one, u8_self])
            have HN2 : Hid (∀ W, Calls Tryz.prog 31 #[.int .u64 (x.t.toNat : Nat), .int .i64 1] W fun e w' => e = .returned (.string s2) ∧ Below W.heap.size W w') := fun W => HNUM.out x.t.toNat 1 s2 W (by decide) (by decide) x.t.toNat_lt (by rw [hs2, beB_one, u8_self])
            have HN3 : Hid (∀ W, Calls Tryz.prog 31 #[.int .u64 (x.v.size : Nat), .int .i64 2] W fun e w' => e = .returned (.string s3) ∧ Below W.heap.size W w') := fun W => HNUM.out x.v.size 2 s3 W (by decide) (by decide) (by omega) (by rw [hs3, beB_two])
            have hz1 : s1.size = 1 := by rw [hs1, bts_size]; rfl
            have hz2 : s2.size = 1 := by rw [hs2, bts_size]; rfl
            have hz3 : s3.size = 2 := by rw [hs3, bts_size]; rfl
            have HEQ : Hid (sP ++ s1 ++ s2 ++ s3 ++ x.v = bts (laysB (L.take (k + 1)))) := by
              show _ = _
              rw [HNEXT.out, rawB_long hlong, HPE.out, hs1, hs2, hs3, bts_app, bts_app, bts_app, bts_cat]
              simp [HCS.out]
            have g1 : ¬ (9223372036854775807 < sP.size + s1.size) := by omega
            have g2 : ¬ (9223372036854775807 < (sP ++ s1).size + s2.size) := by rw [ByteArray.size_append]; omega
            have g3 : ¬ (9223372036854775807 < (sP ++ s1 ++ s2).size + s3.size) := by rw [ByteArray.size_append, ByteArray.size_append]; omega
            have g4 : ¬ (9223372036854775807 < (sP ++ s1 ++ s2 ++ s3).size + x.v.size) := by rw [ByteArray.size_append, ByteArray.size_append, ByteArray.size_append]; omega
            have g2' : ¬ (9223372036854775807 < sP.size + s1.size + s2.size) := by omega
            have g3' : ¬ (9223372036854775807 < sP.size + s1.size + s2.size + s3.size) := by omega
            have g4' : ¬ (9223372036854775807 < sP.size + s1.size + s2.size + s3.size + x.v.size) := by omega
            have HZ := Lib.hid (And.intro hz1 (And.intro hz2 hz3))
            clear hs1 hs2 hs3 hz1 hz2 hz3 HNUM HR HSZ
            go_upto_region 17 with fail
            clear c0 c1 c2
            refine wp_region_held_drew (S := RwS w b (off + k * 3) x) (by kernel_rfl) (HS0.out.drew 1) (fun hHeld => ?_)
            refine wpAnyH_take (i := 0) (oi := { dst := some 56, op := Op.move (Operand.tmp 6), type := 9, pos := "ref.go:175", after := #[], guard := none }) (v := ?_) rfl (by kernel_rfl) (by kernel_rfl) (by kernel_rfl) (fun _ _ _ h => h) (Or.inl ⟨by rfl, ?_⟩) hHeld ?_
            rotate_left
            · intro w hSw
              clear hSw
              go_simp
              try with_reducible rfl
            try simp only [Act.put, List.setIfInBounds_toArray, List.set_cons_zero, List.set_cons_succ]
            refine wpAnyH_take (i := 1) (oi := { dst := some 57, op := Op.move (Operand.tmp 8), type := 5, pos := "ref.go:175", after := #[], guard := none }) (v := ?_) rfl (by kernel_rfl) (by kernel_rfl) (by kernel_rfl) (fun _ _ _ h => h) (Or.inl ⟨by rfl, ?_⟩) hHeld ?_
            rotate_left
            · intro w hSw
              clear hSw
              go_simp
              try with_reducible rfl
            try simp only [Act.put, List.setIfInBounds_toArray, List.set_cons_zero, List.set_cons_succ]
            refine wpAnyH_take (i := 2) (oi := { dst := some 58, op := Op.binOp BinOp.or 5 (Operand.tmp 57) (Operand.const (Value.int IntKind.u8 16)) 5, type := 5, pos := "ref.go:175", after := #[{ on := 1, ground := Ground.data }], guard := none }) (v := ?_) rfl (by kernel_rfl) (by kernel_rfl) (by kernel_rfl) (fun _ _ _ h => h) (Or.inl ⟨by rfl, ?_⟩) hHeld ?_
            rotate_left
            · intro w hSw
              clear hSw
              go_simp
              try with_reducible rfl
            try simp only [Act.put, List.setIfInBounds_toArray, List.set_cons_zero, List.set_cons_succ]
            refine wpAnyH_take (i := 3) (oi := { dst := some 59, op := Op.convert 5 57 (Operand.tmp 58), type := 57, pos := "ref.go:175", after := #[{ on := 2, ground := Ground.data }], guard := none }) (v := ?_) rfl (by kernel_rfl) (by kernel_rfl) (by kernel_rfl) (fun _ _ _ h => h) (Or.inl ⟨by rfl, ?_⟩) hHeld ?_
            rotate_left
            · intro w hSw
              clear hSw
              go_simp
              try with_reducible rfl
            try simp only [Act.put, List.setIfInBounds_toArray, List.set_cons_zero, List.set_cons_succ]
            refine wpAnyH_take (i := 6) (oi := { dst := some 62, op := Op.move (Operand.tmp 0), type := 22, pos := "ref.go:175", after := #[], guard := none }) (v := ?_) rfl (by kernel_rfl) (by kernel_rfl) (by kernel_rfl) (fun _ _ _ h => h) (Or.inl ⟨by rfl, ?_⟩) hHeld ?_
            rotate_left
            · intro w hSw
              clear hSw
              go_simp
              try with_reducible rfl
            try simp only [Act.put, List.setIfInBounds_toArray, List.set_cons_zero, List.set_cons_succ]
            refine wpAnyH_take (i := 7) (oi := { dst := some 63, op := Op.move (Operand.tmp 7), type := 3, pos := "ref.go:175", after := #[], guard := none }) (v := ?_) rfl (by kernel_rfl) (by kernel_rfl) (by kernel_rfl) (fun _ _ _ h => h) (Or.inl ⟨by rfl, ?_⟩) hHeld ?_
            rotate_left
            · intro w hSw
              clear hSw
              go_simp
              try with_reducible rfl
            try simp only [Act.put, List.setIfInBounds_toArray, List.set_cons_zero, List.set_cons_succ]
            refine wpAnyH_take (i := 8) (oi := { dst := some 64, op := Op.indexAddr 22 (Operand.tmp 62) (Operand.tmp 63), type := 0, pos := "ref.go:175", after := #[{ on := 6, ground := Ground.data }, { on := 7, ground := Ground.data }], guard := none }) (v := ?_) rfl (by kernel_rfl) (by kernel_rfl) (by kernel_rfl) (fun _ _ _ h => h) (Or.inl ⟨by rfl, ?_⟩) hHeld ?_
            rotate_left
            · intro w hSw
              clear hSw
              go_simp
              try with_reducible rfl
            try simp only [Act.put, List.setIfInBounds_toArray, List.set_cons_zero, List.set_cons_succ]
            refine wpAnyH_take (i := 9) (oi := { dst := some 65, op := Op.fieldAddr 32 (Operand.tmp 64) 1, type := 0, pos := "ref.go:175", after := #[{ on := 8, ground := Ground.data }], guard := none }) (v := ?_) rfl (by kernel_rfl) (by kernel_rfl) (by kernel_rfl) (fun _ _ _ h => h) (Or.inl ⟨by rfl, ?_⟩) hHeld ?_
            rotate_left
            · intro w hSw
              clear hSw
              go_simp
              try with_reducible rfl
            try simp only [Act.put, List.setIfInBounds_toArray, List.set_cons_zero, List.set_cons_succ]
            refine wpAnyH_take (i := 10) (oi := { dst := some 66, op := Op.load 5 (Operand.tmp 65), type := 5, pos := "ref.go:175", after := #[{ on := 9, ground := Ground.data }], guard := none }) (v := ?_) rfl (by kernel_rfl) (by kernel_rfl) (by kernel_rfl) (fun _ _ _ h => h) (Or.inl ⟨by rfl, ?_⟩) hHeld ?_
            rotate_left
            · intro w hSw
              have c1 := hSw.t
              go_simp
              try with_reducible rfl
            try simp only [Act.put, List.setIfInBounds_toArray, List.set_cons_zero, List.set_cons_succ]
            refine wpAnyH_take (i := 11) (oi := { dst := some 67, op := Op.convert 5 57 (Operand.tmp 66), type := 57, pos := "ref.go:175", after := #[{ on := 10, ground := Ground.data }], guard := none }) (v := ?_) rfl (by kernel_rfl) (by kernel_rfl) (by kernel_rfl) (fun _ _ _ h => h) (Or.inl ⟨by rfl, ?_⟩) hHeld ?_
            rotate_left
            · intro w hSw
              clear hSw
              go_simp
              try with_reducible rfl
            try simp only [Act.put, List.setIfInBounds_toArray, List.set_cons_zero, List.set_cons_succ]
            refine wpAnyH_take (i := 14) (oi := { dst := some 70, op := Op.move (Operand.tmp 9), type := 3, pos := "ref.go:175", after := #[], guard := none }) (v := ?_) rfl (by kernel_rfl) (by kernel_rfl) (by kernel_rfl) (fun _ _ _ h => h) (Or.inl ⟨by rfl, ?_⟩) hHeld ?_
            rotate_left
            · intro w hSw
              clear hSw
              go_simp
              try with_reducible rfl
            try simp only [Act.put, List.setIfInBounds_toArray, List.set_cons_zero, List.set_cons_succ]
            refine wpAnyH_take (i := 15) (oi := { dst := some 71, op := Op.convert 3 57 (Operand.tmp 70), type := 57, pos := "ref.go:175", after := #[{ on := 14, ground := Ground.data }], guard := none }) (v := ?_) rfl (by kernel_rfl) (by kernel_rfl) (by kernel_rfl) (fun _ _ _ h => h) (Or.inl ⟨by rfl, ?_⟩) hHeld ?_
            rotate_left
            · intro w hSw
              clear hSw
              go_simp
              try with_reducible rfl
            try simp only [Act.put, List.setIfInBounds_toArray, List.set_cons_zero, List.set_cons_succ]
            refine wpAnyH_ready (rs := [4]) (by kernel_rfl) (by simp) ?_
            refine AllReadyH.cons (o := { dst := some 60, op := Op.call { callee := Callee.value (Operand.func 31), args := #[Operand.tmp 59, Operand.const (Value.int IntKind.i64 1)], argTypes := #[57, 3] }, type := 9, pos := "ref.go:175", after := #[{ on := 3, ground := Ground.data }], guard := none }) rfl (fun K hK => ?_) AllReadyH.nil
            go_simp
            refine (HN1.out _).mono ?_
            rintro e W1 ⟨rfl, hb1⟩
            have HS1 := Lib.hid hHeld
            refine hK.out _ _ (HS1.out.below hb1) (fun hHeld => ?_)
            clear hK K
            try simp only [Act.put, List.setIfInBounds_toArray, List.set_cons_zero, List.set_cons_succ]
            refine wpAnyH_take (i := 5) (oi := { dst := some 61, op := Op.binOp BinOp.add 9 (Operand.tmp 56) (Operand.tmp 60) 9, type := 9, pos := "ref.go:175", after := #[{ on := 0, ground := Ground.data }, { on := 4, ground := Ground.data }], guard := none }) (v := ?_) rfl (by kernel_rfl) (by kernel_rfl) (by kernel_rfl) (fun _ _ _ h => h) (Or.inl ⟨by rfl, ?_⟩) hHeld ?_
            rotate_left
            · intro w hSw
              clear hSw
              go_simp
              try with_reducible rfl
            try simp only [Act.put, List.setIfInBounds_toArray, List.set_cons_zero, List.set_cons_succ]
            refine wpAnyH_ready (rs := [12]) (by kernel_rfl) (by simp) ?_
            refine AllReadyH.cons (o := { dst := some 68, op := Op.call { callee := Callee.value (Operand.func 31), args := #[Operand.tmp 67, Operand.const (Value.int IntKind.i64 1)], argTypes := #[57, 3] }, type := 9, pos := "ref.go:175", after := #[{ on := 11, ground := Ground.data }, { on := 4, ground := Ground.chain }], guard := none }) rfl (fun K hK => ?_) AllReadyH.nil
            go_simp
            refine (HN2.out _).mono ?_
            rintro e W2 ⟨rfl, hb2⟩
            have HS2 := Lib.hid hHeld
            refine hK.out _ _ (HS2.out.below hb2) (fun hHeld => ?_)
            clear hK K
            try simp only [Act.put, List.setIfInBounds_toArray, List.set_cons_zero, List.set_cons_succ]
            refine wpAnyH_take (i := 13) (oi := { dst := some 69, op := Op.binOp BinOp.add 9 (Operand.tmp 61) (Operand.tmp 68) 9, type := 9, pos := "ref.go:175", after := #[{ on := 5, ground := Ground.data }, { on := 12, ground := Ground.data }], guard := none }) (v := ?_) rfl (by kernel_rfl) (by kernel_rfl) (by kernel_rfl) (fun _ _ _ h => h) (Or.inl ⟨by rfl, ?_⟩) hHeld ?_
            rotate_left
            · intro w hSw
              clear hSw
              go_simp
              try with_reducible rfl
            try simp only [Act.put, List.setIfInBounds_toArray, List.set_cons_zero, List.set_cons_succ]
            refine wpAnyH_ready (rs := [16]) (by kernel_rfl) (by simp) ?_
            refine AllReadyH.cons (o := { dst := some 72, op := Op.call { callee := Callee.value (Operand.func 31), args := #[Operand.tmp 71, Operand.const (Value.int IntKind.i64 2)], argTypes := #[57, 3] }, type := 9, pos := "ref.go:175", after := #[{ on := 15, ground := Ground.data }, { on := 12, ground := Ground.chain }], guard := none }) rfl (fun K hK => ?_) AllReadyH.nil
            go_simp
            refine (HN3.out _).mono ?_
            rintro e W3 ⟨rfl, hb3⟩
            have HS3 := Lib.hid hHeld
            refine hK.out _ _ (HS3.out.below hb3) (fun hHeld => ?_)
            clear hK K
            try simp only [Act.put, List.setIfInBounds_toArray, List.set_cons_zero, List.set_cons_succ]
            refine wpAnyH_take (i := 17) (oi := { dst := some 73, op := Op.binOp BinOp.add 9 (Operand.tmp 69) (Operand.tmp 72) 9, type := 9, pos := "ref.go:175", after := #[{ on := 13, ground := Ground.data }, { on := 16, ground := Ground.data }], guard := none }) (v := ?_) rfl (by kernel_rfl) (by kernel_rfl) (by kernel_rfl) (fun _ _ _ h => h) (Or.inl ⟨by rfl, ?_⟩) hHeld ?_
            rotate_left
            · intro w hSw
              clear hSw
              go_simp
              try with_reducible rfl
            try simp only [Act.put, List.setIfInBounds_toArray, List.set_cons_zero, List.set_cons_succ]
            refine wpAnyH_take (i := 18) (oi := { dst := some 6, op := Op.assign (Operand.tmp 73), type := 9, pos := "ref.go:175", after := #[{ on := 17, ground := Ground.data }, { on := 16, ground := Ground.chain }, { on := 0, ground := Ground.phase }, { on := 1, ground := Ground.phase }, { on := 2, ground := Ground.phase }, { on := 3, ground := Ground.phase }, { on := 4, ground := Ground.phase }, { on := 5, ground := Ground.phase }, { on := 6, ground := Ground.phase }, { on := 7, ground := Ground.phase }, { on := 8, ground := Ground.phase }, { on := 9, ground := Ground.phase }, { on := 10, ground := Ground.phase }, { on := 11, ground := Ground.phase }, { on := 12, ground := Ground.phase }, { on := 13, ground := Ground.phase }, { on := 14, ground := Ground.phase }, { on := 15, ground := Ground.phase }, { on := 16, ground := Ground.phase }, { on := 17, ground := Ground.phase }], guard := none }) (v := ?_) rfl (by kernel_rfl) (by kernel_rfl) (by kernel_rfl) (fun _ _ _ h => h) (Or.inl ⟨by rfl, ?_⟩) hHeld ?_
            rotate_left
            · intro w hSw
              clear hSw
              go_simp
              try with_reducible rfl
            try simp only [Act.put, List.setIfInBounds_toArray, List.set_cons_zero, List.set_cons_succ]
            refine wpAnyH_done (by kernel_rfl) ?_ _
            have HS4 := Lib.hid hHeld
            clear hHeld HS0
            have c2 := HS4.out.v
            go_wp2_with fail
            exact ⟨⟨k + 1, by omega, by go_num, by rw [← HEQ.out], HS4.out.b⟩, by simp [intOf]; omega⟩
          · have zw : IntKind.u64.wrap (cf.toNat : Int) = (cf.toNat : Int) := IntWalk.u64_in _ (by have := cf.toNat_lt; omega)
            obtain ⟨s1, hs1⟩ : ∃ s, s = bts [cf] := ⟨_, rfl⟩
            obtain ⟨s2, hs2⟩ : ∃ s, s = bts [x.t] := ⟨_, rfl⟩
            obtain ⟨s3, hs3⟩ : ∃ s, s = bts [UInt8.ofNat x.v.size] := ⟨_, rfl⟩
            have HN1 : Hid (∀ W, Calls Tryz.prog 31 #[.int .u64 (cf.toNat : Nat), .int .i64 1] W fun e w' => e = .returned (.string s1) ∧ Below W.heap.size W w') := fun W => HNUM.out cf.toNat 1 s1 W (by decide) (by decide) cf.toNat_lt (by rw [hs1, beB_one, u8_self])
            have HN2 : Hid (∀ W, Calls Tryz.prog 31 #[.int .u64 (x.t.toNat : Nat), .int .i64 1] W fun e w' => e = .returned (.string s2) ∧ Below W.heap.size W w') := fun W => HNUM.out x.t.toNat 1 s2 W (by decide) (by decide) x.t.toNat_lt (by rw [hs2, beB_one, u8_self])
            have HN3 : Hid (∀ W, Calls Tryz.prog 31 #[.int .u64 (x.v.size : Nat), .int .i64 1] W fun e w' => e = .returned (.string s3) ∧ Below W.heap.size W w') := fun W => HNUM.out x.v.size 1 s3 W (by decide) (by decide) (by omega) (by rw [hs3, beB_one])
            have hz1 : s1.size = 1 := by rw [hs1, bts_size]; rfl
            have hz2 : s2.size = 1 := by rw [hs2, bts_size]; rfl
            have hz3 : s3.size = 1 := by rw [hs3, bts_size]; rfl
            have HEQ : Hid (sP ++ s1 ++ s2 ++ s3 ++ x.v = bts (laysB (L.take (k + 1)))) := by
              show _ = _
              rw [HNEXT.out, rawB_short hlong, HPE.out, hs1, hs2, hs3, bts_app, bts_app, bts_app, bts_cat]
              simp [HCF.out]
            have g1 : ¬ (9223372036854775807 < sP.size + s1.size) := by omega
            have g2 : ¬ (9223372036854775807 < (sP ++ s1).size + s2.size) := by rw [ByteArray.size_append]; omega
            have g3 : ¬ (9223372036854775807 < (sP ++ s1 ++ s2).size + s3.size) := by rw [ByteArray.size_append, ByteArray.size_append]; omega
            have g4 : ¬ (9223372036854775807 < (sP ++ s1 ++ s2 ++ s3).size + x.v.size) := by rw [ByteArray.size_append, ByteArray.size_append, ByteArray.size_append]; omega
            have g2' : ¬ (9223372036854775807 < sP.size + s1.size + s2.size) := by omega
            have g3' : ¬ (9223372036854775807 < sP.size + s1.size + s2.size + s3.size) := by omega
            have g4' : ¬ (9223372036854775807 < sP.size + s1.size + s2.size + s3.size + x.v.size) := by omega
            have HZ := Lib.hid (And.intro hz1 (And.intro hz2 hz3))
            clear hs1 hs2 hs3 hz1 hz2 hz3 HNUM HR HSZ
            go_upto_region 18 with fail
            clear c0 c1 c2
            refine wp_region_held_drew (S := RwS w b (off + k * 3) x) (by kernel_rfl) (HS0.out.drew 1) (fun hHeld => ?_)
            refine wpAnyH_take (i := 0) (oi := { dst := some 74, op := Op.move (Operand.tmp 6), type := 9, pos := "ref.go:177", after := #[], guard := none }) (v := ?_) rfl (by kernel_rfl) (by kernel_rfl) (by kernel_rfl) (fun _ _ _ h => h) (Or.inl ⟨by rfl, ?_⟩) hHeld ?_
            rotate_left
            · intro w hSw
              clear hSw
              go_simp
              try with_reducible rfl
            try simp only [Act.put, List.setIfInBounds_toArray, List.set_cons_zero, List.set_cons_succ]
            refine wpAnyH_take (i := 1) (oi := { dst := some 75, op := Op.move (Operand.tmp 8), type := 5, pos := "ref.go:177", after := #[], guard := none }) (v := ?_) rfl (by kernel_rfl) (by kernel_rfl) (by kernel_rfl) (fun _ _ _ h => h) (Or.inl ⟨by rfl, ?_⟩) hHeld ?_
            rotate_left
            · intro w hSw
              clear hSw
              go_simp
              try with_reducible rfl
            try simp only [Act.put, List.setIfInBounds_toArray, List.set_cons_zero, List.set_cons_succ]
            refine wpAnyH_take (i := 2) (oi := { dst := some 76, op := Op.convert 5 57 (Operand.tmp 75), type := 57, pos := "ref.go:177", after := #[{ on := 1, ground := Ground.data }], guard := none }) (v := ?_) rfl (by kernel_rfl) (by kernel_rfl) (by kernel_rfl) (fun _ _ _ h => h) (Or.inl ⟨by rfl, ?_⟩) hHeld ?_
            rotate_left
            · intro w hSw
              clear hSw
              go_simp
              try with_reducible rfl
            try simp only [Act.put, List.setIfInBounds_toArray, List.set_cons_zero, List.set_cons_succ]
            refine wpAnyH_take (i := 5) (oi := { dst := some 79, op := Op.move (Operand.tmp 0), type := 22, pos := "ref.go:177", after := #[], guard := none }) (v := ?_) rfl (by kernel_rfl) (by kernel_rfl) (by kernel_rfl) (fun _ _ _ h => h) (Or.inl ⟨by rfl, ?_⟩) hHeld ?_
            rotate_left
            · intro w hSw
              clear hSw
              go_simp
              try with_reducible rfl
            try simp only [Act.put, List.setIfInBounds_toArray, List.set_cons_zero, List.set_cons_succ]
            refine wpAnyH_take (i := 6) (oi := { dst := some 80, op := Op.move (Operand.tmp 7), type := 3, pos := "ref.go:177", after := #[], guard := none }) (v := ?_) rfl (by kernel_rfl) (by kernel_rfl) (by kernel_rfl) (fun _ _ _ h => h) (Or.inl ⟨by rfl, ?_⟩) hHeld ?_
            rotate_left
            · intro w hSw
              clear hSw
              go_simp
              try with_reducible rfl
            try simp only [Act.put, List.setIfInBounds_toArray, List.set_cons_zero, List.set_cons_succ]
            refine wpAnyH_take (i := 7) (oi := { dst := some 81, op := Op.indexAddr 22 (Operand.tmp 79) (Operand.tmp 80), type := 0, pos := "ref.go:177", after := #[{ on := 5, ground := Ground.data }, { on := 6, ground := Ground.data }], guard := none }) (v := ?_) rfl (by kernel_rfl) (by kernel_rfl) (by kernel_rfl) (fun _ _ _ h => h) (Or.inl ⟨by rfl, ?_⟩) hHeld ?_
            rotate_left
            · intro w hSw
              clear hSw
              go_simp
              try with_reducible rfl
            try simp only [Act.put, List.setIfInBounds_toArray, List.set_cons_zero, List.set_cons_succ]
            refine wpAnyH_take (i := 8) (oi := { dst := some 82, op := Op.fieldAddr 32 (Operand.tmp 81) 1, type := 0, pos := "ref.go:177", after := #[{ on := 7, ground := Ground.data }], guard := none }) (v := ?_) rfl (by kernel_rfl) (by kernel_rfl) (by kernel_rfl) (fun _ _ _ h => h) (Or.inl ⟨by rfl, ?_⟩) hHeld ?_
            rotate_left
            · intro w hSw
              clear hSw
              go_simp
              try with_reducible rfl
            try simp only [Act.put, List.setIfInBounds_toArray, List.set_cons_zero, List.set_cons_succ]
            refine wpAnyH_take (i := 9) (oi := { dst := some 83, op := Op.load 5 (Operand.tmp 82), type := 5, pos := "ref.go:177", after := #[{ on := 8, ground := Ground.data }], guard := none }) (v := ?_) rfl (by kernel_rfl) (by kernel_rfl) (by kernel_rfl) (fun _ _ _ h => h) (Or.inl ⟨by rfl, ?_⟩) hHeld ?_
            rotate_left
            · intro w hSw
              have c1 := hSw.t
              go_simp
              try with_reducible rfl
            try simp only [Act.put, List.setIfInBounds_toArray, List.set_cons_zero, List.set_cons_succ]
            refine wpAnyH_take (i := 10) (oi := { dst := some 84, op := Op.convert 5 57 (Operand.tmp 83), type := 57, pos := "ref.go:177", after := #[{ on := 9, ground := Ground.data }], guard := none }) (v := ?_) rfl (by kernel_rfl) (by kernel_rfl) (by kernel_rfl) (fun _ _ _ h => h) (Or.inl ⟨by rfl, ?_⟩) hHeld ?_
            rotate_left
            · intro w hSw
              clear hSw
              go_simp
              try with_reducible rfl
            try simp only [Act.put, List.setIfInBounds_toArray, List.set_cons_zero, List.set_cons_succ]
            refine wpAnyH_take (i := 13) (oi := { dst := some 87, op := Op.move (Operand.tmp 9), type := 3, pos := "ref.go:177", after := #[], guard := none }) (v := ?_) rfl (by kernel_rfl) (by kernel_rfl) (by kernel_rfl) (fun _ _ _ h => h) (Or.inl ⟨by rfl, ?_⟩) hHeld ?_
            rotate_left
            · intro w hSw
              clear hSw
              go_simp
              try with_reducible rfl
            try simp only [Act.put, List.setIfInBounds_toArray, List.set_cons_zero, List.set_cons_succ]
            refine wpAnyH_take (i := 14) (oi := { dst := some 88, op := Op.convert 3 57 (Operand.tmp 87), type := 57, pos := "ref.go:177", after := #[{ on := 13, ground := Ground.data }], guard := none }) (v := ?_) rfl (by kernel_rfl) (by kernel_rfl) (by kernel_rfl) (fun _ _ _ h => h) (Or.inl ⟨by rfl, ?_⟩) hHeld ?_
            rotate_left
            · intro w hSw
              clear hSw
              go_simp
              try with_reducible rfl
            try simp only [Act.put, List.setIfInBounds_toArray, List.set_cons_zero, List.set_cons_succ]
            refine wpAnyH_ready (rs := [3]) (by kernel_rfl) (by simp) ?_
            refine AllReadyH.cons (o := { dst := some 77, op := Op.call { callee := Callee.value (Operand.func 31), args := #[Operand.tmp 76, Operand.const (Value.int IntKind.i64 1)], argTypes := #[57, 3] }, type := 9, pos := "ref.go:177", after := #[{ on := 2, ground := Ground.data }], guard := none }) rfl (fun K hK => ?_) AllReadyH.nil
            go_simp
            refine (HN1.out _).mono ?_
            rintro e W1 ⟨rfl, hb1⟩
            have HS1 := Lib.hid hHeld
            refine hK.out _ _ (HS1.out.below hb1) (fun hHeld => ?_)
            clear hK K
            try simp only [Act.put, List.setIfInBounds_toArray, List.set_cons_zero, List.set_cons_succ]
            refine wpAnyH_take (i := 4) (oi := { dst := some 78, op := Op.binOp BinOp.add 9 (Operand.tmp 74) (Operand.tmp 77) 9, type := 9, pos := "ref.go:177", after := #[{ on := 0, ground := Ground.data }, { on := 3, ground := Ground.data }], guard := none }) (v := ?_) rfl (by kernel_rfl) (by kernel_rfl) (by kernel_rfl) (fun _ _ _ h => h) (Or.inl ⟨by rfl, ?_⟩) hHeld ?_
            rotate_left
            · intro w hSw
              clear hSw
              go_simp
              try with_reducible rfl
            try simp only [Act.put, List.setIfInBounds_toArray, List.set_cons_zero, List.set_cons_succ]
            refine wpAnyH_ready (rs := [11]) (by kernel_rfl) (by simp) ?_
            refine AllReadyH.cons (o := { dst := some 85, op := Op.call { callee := Callee.value (Operand.func 31), args := #[Operand.tmp 84, Operand.const (Value.int IntKind.i64 1)], argTypes := #[57, 3] }, type := 9, pos := "ref.go:177", after := #[{ on := 10, ground := Ground.data }, { on := 3, ground := Ground.chain }], guard := none }) rfl (fun K hK => ?_) AllReadyH.nil
            go_simp
            refine (HN2.out _).mono ?_
            rintro e W2 ⟨rfl, hb2⟩
            have HS2 := Lib.hid hHeld
            refine hK.out _ _ (HS2.out.below hb2) (fun hHeld => ?_)
            clear hK K
            try simp only [Act.put, List.setIfInBounds_toArray, List.set_cons_zero, List.set_cons_succ]
            refine wpAnyH_take (i := 12) (oi := { dst := some 86, op := Op.binOp BinOp.add 9 (Operand.tmp 78) (Operand.tmp 85) 9, type := 9, pos := "ref.go:177", after := #[{ on := 4, ground := Ground.data }, { on := 11, ground := Ground.data }], guard := none }) (v := ?_) rfl (by kernel_rfl) (by kernel_rfl) (by kernel_rfl) (fun _ _ _ h => h) (Or.inl ⟨by rfl, ?_⟩) hHeld ?_
            rotate_left
            · intro w hSw
              clear hSw
              go_simp
              try with_reducible rfl
            try simp only [Act.put, List.setIfInBounds_toArray, List.set_cons_zero, List.set_cons_succ]
            refine wpAnyH_ready (rs := [15]) (by kernel_rfl) (by simp) ?_
            refine AllReadyH.cons (o := { dst := some 89, op := Op.call { callee := Callee.value (Operand.func 31), args := #[Operand.tmp 88, Operand.const (Value.int IntKind.i64 1)], argTypes := #[57, 3] }, type := 9, pos := "ref.go:177", after := #[{ on := 14, ground := Ground.data }, { on := 11, ground := Ground.chain }], guard := none }) rfl (fun K hK => ?_) AllReadyH.nil
            go_simp
            refine (HN3.out _).mono ?_
            rintro e W3 ⟨rfl, hb3⟩
            have HS3 := Lib.hid hHeld
            refine hK.out _ _ (HS3.out.below hb3) (fun hHeld => ?_)
            clear hK K
            try simp only [Act.put, List.setIfInBounds_toArray, List.set_cons_zero, List.set_cons_succ]
            refine wpAnyH_take (i := 16) (oi := { dst := some 90, op := Op.binOp BinOp.add 9 (Operand.tmp 86) (Operand.tmp 89) 9, type := 9, pos := "ref.go:177", after := #[{ on := 12, ground := Ground.data }, { on := 15, ground := Ground.data }], guard := none }) (v := ?_) rfl (by kernel_rfl) (by kernel_rfl) (by kernel_rfl) (fun _ _ _ h => h) (Or.inl ⟨by rfl, ?_⟩) hHeld ?_
            rotate_left
            · intro w hSw
              clear hSw
              go_simp
              try with_reducible rfl
            try simp only [Act.put, List.setIfInBounds_toArray, List.set_cons_zero, List.set_cons_succ]
            refine wpAnyH_take (i := 17) (oi := { dst := some 6, op := Op.assign (Operand.tmp 90), type := 9, pos := "ref.go:177", after := #[{ on := 16, ground := Ground.data }, { on := 15, ground := Ground.chain }, { on := 0, ground := Ground.phase }, { on := 1, ground := Ground.phase }, { on := 2, ground := Ground.phase }, { on := 3, ground := Ground.phase }, { on := 4, ground := Ground.phase }, { on := 5, ground := Ground.phase }, { on := 6, ground := Ground.phase }, { on := 7, ground := Ground.phase }, { on := 8, ground := Ground.phase }, { on := 9, ground := Ground.phase }, { on := 10, ground := Ground.phase }, { on := 11, ground := Ground.phase }, { on := 12, ground := Ground.phase }, { on := 13, ground := Ground.phase }, { on := 14, ground := Ground.phase }, { on := 15, ground := Ground.phase }, { on := 16, ground := Ground.phase }], guard := none }) (v := ?_) rfl (by kernel_rfl) (by kernel_rfl) (by kernel_rfl) (fun _ _ _ h => h) (Or.inl ⟨by rfl, ?_⟩) hHeld ?_
            rotate_left
            · intro w hSw
              clear hSw
              go_simp
              try with_reducible rfl
            try simp only [Act.put, List.setIfInBounds_toArray, List.set_cons_zero, List.set_cons_succ]
            refine wpAnyH_done (by kernel_rfl) ?_ _
            have HS4 := Lib.hid hHeld
            clear hHeld HS0
            have c2 := HS4.out.v
            go_wp2_with fail
            exact ⟨⟨k + 1, by omega, by go_num, by rw [← HEQ.out], HS4.out.b⟩, by simp [intOf]; omega⟩
        · obtain rfl : k = L.length := by omega
          rw [List.take_length]
          go_wp2_with fail
          go_ret2
          exact ⟨by rw [HF.out]; rfl, HB.out⟩
end Go.Proofs.YtkcojblflebomaaGreat
