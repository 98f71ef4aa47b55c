/-
  Contracts of heraldref07.first joined, Decode, of heraldref08.has, pair. Conditions: sizes.
-/
import Derived.Test.YtocbacpbckejdaaNmH
import Derived.Test.YtocbacpbckejdaaNmI
import Derived.Test.YtocbacpbckejdaaNmJ
import Derived.Test.YtocbacpbckejdaaNmK
import Derived.Test.YtocbacpbckejdaaNmL
import Derived.BigRegion
set_option linter.unusedVariables false
set_option linter.unusedSimpArgs false
namespace Go.Proofs.Ytocbacpbckejdaa
open Go.RowKit

theorem rfirst_any (t : ByteArray) (f : Int) (add : Bool) (w : World) (h1 : 1 ≤ f) (h2 : f ≤ 5) (hs : t.size ≤ 1100000) :
    Calls Try.prog 61 #[.string t, .int .i64 f, .bool add] w (RFPost w f add t) := by
  rcases fam_five h1 h2 with rfl | rfl | rfl | rfl | rfl <;> cases add
  · exact rfirst_lai t 1 4 w h1 h2 rfl rfl rfl rfl (Or.inl rfl) hs
  · exact rfirst_laI t 1 4 w h1 h2 rfl rfl rfl rfl (Or.inl rfl) hs
  · exact rfirst_lai t 2 16 w h1 h2 rfl rfl rfl rfl (Or.inr rfl) hs
  · exact rfirst_laI t 2 16 w h1 h2 rfl rfl rfl rfl (Or.inr rfl) hs
  · exact rfirst_Lai t 3 4 w h1 h2 rfl rfl rfl rfl (Or.inl rfl) hs
  · exact rfirst_LaI t 3 4 w h1 h2 rfl rfl rfl rfl (Or.inl rfl) hs
  · exact rfirst_LAi t 4 4 w h1 h2 rfl rfl rfl rfl (Or.inl rfl) hs
  · exact rfirst_LAI t 4 4 w h1 h2 rfl rfl rfl rfl (Or.inl rfl) hs
  · exact rfirst_LAi t 5 16 w h1 h2 rfl rfl rfl rfl (Or.inr rfl) hs
  · exact rfirst_LAI t 5 16 w h1 h2 rfl rfl rfl rfl (Or.inr rfl) hs
abbrev qO0 : Oper := { dst := some 8, op := Op.move (Operand.tmp 0), type := 9, pos := "ref.go:102", after := #[], guard := none }
abbrev qO1 : Oper := { dst := some 9, op := Op.slice 9 (Operand.tmp 8) none (some (Operand.const (Value.int IntKind.i64 2))) none, type := 9, pos := "ref.go:102", after := #[{ on := 0, ground := Ground.data }], guard := none }
abbrev qO2 : Oper := { dst := some 10, op := Op.call { callee := Callee.value (Operand.func 60), args := #[Operand.tmp 9], argTypes := #[9] }, type := 42, pos := "ref.go:102", after := #[{ on := 1, ground := Ground.data }], guard := none }
abbrev qO3 : Oper := { dst := some 11, op := Op.convert 42 22 (Operand.tmp 10), type := 22, pos := "ref.go:102", after := #[{ on := 2, ground := Ground.data }], guard := none }
abbrev qO4 : Oper := { dst := some 12, op := Op.move (Operand.tmp 0), type := 9, pos := "ref.go:102", after := #[], guard := none }
abbrev qO5 : Oper := { dst := some 13, op := Op.index 9 (Operand.tmp 12) (Operand.const (Value.int IntKind.i64 2)), type := 5, pos := "ref.go:102", after := #[{ on := 4, ground := Ground.data }], guard := none }
abbrev qO6 : Oper := { dst := some 14, op := Op.call { callee := Callee.value (Operand.func 12), args := #[Operand.tmp 11, Operand.tmp 13], argTypes := #[22, 5] }, type := 3, pos := "ref.go:102", after := #[{ on := 3, ground := Ground.data }, { on := 5, ground := Ground.data }, { on := 2, ground := Ground.chain }], guard := none }
abbrev qO7 : Oper := { dst := some 4, op := Op.assign (Operand.tmp 14), type := 3, pos := "ref.go:102", after := #[{ on := 6, ground := Ground.data }, { on := 6, ground := Ground.chain }, { on := 0, ground := Ground.phase }, { on := 1, ground := Ground.phase }, { on := 2, ground := Ground.phase }, { on := 3, ground := Ground.phase }, { on := 4, ground := Ground.phase }, { on := 5, ground := Ground.phase }, { on := 6, ground := Ground.phase }], guard := none }
def lenS : Value → Nat
  | .string b => b.size
  | _ => 0
set_option maxRecDepth 100000 in
set_option maxHeartbeats 8000000 in
theorem rdecode_any (s : ByteArray) (f : Int) (add : Bool) (w : World) (h1 : 1 ≤ f) (h2 : f ≤ 5) (hs : s.size ≤ 1100000) :
    Calls Try.prog 44 #[.string s, .int .i64 f, .bool add] w (DecPost w s f add) := by
  have HSI := Lib.hid (fun w => rsize_any f w)
  have hfs : famSize f ≠ 0 := by rcases fam_five h1 h2 with rfl | rfl | rfl | rfl | rfl <;> decide
  have hfb : (famSize f == 0) = false := beq_eq_false_iff_ne.2 hfs
  have HFI := Lib.hid (fun t V (h : t.size ≤ 1100000) => rfirst_any t f add V h1 h2 h)
  clear hfs h1 h2
  generalize famSize f = fs at HSI hfb
  go_enter Try.func44, Try.ntmps44
  go_wp2_with fail
  refine (HSI.out _).mono ?_
  rintro e w1 ⟨rfl, hw⟩
  rw [hw]
  clear hw
  go_wp2_with fail
  go_loopw [0, 8] (fun sv o wr => ∃ (A : Option Addr) (c : Nat) (L : List Nl) (t : ByteArray) (n : Nat), sv = .string t ∧ o = .slice A L.length c ∧ L.length + t.size ≤ s.size ∧ Hid (NlOwn wr w.heap.size o L) ∧ Hid (Below w.heap.size w wr) ∧ Hid (t.size < n ∧ decRun f add n t L = decAll f add s)) (fun sv _ _ => lenS sv)
  case atStart => exact ⟨none, 0, [], s, s.size + 1, rfl, rfl, by simp, OwnM.nil _ _ _ _, Below.refl _ _, Nat.lt_succ_self _, rfl⟩
  case round =>
    obtain ⟨A, c, L, t, n, rfl, rfl, hLt, HO, HB, HR⟩ := hrel
    by_cases ht : t.size = 0
    · have HEND := Lib.hid (run_end HR.out ht)
      obtain rfl : t = ByteArray.empty := by
        have h0 : t.data.toList.length = 0 := by rw [Array.length_toList]; exact ht
        apply ByteArray.ext
        apply Array.ext'
        exact List.eq_nil_of_length_eq_zero h0
      clear ht
      go_wp2_with fail
      go_ret2
      exact DecPost.yes HEND.out rfl HO.out HB.out
    · have hne0 : ¬ t = ByteArray.empty := fun h => ht (by rw [h]; rfl)
      have ht0 : 0 < (t.size : Int) := by omega
      have HT0 : Hid (0 < t.size) := Nat.pos_of_ne_zero ht
      clear ht
      go_wp2_with fail
      refine (HFI.out t _ (by omega)).mono ?_
      rintro e w2 ⟨hb, hm⟩
      have HO2 : Hid (NlOwn w2 w.heap.size (.slice A L.length c) L) := OwnM.below HO.out hb (Nat.le_refl _)
      have HB2 := Lib.hid (HB.out.trans (hb.mono HB.out.size))
      clear hb HO HB
      cases hd : decStep f add t with
      | none =>
        rw [hd] at hm
        have HNO := Lib.hid (run_err HR.out HT0.out hd)
        obtain ⟨x, rfl⟩ := hm
        rw [show x.v = .agg #[.int .i64 x.fam, .int .u64 x.rd, .string x.addr, .int .i64 x.len, .int .u32 x.id, .int .u32 x.label] from rfl]
        clear hd
        go_wp2_with fail
        go_ret2
        exact DecPost.no HNO.out rfl (HB2.out.alloc HB2.out.size _)
      | some p =>
        obtain ⟨x, t5⟩ := p
        rw [hd] at hm
        have HOK := Lib.hid (run_ok HR.out HT0.out hd)
        obtain ⟨k, k0, k1, ht5, rfl⟩ := hm
        subst ht5
        have HLT := Lib.hid (decStep_lt hd)
        rw [show x.v = .agg #[.int .i64 x.fam, .int .u64 x.rd, .string x.addr, .int .i64 x.len, .int .u32 x.id, .int .u32 x.label] from rfl]
        clear hd HR
        have hkb : (((k : Nat) : Int) == 0) = false := beq_eq_false_iff_ne.2 (by omega)
        have hki : ((k : Nat) : Int) ≤ t.size := by omega
        have HO3 : Hid (NlOwn ((w2.alloc (.cells #[.int .i64 x.fam, .int .u64 x.rd, .string x.addr, .int .i64 x.len, .int .u32 x.id, .int .u32 x.label] 47)).alloc (.cells #[.int .i64 x.fam, .int .u64 x.rd, .string x.addr, .int .i64 x.len, .int .u32 x.id, .int .u32 x.label] 47)) w.heap.size (.slice A L.length c) L) := OwnM.alloc (OwnM.alloc HO2.out _) _
        have HB3 : Hid (Below w.heap.size w ((w2.alloc (.cells #[.int .i64 x.fam, .int .u64 x.rd, .string x.addr, .int .i64 x.len, .int .u32 x.id, .int .u32 x.label] 47)).alloc (.cells #[.int .i64 x.fam, .int .u64 x.rd, .string x.addr, .int .i64 x.len, .int .u32 x.id, .int .u32 x.label] 47))) := (HB2.out.alloc HB2.out.size _).alloc (HB2.out.alloc HB2.out.size _).size _
        have HC3 : Hid (CellsAt ((w2.alloc (.cells #[.int .i64 x.fam, .int .u64 x.rd, .string x.addr, .int .i64 x.len, .int .u32 x.id, .int .u32 x.label] 47)).alloc (.cells #[.int .i64 x.fam, .int .u64 x.rd, .string x.addr, .int .i64 x.len, .int .u32 x.id, .int .u32 x.label] 47)) (w2.heap.size + 1) x.cs.toArray 47) := by
          have h := CellsAt.new (w2.alloc (.cells #[.int .i64 x.fam, .int .u64 x.rd, .string x.addr, .int .i64 x.len, .int .u32 x.id, .int .u32 x.label] 47)) x.cs.toArray 47
          rw [World.size_alloc] at h
          exact h
        have HL3 : Hid (L.length ≤ 2000000) := by
          show _ ≤ _
          omega
        have HS3 : Hid (w.heap.size ≤ ((w2.alloc (.cells #[.int .i64 x.fam, .int .u64 x.rd, .string x.addr, .int .i64 x.len, .int .u32 x.id, .int .u32 x.label] 47)).alloc (.cells #[.int .i64 x.fam, .int .u64 x.rd, .string x.addr, .int .i64 x.len, .int .u32 x.id, .int .u32 x.label] 47)).heap.size) := HB3.out.size
        go_wp2_with (with_reducible show wpList _ _ _ (_ :: _) _ _; refine wpList_append_nl rfl (.tmp 26) (.tmp 28) rfl w.heap.size (.slice A L.length c) L rfl HO3 x (w2.heap.size + 1) rfl HC3 HL3 HS3 ?_)
        intro A4 c4 w4 HO4 HG4
        have HB4 : Hid (Below w.heap.size w w4) := OwnM.below_grown HO3.out HG4.out HB3.out HS3.out (Nat.le_refl _)
        have hl4 : (L ++ [x]).length = L.length + 1 := by rw [List.length_append]; rfl
        clear HO2 HB2 HO3 HB3 HC3 HL3 HS3 HG4
        go_wp2_with fail
        have hlt := HLT.out
        have hsz : (t.extract k t.size).size = t.size - k := by rw [ByteArray.size_extract]; omega
        exact ⟨⟨A4, c4, L ++ [x], t.extract k t.size, n - 1, rfl, by rw [hl4], by rw [hl4, hsz]; omega, HO4, HB4, HOK⟩, by show (t.extract k t.size).size < t.size; omega⟩
set_option maxHeartbeats 4000000 in
theorem rhas_any (A : Option Addr) (cap : Nat) (l : List Int) (n : Int) (w : World) (h : IntAt w A cap l) :
    Calls Try.prog 45 #[.slice A l.length cap, .int .i64 n] w fun e w' => e = .returned (.bool (hasI l n)) ∧ w' = w := by
  have HR := Lib.hid h
  have hl := h.len
  have hc : cap ≤ 9223372036854775807 := h.cap
  clear h
  go_enter Try.func45, Try.ntmps45
  go_wp2_with fail
  go_loopw [5] (fun i wr => ∃ k : Nat, k ≤ l.length ∧ i = .int .i64 k ∧ hasI (l.take k) n = false ∧ wr = w) (fun i _ => l.length + 1 - (intOf i).toNat)
  case atStart => exact ⟨0, by omega, rfl, rfl, rfl⟩
  case round =>
    obtain ⟨k, hk, rfl, hno, hwr⟩ := hrel
    subst hwr
    have HNO := Lib.hid hno
    clear hno
    by_cases hlt : k < l.length
    · obtain ⟨x, hx⟩ : ∃ x, l[k]? = some x := ⟨l[k], List.getElem?_eq_getElem hlt⟩
      obtain ⟨b, off, rfl, hb, hcall⟩ := HR.out.rd (by omega)
      have hcell := hcall k x hx
      clear hcall
      have HX := Lib.hid hx
      clear hx
      by_cases he : x = n
      · have hq : (x == n) = true := by rw [he]; simp
        have HY := Lib.hid (hasI_yes HX.out he)
        clear he
        go_wp2_with fail
        go_ret
        exact ⟨ret_bool HY.out.symm, rfl⟩
      · have hq : (x == n) = false := beq_eq_false_iff_ne.2 he
        have HY : Hid (hasI (l.take (k + 1)) n = false) := by
          show _ = _
          rw [hasI_take n HX.out, HNO.out, hq]
          rfl
        clear he
        go_wp2_with fail
        exact ⟨⟨k + 1, by omega, by go_num, HY.out, by trivial⟩, by simp [intOf]; omega⟩
    · obtain rfl : k = l.length := by omega
      rw [List.take_length] at HNO
      go_wp2_with fail
      go_ret
      exact ⟨ret_bool HNO.out.symm, rfl⟩
/-- the document's pair -/
def pairR (s : ByteArray) : Value := if s.size < 3 then .tuple #[.int .i64 0, .int .i64 4] else if pairF s = 0 then .tuple #[.int .i64 0, .int .i64 5] else .tuple #[.int .i64 (pairF s), .int .i64 0]
set_option maxRecDepth 100000 in
set_option maxHeartbeats 4000000 in
theorem rpair_any (s : ByteArray) (w : World) (hm : s.size ≤ 1100000) : Calls Try.prog 43 #[.string s] w fun e w' => e = .returned (pairR s) ∧ ∃ q, w' = w.drewN q := by
  by_cases h3 : s.size < 3
  · have HR : Hid (pairR s = .tuple #[.int .i64 0, .int .i64 4]) := if_pos h3
    have h3i : (s.size : Int) < 3 := by omega
    clear h3
    go_enter Try.func43, Try.ntmps43
    go_wp2_with fail
    go_ret2
    exact ⟨ret_val HR.out.symm, 0, rfl⟩
  have hl : s.data.toList.length = s.size := by rw [Array.length_toList]; rfl
  obtain ⟨y, hy⟩ : ∃ y, s.data.toList[2]? = some y := ⟨s.data.toList[2], List.getElem?_eq_getElem (by omega)⟩
  have iY : ∀ w, (Instr.index 9 (.string s) (.int .i64 2)).run Try.prog w = .ok (.int .u8 (y.toNat : Nat)) w := fun w => run_index_str w s 2 y hy rfl
  obtain ⟨z, hz⟩ : ∃ z, z = beVal (s.data.toList.take 2) := ⟨_, rfl⟩
  have hzl : z < 65536 := by
    rw [hz]
    exact beVal_lt _ 2 (by rw [List.length_take]; omega)
  have hyl := y.toNat_lt
  have HV : Hid (∀ w, Calls Try.prog 60 #[.string (s.extract 0 2)] w fun e w' => e = .returned (.int .u64 (z : Nat)) ∧ w' = w) := fun w => by
    have h := rvalue_any (s.extract 0 2) w (by rw [ByteArray.size_extract]; omega)
    rw [ext_bts, bts_list, ← hz] at h
    rwa [ext_bts]
  have HP : Hid (famOf (z : Nat) (y.toNat : Nat) = pairF s) := by
    show _ = _
    unfold pairF
    have e : (s.extract 2 s.size).data.toList.take 1 = [y] := by
      have h := bts_extract s.data.toList 2 s.size
      rw [bts_self] at h
      rw [h, bts_list, List.take_take, Nat.min_eq_left (by omega), List.take_one, List.head?_drop, hy]
      rfl
    rw [e, beVal_one, hz]
  have HF : Hid (∀ w, Calls Try.prog 12 #[.int .u16 (z : Nat), .int .u8 (y.toNat : Nat)] w fun e w' => e = .returned (.int .i64 (pairF s)) ∧ w' = w) := fun w => by
    rw [← HP.out]
    exact rfam_any _ _ w
  have HR : Hid (pairR s = if pairF s = 0 then .tuple #[.int .i64 0, .int .i64 5] else .tuple #[.int .i64 (pairF s), .int .i64 0]) := if_neg h3
  have h3i : ¬ (s.size : Int) < 3 := by omega
  have h3n : 2 ≤ s.size := by omega
  have h3m : (2 : Int) ≤ s.size := by omega
  clear h3 hz hy hl HP
  generalize pairF s = pf at HF HR
  go_enter Try.func43, Try.ntmps43
  go_wp2_with fail
  refine wp_region_held_drew (S := fun w' => Below w.heap.size w w') (by kernel_rfl) (below_drewN (Below.refl _ _) 1) (fun hHeld => ?_)
  refine wpAnyH_take (i := 0) (oi := qO0) (v := ?_) rfl (by kernel_rfl) (by kernel_rfl) (by kernel_rfl) (fun _ _ _ h => h) (Or.inl ⟨by rfl, ?_⟩) hHeld ?_
  rotate_left
  · intro w hSw
    clear hSw
    try dsimp only [qO0]
    go_simp
    try with_reducible rfl
  try simp only [qO0, Act.put, List.setIfInBounds_toArray, List.set_cons_zero, List.set_cons_succ]
  refine wpAnyH_take (i := 1) (oi := qO1) (v := .string (s.extract 0 2)) rfl (by kernel_rfl) (by kernel_rfl) (by kernel_rfl) (fun _ _ _ h => h) (Or.inl ⟨by rfl, ?_⟩) hHeld ?_
  · intro w hSw
    clear hSw
    try dsimp only [qO1]
    go_simp
    try rfl
  try simp only [qO1, Act.put, List.setIfInBounds_toArray, List.set_cons_zero, List.set_cons_succ]
  refine wpAnyH_take (i := 4) (oi := qO4) (v := ?_) rfl (by kernel_rfl) (by kernel_rfl) (by kernel_rfl) (fun _ _ _ h => h) (Or.inl ⟨by rfl, ?_⟩) hHeld ?_
  rotate_left
  · intro w hSw
    clear hSw
    try dsimp only [qO4]
    go_simp
    try with_reducible rfl
  try simp only [qO4, Act.put, List.setIfInBounds_toArray, List.set_cons_zero, List.set_cons_succ]
  refine wpAnyH_take (i := 5) (oi := qO5) (v := .int .u8 (y.toNat : Nat)) rfl (by kernel_rfl) (by kernel_rfl) (by kernel_rfl) (fun _ _ _ h => h) (Or.inl ⟨by rfl, ?_⟩) hHeld ?_
  · intro w hSw
    clear hSw
    try dsimp only [qO5]
    go_simp
    try rfl
  try simp only [qO5, Act.put, List.setIfInBounds_toArray, List.set_cons_zero, List.set_cons_succ]
  refine wpAnyH_ready (rs := [2]) (by as_aux_lemma => kernel_rfl) (by simp) ?_
  refine AllReadyH.cons (o := qO2) rfl (fun K hK => ?_) AllReadyH.nil
  dsimp only [qO2]
  go_simp
  refine (HV.out _).mono ?_
  rintro e u1 ⟨rfl, hw⟩
  rw [hw]
  clear hw
  go_wp2_with fail
  refine hK.out _ _ hHeld (fun hHeld => ?_)
  clear hK K
  try simp only [Act.put, List.setIfInBounds_toArray, List.set_cons_zero, List.set_cons_succ]
  refine wpAnyH_take (i := 3) (oi := qO3) (v := .int .u16 (z : Nat)) rfl (by kernel_rfl) (by kernel_rfl) (by kernel_rfl) (fun _ _ _ h => h) (Or.inl ⟨by rfl, ?_⟩) hHeld ?_
  · intro w hSw
    clear hSw
    try dsimp only [qO3]
    go_simp
    try exact IntWalk.u16_in _ (by omega)
  try simp only [qO3, Act.put, List.setIfInBounds_toArray, List.set_cons_zero, List.set_cons_succ]
  refine wpAnyH_ready (rs := [6]) (by as_aux_lemma => kernel_rfl) (by simp) ?_
  refine AllReadyH.cons (o := qO6) rfl (fun K hK => ?_) AllReadyH.nil
  dsimp only [qO6]
  go_simp
  refine (HF.out _).mono ?_
  rintro e u2 ⟨rfl, hw⟩
  rw [hw]
  clear hw
  go_wp2_with fail
  refine hK.out _ _ hHeld (fun hHeld => ?_)
  clear hK K
  try simp only [Act.put, List.setIfInBounds_toArray, List.set_cons_zero, List.set_cons_succ]
  refine wpAnyH_take (i := 7) (oi := qO7) (v := ?_) rfl (by kernel_rfl) (by kernel_rfl) (by kernel_rfl) (fun _ _ _ h => h) (Or.inl ⟨by rfl, ?_⟩) hHeld ?_
  rotate_left
  · intro w hSw
    clear hSw
    try dsimp only [qO7]
    go_simp
    try with_reducible rfl
  try simp only [qO7, Act.put, List.setIfInBounds_toArray, List.set_cons_zero, List.set_cons_succ]
  refine wpAnyH_done (by as_aux_lemma => kernel_rfl) ?_ _
  clear hHeld iY
  by_cases hp : pf = 0
  · rw [if_pos hp] at HR
    subst hp
    go_wp2_with fail
    go_ret2
    exact ⟨ret_val HR.out.symm, 1, rfl⟩
  · rw [if_neg hp] at HR
    have hpb : (pf == 0) = false := beq_eq_false_iff_ne.2 hp
    go_wp2_with fail
    go_ret2
    exact ⟨ret_val HR.out.symm, 1, rfl⟩
end Go.Proofs.Ytocbacpbckejdaa
