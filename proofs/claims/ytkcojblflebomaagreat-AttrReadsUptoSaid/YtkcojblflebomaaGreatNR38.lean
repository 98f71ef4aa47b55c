/-
  Several texts in one.
-/
import Derived.Test.YtkcojblflebomaaGreatNR37
import Derived.StillTailTactics
set_option linter.unusedVariables false
set_option linter.unusedSimpArgs false
namespace Go.Proofs.YtkcojblflebomaaGreat
open Go.RowKit Go.MapKept Go.Shelf
open Go.Lib hiding intOf
open Go.Sort hiding Below

theorem step_more {α : Type} {F : α → List Value} {C by_ : Nat} {t e : TypeId} (ht : Tryz.prog.underlying t = some (.slice e)) (z : Value) (hi : (Tryz.prog.info? e).map (fun i => (i.zero, i.size, i.bytes)) = some (some z, C, by_)) (hzs : z.cells.size = C) (hC : 0 < C) (hF : ∀ a, (F a).length = C) (h1 : ∀ a, ∀ u ∈ F a, u.oneCell' = true)
    {ops : Array Oper} {o : Oper} {a : Act} {K : Act → World → Prop} {Q : Exit → Act → World → Prop} {E : Prop} {W : World} (hgd : o.guard = none) (s p : Operand) (ho : o.op = .call { callee := .builtin .append, args := #[s, p], argTypes := #[t, t] })
    (base : Nat) (A : Option Addr) (n c : Nat) (O : List α) (hn : n = O.length) (hs : a.eval s = .slice A n c) (hown : OwnL W base e C F (.slice A n c) O) (X : List α) (B : Option Addr) (m d : Nat) (hm : m = X.length) (hp : a.eval p = .slice B m d) (hr : Rd W B C (X.map F)) (hb : base ≤ W.heap.size) (hl : n + m ≤ maxLen) (hby : (n + m) * by_ ≤ 140737488355328)
    (h : ∀ A' c' w', Hid (OwnL w' base e C F (.slice A' (n + m) c') (O ++ X)) → Hid (W.grownBy w' (Value.slice A n c).ownBlock) → K (a.put o.dst (.slice A' (n + m) c')) w') : if Region.wanted o (yielded ops a.tmps) = true then Oper.wp Tryz.prog o a W K Q else E := by
  subst hn
  subst hm
  cases hin : Tryz.prog.info? e with
  | none => rw [hin] at hi; cases hi
  | some i0 =>
    rw [hin] at hi
    simp only [Option.map_some, Option.some.injEq, Prod.mk.injEq] at hi
    obtain ⟨hz0, hz1, hz2⟩ := hi
    refine step_append_m hgd s p t t ho base e i0 z C by_ ht hin hz0 hz1 hz2 hzs hC (.slice A O.length c) O.length (O.flatMap F) hs hown _ X.length _ hp (Rd.src ht hC hF h1 hr) hl hby hb ?_
    intro v' w5 hown5 hgr hat
    obtain ⟨A6, c6, rfl⟩ := hown5.form
    have h2 : OwnL w5 base e C F (.slice A6 (O.length + X.length) c6) (O ++ X) := by
      show OwnM _ _ _ _ _ _ _
      rw [List.length_append, List.flatMap_append]
      exact hown5
    exact h A6 c6 w5 h2 hgr
theorem asN_u32 {sz : Nat} (hz : 256 ^ sz ≤ 4294967296) : ∀ (k : Nat) (v : ByteArray), ∀ n ∈ asN sz k v, n < 4294967296
  | 0, v, n, h => by cases h
  | k + 1, v, n, h => by
    rcases List.mem_cons.1 h with rfl | h
    · exact Nat.lt_of_lt_of_le (hd_lt _ sz) hz
    · exact asN_u32 hz k _ n h
def strV : Value → Nat
  | .string s => s.size
  | _ => 0
theorem hd_at0 {t : ByteArray} (h : 0 < t.size) : hd t 1 = (t[0]'h).toNat := by
  have h1 : t.data.toList.length = t.size := rfl
  unfold hd
  cases e : t.data.toList with
  | nil => rw [e] at h1; simp at h1; omega
  | cons a r =>
    have e2 : t[0]'h = a := by
      show t.data[0] = a
      have h3 : t.data.toList[0]? = some a := by rw [e]; rfl
      have h4 : t.data[0]? = some a := by simpa using h3
      rw [Array.getElem?_eq_getElem h] at h4
      exact Option.some.inj h4
    rw [e2]
    simp [beVal]
theorem hd_at1 {t : ByteArray} (h : 1 < t.size) : hd (nx t 1) 1 = (t[1]'h).toNat := by
  have h1 : t.data.toList.length = t.size := rfl
  unfold hd
  rw [nx_list]
  have e : t.data.toList.drop 1 = (t[1]'h) :: t.data.toList.drop 2 := by
    rw [List.drop_eq_getElem_cons (by rw [h1]; exact h)]
    congr 1
  rw [e]
  simp [beVal]
theorem pd_short {sz : Nat} {t : ByteArray} (h : t.size < 2) : pdStep sz t = none := if_pos h
theorem nxN_cut (sz n : Nat) (t : ByteArray) : nxN sz n (nx (nx t 1) 1) = t.extract (2 + n * sz) t.size := by
  apply bytes_ext
  rw [nxN_list, nx_list, nx_list, List.drop_drop, List.drop_drop, ext_list, List.take_of_length_le]
  · congr 1
    omega
  · rw [List.length_drop]
    have h1 : t.data.toList.length = t.size := rfl
    omega
theorem pd_few {sz n : Nat} {t : ByteArray} (h2 : 2 ≤ t.size) (hn : hd (nx t 1) 1 = n) (h : t.size < 2 + n * sz) : pdStep sz t = none := by
  unfold pdStep
  rw [if_neg (by omega), hn, nx_size, nx_size, if_pos (by omega)]
theorem pd_some {sz n : Nat} {t : ByteArray} (h2 : 2 ≤ t.size) (hn : hd (nx t 1) 1 = n) (h : 2 + n * sz ≤ t.size) : pdStep sz t = some ((((hd t 1 : Nat) : Int), asN sz n (nx (nx t 1) 1)), t.extract (2 + n * sz) t.size) := by
  unfold pdStep
  rw [if_neg (by omega), hn, nx_size, nx_size, if_neg (by omega), nxN_cut]
theorem hd_mid (sz j : Nat) (t : ByteArray) : beVal (t.extract (2 + j * sz) (2 + (j + 1) * sz)).data.toList = hd (nxN sz j (nx (nx t 1) 1)) sz := by
  unfold hd
  rw [nxN_cut, ext_list, ext_list]
  have h1 : t.data.toList.length = t.size := rfl
  rw [List.take_take, show 2 + (j + 1) * sz - (2 + j * sz) = sz by rw [Nat.succ_mul]; omega]
  by_cases h : sz ≤ t.size - (2 + j * sz)
  · rw [Nat.min_eq_left h]
  · rw [Nat.min_eq_right (by omega), List.take_of_length_le (by rw [List.length_drop]; omega), List.take_of_length_le (by rw [List.length_drop]; omega)]
set_option maxRecDepth 100000 in
set_option maxHeartbeats 16000000 in
theorem rdecode_four (s : ByteArray) (w : World) (hm : s.size ≤ 1048576) :
    Calls Tryz.prog 118 #[.string s, .bool true] w fun e w' => PathPost w.heap.size (decP true s) w' e ∧ Below w.heap.size w w' := by
  have HCK := Lib.hid rpcheck_any
  have HNOb : Hid (∀ (L : List (Int × List Nat)) (t : ByteArray), pdA 4 s = (pdA 4 t).map (L ++ ·) → 0 < t.size → pdStep 4 t = none → decP true s = none) := fun L t h1 h2 h3 => decP_no (four := true) h1 h2 h3
  have HEND : Hid (∀ (L : List (Int × List Nat)) (t : ByteArray), pdA 4 s = (pdA 4 t).map (L ++ ·) → t.size = 0 → decP true s = if pathOk L = true then some L else none) := fun L t h1 h2 => decP_end (four := true) h1 h2
  generalize decP true s = res at HNOb HEND ⊢
  have HVA : Hid (∀ (j : Nat) (t : ByteArray) (W : World), Calls Tryz.prog 37 #[.string (t.extract (2 + j * 4) (2 + (j + 1) * 4))] W fun e w' => e = .returned (.int .u64 (hd (nxN 4 j (nx (nx t 1) 1)) 4 : Nat)) ∧ w' = W) := fun j t W => by
    have h := rvalue_any (t.extract (2 + j * 4) (2 + (j + 1) * 4)) W (by rw [ByteArray.size_extract]; omega)
    rwa [hd_mid] at h
  go_enter Tryz.func118, Tryz.ntmps118
  go_wp2_with fail
  go_loopw [0, 7, 8, 9, 10] (fun sv ov _ _ _ wr => ∃ (t : ByteArray) (A : Option Addr) (m c : Nat) (segs : List Sg), sv = .string t ∧ ov = .slice A m c ∧ Hid (m = segs.length) ∧ Hid (SegsO wr w.heap.size (.slice A m c) segs) ∧ Hid (pdA 4 s = (pdA 4 t).map (segs.map Sg.c ++ ·)) ∧ 2 * m + t.size ≤ s.size ∧ Hid (Below w.heap.size w wr)) (fun sv _ _ _ _ _ => strV sv)
  case atStart => exact ⟨s, none, 0, 0, [], rfl, rfl, rfl, SegsO.nil _ _, by show _ = _; simp, by omega, Below.refl _ _⟩
  case round =>
    obtain ⟨t, A, m, c, segs, rfl, rfl, HM, HO, HP, hts, HB⟩ := hrel
    by_cases h0 : 0 < t.size
    · by_cases h2 : t.size < 2
      · have HN : Hid (res = none) := HNOb.out _ _ HP.out h0 (pd_short h2)
        go_wp2_with fail
        go_ret2
        exact ⟨by rw [HN.out]; rfl, HB.out⟩
      · have h1 : 1 < t.size := by omega
        have h00 : (0 : Int) < (t.size : Int) := by omega
        obtain ⟨n, hn⟩ : ∃ n, (t[1]'h1).toNat = n := ⟨_, rfl⟩
        obtain ⟨kd, hkd⟩ : ∃ kd, (t[0]'h0).toNat = kd := ⟨_, rfl⟩
        have hn8 : n < 256 := by rw [← hn]; exact (t[1]'h1).toNat_lt
        have hk8 : kd < 256 := by rw [← hkd]; exact (t[0]'h0).toNat_lt
        have HN1 : Hid (hd (nx t 1) 1 = n) := by show _ = _; rw [hd_at1 h1, hn]
        have HK1 : Hid (hd t 1 = kd) := by show _ = _; rw [hd_at0 h0, hkd]
        have htz : (t.size : Int) ≤ 1048576 := by omega
        by_cases hfew : t.size < 2 + n * 4
        · have HN : Hid (res = none) := HNOb.out _ _ HP.out h0 (pd_few (by omega) HN1.out hfew)
          have hfew' : (t.size : Int) < 2 + (n : Int) * 4 := by omega
          clear hfew
          go_wp2_with fail
          go_ret2
          exact ⟨by rw [HN.out]; rfl, HB.out⟩
        · have hfew' : ¬ (t.size : Int) < 2 + (n : Int) * 4 := by omega
          have hge : 2 + n * 4 ≤ t.size := by omega
          have HPD := Lib.hid (pd_some (sz := 4) (by omega) HN1.out hge)
          rw [HK1.out] at HPD
          obtain ⟨T2, hT2⟩ : ∃ T2, T2 = nx (nx t 1) 1 := ⟨_, rfl⟩
          have HVB : Hid (∀ (j : Nat) (W : World), Calls Tryz.prog 37 #[.string (t.extract (2 + j * 4) (2 + (j + 1) * 4))] W fun e w' => e = .returned (.int .u64 (hd (nxN 4 j T2) 4 : Nat)) ∧ w' = W) := fun j W => by rw [hT2]; exact HVA.out j t W
          rw [← hT2] at HPD
          have hno : decide ((t.size : Int) < 2 + (n : Int) * 4) = false := decide_eq_false hfew'
          clear hfew hT2 HN1 HK1
          go_upto_region 11 with fail
          go_upto_region 12 with fail
          refine wp_name fun V hV => ?_
          obtain ⟨g, hg⟩ : ∃ g, g = wr.heap.size := ⟨_, rfl⟩
          have HCV : Hid (CellsAt V g #[.int .i64 (kd : Nat), .slice none 0 0] 61) := by rw [hV, hg]; exact CellsAt.new _ _ _
          have HOV : Hid (∀ X : World, (∀ i, i < g → X.heap[i]? = V.heap[i]?) → SegsO X w.heap.size (.slice A m c) segs) := fun X h => HO.out.keep (fun i _ hi => (h i (by rw [hg]; exact hi)).trans (by rw [hV]; exact Below.heap_alloc _ _ _ hi))
          have HBV : Hid (Below w.heap.size w V) := by rw [hV]; exact HB.out.alloc HB.out.size _
          have hgV : g + 1 ≤ V.heap.size := by rw [hV, hg]; simp
          have hwg : w.heap.size ≤ g := by rw [hg]; exact HB.out.size
          rw [← hg]
          clear hV hg HO HB hn hkd
          go_wp2_with fail
          go_loopw [10] (fun i wq => ∃ (j : Nat) (A2 : Option Addr) (c2 : Nat), i = .int .i64 j ∧ j ≤ n ∧ Hid (CellsAt wq g #[.int .i64 (kd : Nat), .slice A2 j c2] 61) ∧ Hid (OwnL wq (g + 1) 35 1 u1 (.slice A2 j c2) (asN 4 j T2)) ∧ Hid (Below w.heap.size w wq) ∧ g + 1 ≤ wq.heap.size ∧ Hid (∀ i, i < g → wq.heap[i]? = V.heap[i]?)) (fun i _ => n + 1 - (intOf i).toNat)
          case atStart => exact ⟨0, none, 0, rfl, by omega, HCV.out, OwnL.nil _ _ _ _ _, HBV.out, hgV, fun _ _ => rfl⟩
          case round =>
            clear HCV HBV hgV
            obtain ⟨j, A2, c2, rfl, hj, HC, HA, HB, hgq, HOX⟩ := hrel
            by_cases hlt : j < n
            · have e1 := (HC.out.c 1).trans (show (#[Value.int .i64 (kd : Nat), .slice A2 j c2] : Array Value)[1]? = some (.slice A2 j c2) from rfl)
              obtain ⟨x, hx⟩ : ∃ x, x = hd (nxN 4 j T2) 4 := ⟨_, rfl⟩
              have hx4 : x < 4294967296 := by rw [hx]; exact Nat.lt_of_lt_of_le (hd_lt _ 4) (by decide)
              have HVC : Hid (∀ W : World, Calls Tryz.prog 37 #[.string (t.extract (2 + j * 4) (2 + (j + 1) * 4))] W fun e w' => e = .returned (.int .u64 (x : Nat)) ∧ w' = W) := fun W => by rw [hx]; exact HVB.out j W
              have hzx : IntKind.u32.wrap ((x : Nat) : Int) = ((x : Nat) : Int) := by rw [IntKind.wrap_u32]; omega
              have HAS : Hid (asN 4 (j + 1) T2 = asN 4 j T2 ++ [x]) := by show _ = _; rw [asN_succ, hx]
              have hb1 : (2 : Int) + ((j : Int) + 1) * 4 ≤ (t.size : Int) := by omega
              clear hx
              go_upto_region 15 with fail
              obtain ⟨a, ha⟩ : ∃ a, a = 2 + j * 4 := ⟨_, rfl⟩
              obtain ⟨b, hbq⟩ : ∃ b, b = 2 + (j + 1) * 4 := ⟨_, rfl⟩
              obtain ⟨z1, hz1⟩ : ∃ z, z = (j : Int) * 4 := ⟨_, rfl⟩
              obtain ⟨z3, hz3⟩ : ∃ z, z = (j : Int) + 1 := ⟨_, rfl⟩
              obtain ⟨z4, hz4⟩ : ∃ z, z = z3 * 4 := ⟨_, rfl⟩
              have v1 : IntKind.i64.wrap ((j : Int) * 4) = z1 := by rw [hz1]; exact IntWalk.i64_in _ (by omega)
              have v2 : IntKind.i64.wrap (2 + z1) = (a : Nat) := by rw [hz1, ha]; rw [IntWalk.i64_in _ (by omega)]; omega
              have v3 : IntKind.i64.wrap ((j : Int) + 1) = z3 := by rw [hz3]; exact IntWalk.i64_in _ (by omega)
              have v4 : IntKind.i64.wrap (z3 * 4) = z4 := by rw [hz4, hz3]; exact IntWalk.i64_in _ (by omega)
              have v5 : IntKind.i64.wrap (2 + z4) = (b : Nat) := by rw [hz4, hz3, hbq]; rw [IntWalk.i64_in _ (by omega)]; omega
              have hab : (a : Int) ≤ (b : Int) := by omega
              have hbt : (b : Int) ≤ (t.size : Int) := by omega
              have ha0 : (0 : Int) ≤ (a : Int) := by omega
              rw [← ha, ← hbq] at HVC
              have HZ3 := Lib.hid hz3
              clear ha hbq hz1 hz3 hz4
              have HA2 : Hid (OwnL (wr.drew.alloc (.cells #[.int .u32 (x : Nat)] 35)) (g + 1) 35 1 u1 (.slice A2 j c2) (asN 4 j T2)) := OwnL.alloc (show OwnL wr.drew _ _ _ _ _ _ from HA.out) _
              have HCB : Hid (CellsAt (wr.drew.alloc (.cells #[.int .u32 (x : Nat)] 35)) wr.heap.size #[.int .u32 (x : Nat)] 35) := CellsAt.new wr.drew _ _
              have HRB : Hid (Rd (wr.drew.alloc (.cells #[.int .u32 (x : Nat)] 35)) (some ⟨wr.heap.size, 0, none⟩) 1 ([x].map u1)) := rd_new1 HCB.out rfl
              have hga : g + 1 ≤ (wr.drew.alloc (.cells #[.int .u32 (x : Nat)] 35)).heap.size := by simp; omega
              have HLA : Hid (j = (asN 4 j T2).length) := (asN_len 4 j T2).symm
              clear HA
              refine wp_region_U (fun i => i == 18) (fun w' => CellsAt w' g #[.int .i64 (kd : Nat), .slice A2 j c2] 61 ∧ Below w.heap.size w w') (by kernel_rfl) (⟨HC.out.drew 1, below_drewN HB.out 1⟩) (fun hHeld => ?_)
              refine wpAnyU_takeP (i := 0) (oi := { dst := some 37, op := Op.fieldAddr 61 (Operand.tmp 9) 1, type := 0, pos := "ref.go:171", after := #[], guard := none }) (v := ?_) rfl (by rfl) (by kernel_rfl) (by kernel_rfl) (by kernel_rfl) (fun _ _ _ h => h) (Or.inl ⟨by rfl, ?_⟩) hHeld ?_
              rotate_left
              · intro w hSw
                clear hSw
                go_simp
                try with_reducible rfl
              try simp only [Act.put, List.setIfInBounds_toArray, List.set_cons_zero, List.set_cons_succ]
              refine wpAnyU_take (i := 1) (oi := { dst := some 38, op := Op.load 36 (Operand.tmp 37), type := 36, pos := "ref.go:171", after := #[{ on := 0, ground := Ground.data }], guard := none }) (v := ?_) rfl (by rfl) (by kernel_rfl) (by kernel_rfl) (by kernel_rfl) (by kernel_rfl) (fun _ _ _ h => h) (Or.inl ⟨by rfl, ?_⟩) hHeld ?_
              rotate_left
              · intro w hSw
                obtain ⟨e1, _⟩ := hSw
                replace e1 := (e1.c 1).trans (show (#[Value.int .i64 (kd : Nat), .slice A2 j c2] : Array Value)[1]? = some (.slice A2 j c2) from rfl)
                go_simp
                try with_reducible rfl
              try simp only [Act.put, List.setIfInBounds_toArray, List.set_cons_zero, List.set_cons_succ]
              refine wpAnyU_takeP (i := 2) (oi := { dst := some 39, op := Op.move (Operand.tmp 0), type := 9, pos := "ref.go:171", after := #[], guard := none }) (v := ?_) rfl (by rfl) (by kernel_rfl) (by kernel_rfl) (by kernel_rfl) (fun _ _ _ h => h) (Or.inl ⟨by rfl, ?_⟩) hHeld ?_
              rotate_left
              · intro w hSw
                clear hSw
                go_simp
                try with_reducible rfl
              try simp only [Act.put, List.setIfInBounds_toArray, List.set_cons_zero, List.set_cons_succ]
              refine wpAnyU_takeP (i := 3) (oi := { dst := some 40, op := Op.move (Operand.tmp 10), type := 3, pos := "ref.go:171", after := #[], guard := none }) (v := ?_) rfl (by rfl) (by kernel_rfl) (by kernel_rfl) (by kernel_rfl) (fun _ _ _ h => h) (Or.inl ⟨by rfl, ?_⟩) hHeld ?_
              rotate_left
              · intro w hSw
                clear hSw
                go_simp
                try with_reducible rfl
              try simp only [Act.put, List.setIfInBounds_toArray, List.set_cons_zero, List.set_cons_succ]
              refine wpAnyU_takeP (i := 4) (oi := { dst := some 41, op := Op.move (Operand.tmp 6), type := 3, pos := "ref.go:171", after := #[], guard := none }) (v := ?_) rfl (by rfl) (by kernel_rfl) (by kernel_rfl) (by kernel_rfl) (fun _ _ _ h => h) (Or.inl ⟨by rfl, ?_⟩) hHeld ?_
              rotate_left
              · intro w hSw
                clear hSw
                go_simp
                try with_reducible rfl
              try simp only [Act.put, List.setIfInBounds_toArray, List.set_cons_zero, List.set_cons_succ]
              refine wpAnyU_takeP (i := 5) (oi := { dst := some 42, op := Op.binOp BinOp.mul 3 (Operand.tmp 40) (Operand.tmp 41) 3, type := 3, pos := "ref.go:171", after := #[{ on := 3, ground := Ground.data }, { on := 4, ground := Ground.data }], guard := none }) (v := ?_) rfl (by rfl) (by kernel_rfl) (by kernel_rfl) (by kernel_rfl) (fun _ _ _ h => h) (Or.inl ⟨by rfl, ?_⟩) hHeld ?_
              rotate_left
              · intro w hSw
                clear hSw
                go_simp
                try with_reducible rfl
              try simp only [Act.put, List.setIfInBounds_toArray, List.set_cons_zero, List.set_cons_succ]
              refine wpAnyU_takeP (i := 6) (oi := { dst := some 43, op := Op.binOp BinOp.add 3 (Operand.const (Value.int IntKind.i64 2)) (Operand.tmp 42) 3, type := 3, pos := "ref.go:171", after := #[{ on := 5, ground := Ground.data }], guard := none }) (v := ?_) rfl (by rfl) (by kernel_rfl) (by kernel_rfl) (by kernel_rfl) (fun _ _ _ h => h) (Or.inl ⟨by rfl, ?_⟩) hHeld ?_
              rotate_left
              · intro w hSw
                clear hSw
                go_simp
                try with_reducible rfl
              try simp only [Act.put, List.setIfInBounds_toArray, List.set_cons_zero, List.set_cons_succ]
              refine wpAnyU_takeP (i := 7) (oi := { dst := some 44, op := Op.move (Operand.tmp 10), type := 3, pos := "ref.go:171", after := #[], guard := none }) (v := ?_) rfl (by rfl) (by kernel_rfl) (by kernel_rfl) (by kernel_rfl) (fun _ _ _ h => h) (Or.inl ⟨by rfl, ?_⟩) hHeld ?_
              rotate_left
              · intro w hSw
                clear hSw
                go_simp
                try with_reducible rfl
              try simp only [Act.put, List.setIfInBounds_toArray, List.set_cons_zero, List.set_cons_succ]
              refine wpAnyU_takeP (i := 8) (oi := { dst := some 45, op := Op.binOp BinOp.add 3 (Operand.tmp 44) (Operand.const (Value.int IntKind.i64 1)) 3, type := 3, pos := "ref.go:171", after := #[{ on := 7, ground := Ground.data }], guard := none }) (v := ?_) rfl (by rfl) (by kernel_rfl) (by kernel_rfl) (by kernel_rfl) (fun _ _ _ h => h) (Or.inl ⟨by rfl, ?_⟩) hHeld ?_
              rotate_left
              · intro w hSw
                clear hSw
                go_simp
                try with_reducible rfl
              try simp only [Act.put, List.setIfInBounds_toArray, List.set_cons_zero, List.set_cons_succ]
              refine wpAnyU_takeP (i := 9) (oi := { dst := some 46, op := Op.move (Operand.tmp 6), type := 3, pos := "ref.go:171", after := #[], guard := none }) (v := ?_) rfl (by rfl) (by kernel_rfl) (by kernel_rfl) (by kernel_rfl) (fun _ _ _ h => h) (Or.inl ⟨by rfl, ?_⟩) hHeld ?_
              rotate_left
              · intro w hSw
                clear hSw
                go_simp
                try with_reducible rfl
              try simp only [Act.put, List.setIfInBounds_toArray, List.set_cons_zero, List.set_cons_succ]
              refine wpAnyU_takeP (i := 10) (oi := { dst := some 47, op := Op.binOp BinOp.mul 3 (Operand.tmp 45) (Operand.tmp 46) 3, type := 3, pos := "ref.go:171", after := #[{ on := 8, ground := Ground.data }, { on := 9, ground := Ground.data }], guard := none }) (v := ?_) rfl (by rfl) (by kernel_rfl) (by kernel_rfl) (by kernel_rfl) (fun _ _ _ h => h) (Or.inl ⟨by rfl, ?_⟩) hHeld ?_
              rotate_left
              · intro w hSw
                clear hSw
                go_simp
                try with_reducible rfl
              try simp only [Act.put, List.setIfInBounds_toArray, List.set_cons_zero, List.set_cons_succ]
              refine wpAnyU_takeP (i := 11) (oi := { dst := some 48, op := Op.binOp BinOp.add 3 (Operand.const (Value.int IntKind.i64 2)) (Operand.tmp 47) 3, type := 3, pos := "ref.go:171", after := #[{ on := 10, ground := Ground.data }], guard := none }) (v := ?_) rfl (by rfl) (by kernel_rfl) (by kernel_rfl) (by kernel_rfl) (fun _ _ _ h => h) (Or.inl ⟨by rfl, ?_⟩) hHeld ?_
              rotate_left
              · intro w hSw
                clear hSw
                go_simp
                try with_reducible rfl
              try simp only [Act.put, List.setIfInBounds_toArray, List.set_cons_zero, List.set_cons_succ]
              refine wpAnyU_takeP (i := 12) (oi := { dst := some 49, op := Op.slice 9 (Operand.tmp 39) (some (Operand.tmp 43)) (some (Operand.tmp 48)) none, type := 9, pos := "ref.go:171", after := #[{ on := 2, ground := Ground.data }, { on := 6, ground := Ground.data }, { on := 11, ground := Ground.data }], guard := none }) (v := ?_) rfl (by rfl) (by kernel_rfl) (by kernel_rfl) (by kernel_rfl) (fun _ _ _ h => h) (Or.inl ⟨by rfl, ?_⟩) hHeld ?_
              rotate_left
              · intro w hSw
                clear hSw
                go_simp
                try with_reducible rfl
              try simp only [Act.put, List.setIfInBounds_toArray, List.set_cons_zero, List.set_cons_succ]
              refine wpAnyU_step (i := 13) (o := { dst := some 50, op := Op.call { callee := Callee.value (Operand.func 37), args := #[Operand.tmp 49], argTypes := #[9] }, type := 57, pos := "ref.go:171", after := #[{ on := 12, ground := Ground.data }], guard := none }) (by kernel_rfl) rfl (by rfl) (fun K hK => ?_)
              go_simp
              refine (HVC.out _).mono ?_
              rintro e w' ⟨rfl, rfl⟩
              refine hK.out _ _ (hHeld) (fun hHeld => ?_)
              clear hK K
              try simp only [Act.put, List.setIfInBounds_toArray, List.set_cons_zero, List.set_cons_succ]
              refine wpAnyU_takeP (i := 14) (oi := { dst := some 51, op := Op.convert 57 35 (Operand.tmp 50), type := 35, pos := "ref.go:171", after := #[{ on := 13, ground := Ground.data }], guard := none }) (v := ?_) rfl (by rfl) (by kernel_rfl) (by kernel_rfl) (by kernel_rfl) (fun _ _ _ h => h) (Or.inl ⟨by rfl, ?_⟩) hHeld ?_
              rotate_left
              · intro w hSw
                clear hSw
                go_simp
                try with_reducible rfl
              try simp only [Act.put, List.setIfInBounds_toArray, List.set_cons_zero, List.set_cons_succ]
              refine wpAnyU_step (i := 15) (o := { dst := some 52, op := Op.buildSlice 36 1 #[(0, Operand.tmp 51)], type := 36, pos := "ref.go:171", after := #[{ on := 14, ground := Ground.data }], guard := none }) (by kernel_rfl) rfl (by rfl) (fun K hK => ?_)
              go_simp
              skip
              refine hK.out _ _ (⟨hHeld.1.alloc _, hHeld.2.alloc hHeld.2.size _⟩) (fun hHeld => ?_)
              clear hK K
              try simp only [Act.put, List.setIfInBounds_toArray, List.set_cons_zero, List.set_cons_succ]
              refine wpAnyU_step (i := 16) (o := { dst := some 53, op := Op.call { callee := Callee.builtin Builtin.append, args := #[Operand.tmp 38, Operand.tmp 52], argTypes := #[36, 36] }, type := 36, pos := "ref.go:171", after := #[{ on := 1, ground := Ground.data }, { on := 15, ground := Ground.data }, { on := 13, ground := Ground.chain }], guard := none }) (by kernel_rfl) rfl (by rfl) (fun K hK => ?_)
              refine step_more Tryz.underlying36 _ infoU32 rfl (by decide) u1_len u1_ones rfl (.tmp 38) (.tmp 52) rfl (g + 1) A2 j c2 (asN 4 j T2) HLA.out rfl HA2.out [x] (some ⟨wr.heap.size, 0, none⟩) 1 1 rfl rfl HRB.out hga (by unfold maxLen; omega) (by omega) ?_
              intro A5 c5 w5 HA5 HG5
              have hob : ∀ q, (Value.slice A2 j c2).ownBlock = some q → g + 1 ≤ q := fun q hq => (OwnM.lt HA2.out q hq).1
              have HC5 : Hid (CellsAt w5 g #[.int .i64 (kd : Nat), .slice A2 j c2] 61) := hHeld.1.own HG5.out (fun e => by have := hob _ e.symm; omega)
              have HB5 : Hid (Below w.heap.size w w5) := hHeld.2.grown HG5.out hHeld.2.size (fun q hq => by have := hob q hq; omega)
              have ec := (HC5.out.c 1).trans (show (#[Value.int .i64 (kd : Nat), .slice A2 j c2] : Array Value)[1]? = some (.slice A2 j c2) from rfl)
              have ef := HC5.out.unfrozen 1
              refine hK.out _ _ (⟨HC5.out, HB5.out⟩) (fun hHeld => ?_)
              clear hK K
              try simp only [Act.put, List.setIfInBounds_toArray, List.set_cons_zero, List.set_cons_succ]
              refine wpAnyU_takeP (i := 17) (oi := { dst := some 54, op := Op.fieldAddr 61 (Operand.tmp 9) 1, type := 0, pos := "ref.go:171", after := #[{ on := 0, ground := Ground.phase }, { on := 1, ground := Ground.phase }, { on := 2, ground := Ground.phase }, { on := 3, ground := Ground.phase }, { on := 4, ground := Ground.phase }, { on := 5, ground := Ground.phase }, { on := 6, ground := Ground.phase }, { on := 7, ground := Ground.phase }, { on := 8, ground := Ground.phase }, { on := 9, ground := Ground.phase }, { on := 10, ground := Ground.phase }, { on := 11, ground := Ground.phase }, { on := 12, ground := Ground.phase }, { on := 13, ground := Ground.phase }, { on := 14, ground := Ground.phase }, { on := 15, ground := Ground.phase }, { on := 16, ground := Ground.phase }], guard := none }) (v := ?_) rfl (by rfl) (by kernel_rfl) (by kernel_rfl) (by kernel_rfl) (fun _ _ _ h => h) (Or.inl ⟨by rfl, ?_⟩) hHeld ?_
              rotate_left
              · intro w hSw
                clear hSw
                go_simp
                try with_reducible rfl
              try simp only [Act.put, List.setIfInBounds_toArray, List.set_cons_zero, List.set_cons_succ]
              refine wpAnyU_last (i := 18) (o := { dst := none, op := Op.store 36 (Operand.tmp 54) (Operand.tmp 53), type := 0, pos := "ref.go:171", after := #[{ on := 17, ground := Ground.data }, { on := 16, ground := Ground.data }, { on := 16, ground := Ground.chain }, { on := 0, ground := Ground.phase }, { on := 1, ground := Ground.phase }, { on := 2, ground := Ground.phase }, { on := 3, ground := Ground.phase }, { on := 4, ground := Ground.phase }, { on := 5, ground := Ground.phase }, { on := 6, ground := Ground.phase }, { on := 7, ground := Ground.phase }, { on := 8, ground := Ground.phase }, { on := 9, ground := Ground.phase }, { on := 10, ground := Ground.phase }, { on := 11, ground := Ground.phase }, { on := 12, ground := Ground.phase }, { on := 13, ground := Ground.phase }, { on := 14, ground := Ground.phase }, { on := 15, ground := Ground.phase }, { on := 16, ground := Ground.phase }], guard := none }) (by kernel_rfl) rfl (by rfl) (fun K hK => ?_)
              go_simp
              skip
              refine hK.out _ _ ?_
              clear hK K
              try simp only [Act.put, List.setIfInBounds_toArray, List.set_cons_zero, List.set_cons_succ]
              refine wpAnyU_done (by kernel_rfl) ?_ _
              have HAS2 : Hid (OwnL (w5.setCell ⟨g, 1, none⟩ (.slice A5 (j + 1) c5)) (g + 1) 35 1 u1 (.slice A5 (j + 1) c5) (asN 4 (j + 1) T2)) := by
                show OwnL _ _ _ _ _ _ _
                rw [HAS.out]
                exact OwnM.setCell HA5.out (p := ⟨g, 1, none⟩) (fun q hq => by have h1 := (OwnM.lt HA5.out q hq).1; show q ≠ g; omega) _
              have HCS2 : Hid (CellsAt (w5.setCell ⟨g, 1, none⟩ (.slice A5 (j + 1) c5)) g #[.int .i64 (kd : Nat), .slice A5 (j + 1) c5] 61) := CellsAt.set2 HC5.out
              have HOS2 : Hid (∀ i, i < g → (w5.setCell ⟨g, 1, none⟩ (.slice A5 (j + 1) c5)).heap[i]? = V.heap[i]?) := fun i hi => ((Below.heap_setCell w5 ⟨g, 1, none⟩ _ i (by show i ≠ g; omega)).trans ((HG5.out.block i (by simp; omega) (fun e => by have := hob i e.symm; omega)).trans (Below.heap_alloc wr.drew _ i (by show i < wr.heap.size; omega)))).trans (HOX.out i hi)
              have HBS2 : Hid (Below w.heap.size w (w5.setCell ⟨g, 1, none⟩ (.slice A5 (j + 1) c5))) := HB5.out.setCell hwg _
              have hgs2 : g + 1 ≤ w5.heap.size := Nat.le_trans hga HG5.out.size
              clear HA5 HG5 HC5 HB5 HA2 HCB HRB ec ef HC HB HOX hob
              go_wp2_with fail
              exact ⟨⟨j + 1, A5, c5, by rw [show ((j + 1 : Nat) : Int) = z3 by rw [HZ3.out]; omega], by omega, HCS2.out, HAS2.out, HBS2.out, Nat.le_trans hgs2 (grown_setCell w5 ⟨g, 1, none⟩ (.slice A5 (j + 1) c5)).size, HOS2.out⟩, by have h1 := HZ3.out; simp [intOf]; omega⟩
            · obtain rfl : n = j := by omega
              have HSG := Lib.hid (HOV.out _ HOX.out)
              have e0 := (HC.out.c 0).trans (show (#[Value.int .i64 (kd : Nat), .slice A2 n c2] : Array Value)[0]? = some (.int .i64 (kd : Nat)) from rfl)
              have e1 := (HC.out.c 1).trans (show (#[Value.int .i64 (kd : Nat), .slice A2 n c2] : Array Value)[1]? = some (.slice A2 n c2) from rfl)
              have hwq := HB.out.size
              have HCB : Hid (CellsAt (wr.alloc (.cells #[.int .i64 (kd : Nat), .slice A2 n c2] 61)) wr.heap.size #[.int .i64 (kd : Nat), .slice A2 n c2] 61) := CellsAt.new _ _ _
              obtain ⟨sg, hsg⟩ : ∃ sg : Sg, sg = ⟨((kd : Nat) : Int), A2, asN 4 n T2, c2⟩ := ⟨_, rfl⟩
              have HRB : Hid (Rd (wr.alloc (.cells #[.int .i64 (kd : Nat), .slice A2 n c2] 61)) (some ⟨wr.heap.size, 0, none⟩) 2 ([sg].map Sg.cs)) := rd_new1 HCB.out (by rw [hsg]; show _ = #[Value.int .i64 (kd : Nat), .slice A2 (asN 4 n T2).length c2]; rw [asN_len])
              have HSa : Hid (SegsO (wr.alloc (.cells #[.int .i64 (kd : Nat), .slice A2 n c2] 61)) w.heap.size (.slice A m c) segs) := HSG.out.keep (fun i _ hi => Below.heap_alloc _ _ _ hi)
              have HAa : Hid (OwnL (wr.alloc (.cells #[.int .i64 (kd : Nat), .slice A2 n c2] 61)) (g + 1) 35 1 u1 (.slice A2 n c2) (asN 4 n T2)) := HA.out.alloc _
              have HBa : Hid (Below w.heap.size w (wr.alloc (.cells #[.int .i64 (kd : Nat), .slice A2 n c2] 61))) := HB.out.alloc HB.out.size _
              have hms : m ≤ 1048576 := by omega
              have HSGD := Lib.hid hsg
              clear hsg
              go_wp2_with (at_builtin; refine wpList_more Tryz.underlying34 _ infoSeg rfl (by decide) Sg.cs_len Sg.ones rfl (.tmp 55) (.tmp 57) rfl w.heap.size A m c segs HM.out rfl HSa.out.own [sg] (some ⟨wr.heap.size, 0, none⟩) 1 1 rfl rfl HRB.out HBa.out.size (by unfold maxLen; omega) (by omega) ?_)
              intro A5 c5 w5 HO5 HG5
              have HN5 : Hid (SegsO w5 w.heap.size (.slice A5 (m + 1) c5) (segs ++ [sg])) := ⟨HO5.out, fun q hq => by
                rcases List.mem_append.1 hq with hq | hq
                · obtain ⟨q1, q2⟩ := HSa.out.as_ q hq
                  exact ⟨OwnM.grown q1 HG5.out (own_ne q1 HSa.out.own (by decide)), q2⟩
                · rw [List.mem_singleton.1 hq, HSGD.out]
                  refine ⟨?_, asN_u32 (by decide) n T2, by show (-9223372036854775808 : Int) ≤ (kd : Nat); omega, by show ((kd : Nat) : Int) ≤ 9223372036854775807; omega⟩
                  show OwnL _ _ _ _ _ (.slice A2 (asN 4 n T2).length c2) _
                  rw [asN_len]
                  exact OwnM.lower (OwnM.grown HAa.out HG5.out (own_ne HAa.out HSa.out.own (by decide))) (by omega)⟩
              have HB5 : Hid (Below w.heap.size w w5) := OwnM.below_grown HSa.out.own HG5.out HBa.out HBa.out.size (Nat.le_refl _)
              have HM5 : Hid (m + 1 = (segs ++ [sg]).length) := by show _ = _; rw [List.length_append, ← HM.out]; rfl
              have HP5 : Hid (pdA 4 s = (pdA 4 (t.extract (2 + n * 4) t.size)).map ((segs ++ [sg]).map Sg.c ++ ·)) := by
                show _ = _
                rw [HP.out, pdA_step (by omega) HPD.out, Option.map_map, List.map_append, HSGD.out]
                congr 1
                funext r
                show segs.map Sg.c ++ (_ :: r) = _
                rw [List.append_assoc]
                rfl
              have hsz : (t.extract (2 + n * 4) t.size).size = t.size - (2 + n * 4) := by rw [ByteArray.size_extract]; omega
              have HSZ := Lib.hid hsz
              have hlo : (2 : Int) + (n : Int) * 4 ≤ (t.size : Int) := by omega
              clear HO5 HG5 HSa HAa HBa HRB HCB HSGD HSG e0 e1 HC HA HB HOV HOX HP HPD hsz
              go_wp2_with fail
              exact ⟨⟨t.extract (2 + n * 4) t.size, A5, m + 1, c5, segs ++ [sg], rfl, rfl, HM5.out, HN5.out, HP5.out, by rw [HSZ.out]; omega, HB5.out⟩, by show (t.extract (2 + n * 4) t.size).size < t.size; rw [HSZ.out]; omega⟩
    · have h00 : t.size = 0 := by omega
      have h01 : ¬ (0 : Int) < (t.size : Int) := by omega
      have HE := Lib.hid (HEND.out _ _ HP.out h00)
      have HOK : Hid (SegsOk wr A c segs) := by
        have h := HO.out
        rw [HM.out] at h
        exact h.ok
      have HCX : Hid (∀ W, SegsOk W A c segs → Calls Tryz.prog 64 #[.slice A m c] W fun e w' => e = .returned (.int .i64 (okN (pathOk (segs.map Sg.c)))) ∧ W = w') := fun W h => by
        have h2 := HCK.out A c segs W h
        rwa [← HM.out] at h2
      have HSO : Hid (SegsOwn wr w.heap.size (.slice A m c) (segs.map Sg.c)) := HO.out.segs
      clear h00 HO
      cases hpk : pathOk (segs.map Sg.c) with
      | true =>
        rw [hpk] at HCX HE
        have HE2 : Hid (res = some (segs.map Sg.c)) := HE.out
        clear HE hpk
        go_wp2_with fail
        refine (HCX.out _ HOK.out).mono ?_
        rintro e w' ⟨rfl, rfl⟩
        go_wp2_with fail
        go_ret2
        refine ⟨?_, HB.out⟩
        rw [HE2.out]
        exact ⟨_, rfl, HSO.out⟩
      | false =>
        rw [hpk] at HCX HE
        have HE2 : Hid (res = none) := HE.out
        clear HE hpk
        go_wp2_with fail
        refine (HCX.out _ HOK.out).mono ?_
        rintro e w' ⟨rfl, rfl⟩
        go_wp2_with fail
        go_ret2
        refine ⟨?_, HB.out⟩
        rw [HE2.out]
        rfl
set_option maxRecDepth 100000 in
set_option maxHeartbeats 16000000 in
theorem rdecode_two (s : ByteArray) (w : World) (hm : s.size ≤ 1048576) :
    Calls Tryz.prog 118 #[.string s, .bool false] w fun e w' => PathPost w.heap.size (decP false s) w' e ∧ Below w.heap.size w w' := by
  have HCK := Lib.hid rpcheck_any
  have HNOb : Hid (∀ (L : List (Int × List Nat)) (t : ByteArray), pdA 2 s = (pdA 2 t).map (L ++ ·) → 0 < t.size → pdStep 2 t = none → decP false s = none) := fun L t h1 h2 h3 => decP_no (four := false) h1 h2 h3
  have HEND : Hid (∀ (L : List (Int × List Nat)) (t : ByteArray), pdA 2 s = (pdA 2 t).map (L ++ ·) → t.size = 0 → decP false s = if pathOk L = true then some L else none) := fun L t h1 h2 => decP_end (four := false) h1 h2
  generalize decP false s = res at HNOb HEND ⊢
  have HVA : Hid (∀ (j : Nat) (t : ByteArray) (W : World), Calls Tryz.prog 37 #[.string (t.extract (2 + j * 2) (2 + (j + 1) * 2))] W fun e w' => e = .returned (.int .u64 (hd (nxN 2 j (nx (nx t 1) 1)) 2 : Nat)) ∧ w' = W) := fun j t W => by
    have h := rvalue_any (t.extract (2 + j * 2) (2 + (j + 1) * 2)) W (by rw [ByteArray.size_extract]; omega)
    rwa [hd_mid] at h
  go_enter Tryz.func118, Tryz.ntmps118
  go_wp2_with fail
  go_loopw [0, 7, 8, 9, 10] (fun sv ov _ _ _ wr => ∃ (t : ByteArray) (A : Option Addr) (m c : Nat) (segs : List Sg), sv = .string t ∧ ov = .slice A m c ∧ Hid (m = segs.length) ∧ Hid (SegsO wr w.heap.size (.slice A m c) segs) ∧ Hid (pdA 2 s = (pdA 2 t).map (segs.map Sg.c ++ ·)) ∧ 2 * m + t.size ≤ s.size ∧ Hid (Below w.heap.size w wr)) (fun sv _ _ _ _ _ => strV sv)
  case atStart => exact ⟨s, none, 0, 0, [], rfl, rfl, rfl, SegsO.nil _ _, by show _ = _; simp, by omega, Below.refl _ _⟩
  case round =>
    obtain ⟨t, A, m, c, segs, rfl, rfl, HM, HO, HP, hts, HB⟩ := hrel
    by_cases h0 : 0 < t.size
    · by_cases h2 : t.size < 2
      · have HN : Hid (res = none) := HNOb.out _ _ HP.out h0 (pd_short h2)
        go_wp2_with fail
        go_ret2
        exact ⟨by rw [HN.out]; rfl, HB.out⟩
      · have h1 : 1 < t.size := by omega
        have h00 : (0 : Int) < (t.size : Int) := by omega
        obtain ⟨n, hn⟩ : ∃ n, (t[1]'h1).toNat = n := ⟨_, rfl⟩
        obtain ⟨kd, hkd⟩ : ∃ kd, (t[0]'h0).toNat = kd := ⟨_, rfl⟩
        have hn8 : n < 256 := by rw [← hn]; exact (t[1]'h1).toNat_lt
        have hk8 : kd < 256 := by rw [← hkd]; exact (t[0]'h0).toNat_lt
        have HN1 : Hid (hd (nx t 1) 1 = n) := by show _ = _; rw [hd_at1 h1, hn]
        have HK1 : Hid (hd t 1 = kd) := by show _ = _; rw [hd_at0 h0, hkd]
        have htz : (t.size : Int) ≤ 1048576 := by omega
        by_cases hfew : t.size < 2 + n * 2
        · have HN : Hid (res = none) := HNOb.out _ _ HP.out h0 (pd_few (by omega) HN1.out hfew)
          have hfew' : (t.size : Int) < 2 + (n : Int) * 2 := by omega
          clear hfew
          go_wp2_with fail
          go_ret2
          exact ⟨by rw [HN.out]; rfl, HB.out⟩
        · have hfew' : ¬ (t.size : Int) < 2 + (n : Int) * 2 := by omega
          have hge : 2 + n * 2 ≤ t.size := by omega
          have HPD := Lib.hid (pd_some (sz := 2) (by omega) HN1.out hge)
          rw [HK1.out] at HPD
          obtain ⟨T2, hT2⟩ : ∃ T2, T2 = nx (nx t 1) 1 := ⟨_, rfl⟩
          have HVB : Hid (∀ (j : Nat) (W : World), Calls Tryz.prog 37 #[.string (t.extract (2 + j * 2) (2 + (j + 1) * 2))] W fun e w' => e = .returned (.int .u64 (hd (nxN 2 j T2) 2 : Nat)) ∧ w' = W) := fun j W => by rw [hT2]; exact HVA.out j t W
          rw [← hT2] at HPD
          have hno : decide ((t.size : Int) < 2 + (n : Int) * 2) = false := decide_eq_false hfew'
          clear hfew hT2 HN1 HK1
          go_upto_region 11 with fail
          go_upto_region 12 with fail
          refine wp_name fun V hV => ?_
          obtain ⟨g, hg⟩ : ∃ g, g = wr.heap.size := ⟨_, rfl⟩
          have HCV : Hid (CellsAt V g #[.int .i64 (kd : Nat), .slice none 0 0] 61) := by rw [hV, hg]; exact CellsAt.new _ _ _
          have HOV : Hid (∀ X : World, (∀ i, i < g → X.heap[i]? = V.heap[i]?) → SegsO X w.heap.size (.slice A m c) segs) := fun X h => HO.out.keep (fun i _ hi => (h i (by rw [hg]; exact hi)).trans (by rw [hV]; exact Below.heap_alloc _ _ _ hi))
          have HBV : Hid (Below w.heap.size w V) := by rw [hV]; exact HB.out.alloc HB.out.size _
          have hgV : g + 1 ≤ V.heap.size := by rw [hV, hg]; simp
          have hwg : w.heap.size ≤ g := by rw [hg]; exact HB.out.size
          rw [← hg]
          clear hV hg HO HB hn hkd
          go_wp2_with fail
          go_loopw [10] (fun i wq => ∃ (j : Nat) (A2 : Option Addr) (c2 : Nat), i = .int .i64 j ∧ j ≤ n ∧ Hid (CellsAt wq g #[.int .i64 (kd : Nat), .slice A2 j c2] 61) ∧ Hid (OwnL wq (g + 1) 35 1 u1 (.slice A2 j c2) (asN 2 j T2)) ∧ Hid (Below w.heap.size w wq) ∧ g + 1 ≤ wq.heap.size ∧ Hid (∀ i, i < g → wq.heap[i]? = V.heap[i]?)) (fun i _ => n + 1 - (intOf i).toNat)
          case atStart => exact ⟨0, none, 0, rfl, by omega, HCV.out, OwnL.nil _ _ _ _ _, HBV.out, hgV, fun _ _ => rfl⟩
          case round =>
            clear HCV HBV hgV
            obtain ⟨j, A2, c2, rfl, hj, HC, HA, HB, hgq, HOX⟩ := hrel
            by_cases hlt : j < n
            · have e1 := (HC.out.c 1).trans (show (#[Value.int .i64 (kd : Nat), .slice A2 j c2] : Array Value)[1]? = some (.slice A2 j c2) from rfl)
              obtain ⟨x, hx⟩ : ∃ x, x = hd (nxN 2 j T2) 2 := ⟨_, rfl⟩
              have hx4 : x < 4294967296 := by rw [hx]; exact Nat.lt_of_lt_of_le (hd_lt _ 2) (by decide)
              have HVC : Hid (∀ W : World, Calls Tryz.prog 37 #[.string (t.extract (2 + j * 2) (2 + (j + 1) * 2))] W fun e w' => e = .returned (.int .u64 (x : Nat)) ∧ w' = W) := fun W => by rw [hx]; exact HVB.out j W
              have hzx : IntKind.u32.wrap ((x : Nat) : Int) = ((x : Nat) : Int) := by rw [IntKind.wrap_u32]; omega
              have HAS : Hid (asN 2 (j + 1) T2 = asN 2 j T2 ++ [x]) := by show _ = _; rw [asN_succ, hx]
              have hb1 : (2 : Int) + ((j : Int) + 1) * 2 ≤ (t.size : Int) := by omega
              clear hx
              go_upto_region 15 with fail
              obtain ⟨a, ha⟩ : ∃ a, a = 2 + j * 2 := ⟨_, rfl⟩
              obtain ⟨b, hbq⟩ : ∃ b, b = 2 + (j + 1) * 2 := ⟨_, rfl⟩
              obtain ⟨z1, hz1⟩ : ∃ z, z = (j : Int) * 2 := ⟨_, rfl⟩
              obtain ⟨z3, hz3⟩ : ∃ z, z = (j : Int) + 1 := ⟨_, rfl⟩
              obtain ⟨z4, hz4⟩ : ∃ z, z = z3 * 2 := ⟨_, rfl⟩
              have v1 : IntKind.i64.wrap ((j : Int) * 2) = z1 := by rw [hz1]; exact IntWalk.i64_in _ (by omega)
              have v2 : IntKind.i64.wrap (2 + z1) = (a : Nat) := by rw [hz1, ha]; rw [IntWalk.i64_in _ (by omega)]; omega
              have v3 : IntKind.i64.wrap ((j : Int) + 1) = z3 := by rw [hz3]; exact IntWalk.i64_in _ (by omega)
              have v4 : IntKind.i64.wrap (z3 * 2) = z4 := by rw [hz4, hz3]; exact IntWalk.i64_in _ (by omega)
              have v5 : IntKind.i64.wrap (2 + z4) = (b : Nat) := by rw [hz4, hz3, hbq]; rw [IntWalk.i64_in _ (by omega)]; omega
              have hab : (a : Int) ≤ (b : Int) := by omega
              have hbt : (b : Int) ≤ (t.size : Int) := by omega
              have ha0 : (0 : Int) ≤ (a : Int) := by omega
              rw [← ha, ← hbq] at HVC
              have HZ3 := Lib.hid hz3
              clear ha hbq hz1 hz3 hz4
              have HA2 : Hid (OwnL (wr.drew.alloc (.cells #[.int .u32 (x : Nat)] 35)) (g + 1) 35 1 u1 (.slice A2 j c2) (asN 2 j T2)) := OwnL.alloc (show OwnL wr.drew _ _ _ _ _ _ from HA.out) _
              have HCB : Hid (CellsAt (wr.drew.alloc (.cells #[.int .u32 (x : Nat)] 35)) wr.heap.size #[.int .u32 (x : Nat)] 35) := CellsAt.new wr.drew _ _
              have HRB : Hid (Rd (wr.drew.alloc (.cells #[.int .u32 (x : Nat)] 35)) (some ⟨wr.heap.size, 0, none⟩) 1 ([x].map u1)) := rd_new1 HCB.out rfl
              have hga : g + 1 ≤ (wr.drew.alloc (.cells #[.int .u32 (x : Nat)] 35)).heap.size := by simp; omega
              have HLA : Hid (j = (asN 2 j T2).length) := (asN_len 2 j T2).symm
              clear HA
              refine wp_region_U (fun i => i == 18) (fun w' => CellsAt w' g #[.int .i64 (kd : Nat), .slice A2 j c2] 61 ∧ Below w.heap.size w w') (by kernel_rfl) (⟨HC.out.drew 1, below_drewN HB.out 1⟩) (fun hHeld => ?_)
              refine wpAnyU_takeP (i := 0) (oi := { dst := some 37, op := Op.fieldAddr 61 (Operand.tmp 9) 1, type := 0, pos := "ref.go:171", after := #[], guard := none }) (v := ?_) rfl (by rfl) (by kernel_rfl) (by kernel_rfl) (by kernel_rfl) (fun _ _ _ h => h) (Or.inl ⟨by rfl, ?_⟩) hHeld ?_
              rotate_left
              · intro w hSw
                clear hSw
                go_simp
                try with_reducible rfl
              try simp only [Act.put, List.setIfInBounds_toArray, List.set_cons_zero, List.set_cons_succ]
              refine wpAnyU_take (i := 1) (oi := { dst := some 38, op := Op.load 36 (Operand.tmp 37), type := 36, pos := "ref.go:171", after := #[{ on := 0, ground := Ground.data }], guard := none }) (v := ?_) rfl (by rfl) (by kernel_rfl) (by kernel_rfl) (by kernel_rfl) (by kernel_rfl) (fun _ _ _ h => h) (Or.inl ⟨by rfl, ?_⟩) hHeld ?_
              rotate_left
              · intro w hSw
                obtain ⟨e1, _⟩ := hSw
                replace e1 := (e1.c 1).trans (show (#[Value.int .i64 (kd : Nat), .slice A2 j c2] : Array Value)[1]? = some (.slice A2 j c2) from rfl)
                go_simp
                try with_reducible rfl
              try simp only [Act.put, List.setIfInBounds_toArray, List.set_cons_zero, List.set_cons_succ]
              refine wpAnyU_takeP (i := 2) (oi := { dst := some 39, op := Op.move (Operand.tmp 0), type := 9, pos := "ref.go:171", after := #[], guard := none }) (v := ?_) rfl (by rfl) (by kernel_rfl) (by kernel_rfl) (by kernel_rfl) (fun _ _ _ h => h) (Or.inl ⟨by rfl, ?_⟩) hHeld ?_
              rotate_left
              · intro w hSw
                clear hSw
                go_simp
                try with_reducible rfl
              try simp only [Act.put, List.setIfInBounds_toArray, List.set_cons_zero, List.set_cons_succ]
              refine wpAnyU_takeP (i := 3) (oi := { dst := some 40, op := Op.move (Operand.tmp 10), type := 3, pos := "ref.go:171", after := #[], guard := none }) (v := ?_) rfl (by rfl) (by kernel_rfl) (by kernel_rfl) (by kernel_rfl) (fun _ _ _ h => h) (Or.inl ⟨by rfl, ?_⟩) hHeld ?_
              rotate_left
              · intro w hSw
                clear hSw
                go_simp
                try with_reducible rfl
              try simp only [Act.put, List.setIfInBounds_toArray, List.set_cons_zero, List.set_cons_succ]
              refine wpAnyU_takeP (i := 4) (oi := { dst := some 41, op := Op.move (Operand.tmp 6), type := 3, pos := "ref.go:171", after := #[], guard := none }) (v := ?_) rfl (by rfl) (by kernel_rfl) (by kernel_rfl) (by kernel_rfl) (fun _ _ _ h => h) (Or.inl ⟨by rfl, ?_⟩) hHeld ?_
              rotate_left
              · intro w hSw
                clear hSw
                go_simp
                try with_reducible rfl
              try simp only [Act.put, List.setIfInBounds_toArray, List.set_cons_zero, List.set_cons_succ]
              refine wpAnyU_takeP (i := 5) (oi := { dst := some 42, op := Op.binOp BinOp.mul 3 (Operand.tmp 40) (Operand.tmp 41) 3, type := 3, pos := "ref.go:171", after := #[{ on := 3, ground := Ground.data }, { on := 4, ground := Ground.data }], guard := none }) (v := ?_) rfl (by rfl) (by kernel_rfl) (by kernel_rfl) (by kernel_rfl) (fun _ _ _ h => h) (Or.inl ⟨by rfl, ?_⟩) hHeld ?_
              rotate_left
              · intro w hSw
                clear hSw
                go_simp
                try with_reducible rfl
              try simp only [Act.put, List.setIfInBounds_toArray, List.set_cons_zero, List.set_cons_succ]
              refine wpAnyU_takeP (i := 6) (oi := { dst := some 43, op := Op.binOp BinOp.add 3 (Operand.const (Value.int IntKind.i64 2)) (Operand.tmp 42) 3, type := 3, pos := "ref.go:171", after := #[{ on := 5, ground := Ground.data }], guard := none }) (v := ?_) rfl (by rfl) (by kernel_rfl) (by kernel_rfl) (by kernel_rfl) (fun _ _ _ h => h) (Or.inl ⟨by rfl, ?_⟩) hHeld ?_
              rotate_left
              · intro w hSw
                clear hSw
                go_simp
                try with_reducible rfl
              try simp only [Act.put, List.setIfInBounds_toArray, List.set_cons_zero, List.set_cons_succ]
              refine wpAnyU_takeP (i := 7) (oi := { dst := some 44, op := Op.move (Operand.tmp 10), type := 3, pos := "ref.go:171", after := #[], guard := none }) (v := ?_) rfl (by rfl) (by kernel_rfl) (by kernel_rfl) (by kernel_rfl) (fun _ _ _ h => h) (Or.inl ⟨by rfl, ?_⟩) hHeld ?_
              rotate_left
              · intro w hSw
                clear hSw
                go_simp
                try with_reducible rfl
              try simp only [Act.put, List.setIfInBounds_toArray, List.set_cons_zero, List.set_cons_succ]
              refine wpAnyU_takeP (i := 8) (oi := { dst := some 45, op := Op.binOp BinOp.add 3 (Operand.tmp 44) (Operand.const (Value.int IntKind.i64 1)) 3, type := 3, pos := "ref.go:171", after := #[{ on := 7, ground := Ground.data }], guard := none }) (v := ?_) rfl (by rfl) (by kernel_rfl) (by kernel_rfl) (by kernel_rfl) (fun _ _ _ h => h) (Or.inl ⟨by rfl, ?_⟩) hHeld ?_
              rotate_left
              · intro w hSw
                clear hSw
                go_simp
                try with_reducible rfl
              try simp only [Act.put, List.setIfInBounds_toArray, List.set_cons_zero, List.set_cons_succ]
              refine wpAnyU_takeP (i := 9) (oi := { dst := some 46, op := Op.move (Operand.tmp 6), type := 3, pos := "ref.go:171", after := #[], guard := none }) (v := ?_) rfl (by rfl) (by kernel_rfl) (by kernel_rfl) (by kernel_rfl) (fun _ _ _ h => h) (Or.inl ⟨by rfl, ?_⟩) hHeld ?_
              rotate_left
              · intro w hSw
                clear hSw
                go_simp
                try with_reducible rfl
              try simp only [Act.put, List.setIfInBounds_toArray, List.set_cons_zero, List.set_cons_succ]
              refine wpAnyU_takeP (i := 10) (oi := { dst := some 47, op := Op.binOp BinOp.mul 3 (Operand.tmp 45) (Operand.tmp 46) 3, type := 3, pos := "ref.go:171", after := #[{ on := 8, ground := Ground.data }, { on := 9, ground := Ground.data }], guard := none }) (v := ?_) rfl (by rfl) (by kernel_rfl) (by kernel_rfl) (by kernel_rfl) (fun _ _ _ h => h) (Or.inl ⟨by rfl, ?_⟩) hHeld ?_
              rotate_left
              · intro w hSw
                clear hSw
                go_simp
                try with_reducible rfl
              try simp only [Act.put, List.setIfInBounds_toArray, List.set_cons_zero, List.set_cons_succ]
              refine wpAnyU_takeP (i := 11) (oi := { dst := some 48, op := Op.binOp BinOp.add 3 (Operand.const (Value.int IntKind.i64 2)) (Operand.tmp 47) 3, type := 3, pos := "ref.go:171", after := #[{ on := 10, ground := Ground.data }], guard := none }) (v := ?_) rfl (by rfl) (by kernel_rfl) (by kernel_rfl) (by kernel_rfl) (fun _ _ _ h => h) (Or.inl ⟨by rfl, ?_⟩) hHeld ?_
              rotate_left
              · intro w hSw
                clear hSw
                go_simp
                try with_reducible rfl
              try simp only [Act.put, List.setIfInBounds_toArray, List.set_cons_zero, List.set_cons_succ]
              refine wpAnyU_takeP (i := 12) (oi := { dst := some 49, op := Op.slice 9 (Operand.tmp 39) (some (Operand.tmp 43)) (some (Operand.tmp 48)) none, type := 9, pos := "ref.go:171", after := #[{ on := 2, ground := Ground.data }, { on := 6, ground := Ground.data }, { on := 11, ground := Ground.data }], guard := none }) (v := ?_) rfl (by rfl) (by kernel_rfl) (by kernel_rfl) (by kernel_rfl) (fun _ _ _ h => h) (Or.inl ⟨by rfl, ?_⟩) hHeld ?_
              rotate_left
              · intro w hSw
                clear hSw
                go_simp
                try with_reducible rfl
              try simp only [Act.put, List.setIfInBounds_toArray, List.set_cons_zero, List.set_cons_succ]
              refine wpAnyU_step (i := 13) (o := { dst := some 50, op := Op.call { callee := Callee.value (Operand.func 37), args := #[Operand.tmp 49], argTypes := #[9] }, type := 57, pos := "ref.go:171", after := #[{ on := 12, ground := Ground.data }], guard := none }) (by kernel_rfl) rfl (by rfl) (fun K hK => ?_)
              go_simp
              refine (HVC.out _).mono ?_
              rintro e w' ⟨rfl, rfl⟩
              refine hK.out _ _ (hHeld) (fun hHeld => ?_)
              clear hK K
              try simp only [Act.put, List.setIfInBounds_toArray, List.set_cons_zero, List.set_cons_succ]
              refine wpAnyU_takeP (i := 14) (oi := { dst := some 51, op := Op.convert 57 35 (Operand.tmp 50), type := 35, pos := "ref.go:171", after := #[{ on := 13, ground := Ground.data }], guard := none }) (v := ?_) rfl (by rfl) (by kernel_rfl) (by kernel_rfl) (by kernel_rfl) (fun _ _ _ h => h) (Or.inl ⟨by rfl, ?_⟩) hHeld ?_
              rotate_left
              · intro w hSw
                clear hSw
                go_simp
                try with_reducible rfl
              try simp only [Act.put, List.setIfInBounds_toArray, List.set_cons_zero, List.set_cons_succ]
              refine wpAnyU_step (i := 15) (o := { dst := some 52, op := Op.buildSlice 36 1 #[(0, Operand.tmp 51)], type := 36, pos := "ref.go:171", after := #[{ on := 14, ground := Ground.data }], guard := none }) (by kernel_rfl) rfl (by rfl) (fun K hK => ?_)
              go_simp
              skip
              refine hK.out _ _ (⟨hHeld.1.alloc _, hHeld.2.alloc hHeld.2.size _⟩) (fun hHeld => ?_)
              clear hK K
              try simp only [Act.put, List.setIfInBounds_toArray, List.set_cons_zero, List.set_cons_succ]
              refine wpAnyU_step (i := 16) (o := { dst := some 53, op := Op.call { callee := Callee.builtin Builtin.append, args := #[Operand.tmp 38, Operand.tmp 52], argTypes := #[36, 36] }, type := 36, pos := "ref.go:171", after := #[{ on := 1, ground := Ground.data }, { on := 15, ground := Ground.data }, { on := 13, ground := Ground.chain }], guard := none }) (by kernel_rfl) rfl (by rfl) (fun K hK => ?_)
              refine step_more Tryz.underlying36 _ infoU32 rfl (by decide) u1_len u1_ones rfl (.tmp 38) (.tmp 52) rfl (g + 1) A2 j c2 (asN 2 j T2) HLA.out rfl HA2.out [x] (some ⟨wr.heap.size, 0, none⟩) 1 1 rfl rfl HRB.out hga (by unfold maxLen; omega) (by omega) ?_
              intro A5 c5 w5 HA5 HG5
              have hob : ∀ q, (Value.slice A2 j c2).ownBlock = some q → g + 1 ≤ q := fun q hq => (OwnM.lt HA2.out q hq).1
              have HC5 : Hid (CellsAt w5 g #[.int .i64 (kd : Nat), .slice A2 j c2] 61) := hHeld.1.own HG5.out (fun e => by have := hob _ e.symm; omega)
              have HB5 : Hid (Below w.heap.size w w5) := hHeld.2.grown HG5.out hHeld.2.size (fun q hq => by have := hob q hq; omega)
              have ec := (HC5.out.c 1).trans (show (#[Value.int .i64 (kd : Nat), .slice A2 j c2] : Array Value)[1]? = some (.slice A2 j c2) from rfl)
              have ef := HC5.out.unfrozen 1
              refine hK.out _ _ (⟨HC5.out, HB5.out⟩) (fun hHeld => ?_)
              clear hK K
              try simp only [Act.put, List.setIfInBounds_toArray, List.set_cons_zero, List.set_cons_succ]
              refine wpAnyU_takeP (i := 17) (oi := { dst := some 54, op := Op.fieldAddr 61 (Operand.tmp 9) 1, type := 0, pos := "ref.go:171", after := #[{ on := 0, ground := Ground.phase }, { on := 1, ground := Ground.phase }, { on := 2, ground := Ground.phase }, { on := 3, ground := Ground.phase }, { on := 4, ground := Ground.phase }, { on := 5, ground := Ground.phase }, { on := 6, ground := Ground.phase }, { on := 7, ground := Ground.phase }, { on := 8, ground := Ground.phase }, { on := 9, ground := Ground.phase }, { on := 10, ground := Ground.phase }, { on := 11, ground := Ground.phase }, { on := 12, ground := Ground.phase }, { on := 13, ground := Ground.phase }, { on := 14, ground := Ground.phase }, { on := 15, ground := Ground.phase }, { on := 16, ground := Ground.phase }], guard := none }) (v := ?_) rfl (by rfl) (by kernel_rfl) (by kernel_rfl) (by kernel_rfl) (fun _ _ _ h => h) (Or.inl ⟨by rfl, ?_⟩) hHeld ?_
              rotate_left
              · intro w hSw
                clear hSw
                go_simp
                try with_reducible rfl
              try simp only [Act.put, List.setIfInBounds_toArray, List.set_cons_zero, List.set_cons_succ]
              refine wpAnyU_last (i := 18) (o := { dst := none, op := Op.store 36 (Operand.tmp 54) (Operand.tmp 53), type := 0, pos := "ref.go:171", after := #[{ on := 17, ground := Ground.data }, { on := 16, ground := Ground.data }, { on := 16, ground := Ground.chain }, { on := 0, ground := Ground.phase }, { on := 1, ground := Ground.phase }, { on := 2, ground := Ground.phase }, { on := 3, ground := Ground.phase }, { on := 4, ground := Ground.phase }, { on := 5, ground := Ground.phase }, { on := 6, ground := Ground.phase }, { on := 7, ground := Ground.phase }, { on := 8, ground := Ground.phase }, { on := 9, ground := Ground.phase }, { on := 10, ground := Ground.phase }, { on := 11, ground := Ground.phase }, { on := 12, ground := Ground.phase }, { on := 13, ground := Ground.phase }, { on := 14, ground := Ground.phase }, { on := 15, ground := Ground.phase }, { on := 16, ground := Ground.phase }], guard := none }) (by kernel_rfl) rfl (by rfl) (fun K hK => ?_)
              go_simp
              skip
              refine hK.out _ _ ?_
              clear hK K
              try simp only [Act.put, List.setIfInBounds_toArray, List.set_cons_zero, List.set_cons_succ]
              refine wpAnyU_done (by kernel_rfl) ?_ _
              have HAS2 : Hid (OwnL (w5.setCell ⟨g, 1, none⟩ (.slice A5 (j + 1) c5)) (g + 1) 35 1 u1 (.slice A5 (j + 1) c5) (asN 2 (j + 1) T2)) := by
                show OwnL _ _ _ _ _ _ _
                rw [HAS.out]
                exact OwnM.setCell HA5.out (p := ⟨g, 1, none⟩) (fun q hq => by have h1 := (OwnM.lt HA5.out q hq).1; show q ≠ g; omega) _
              have HCS2 : Hid (CellsAt (w5.setCell ⟨g, 1, none⟩ (.slice A5 (j + 1) c5)) g #[.int .i64 (kd : Nat), .slice A5 (j + 1) c5] 61) := CellsAt.set2 HC5.out
              have HOS2 : Hid (∀ i, i < g → (w5.setCell ⟨g, 1, none⟩ (.slice A5 (j + 1) c5)).heap[i]? = V.heap[i]?) := fun i hi => ((Below.heap_setCell w5 ⟨g, 1, none⟩ _ i (by show i ≠ g; omega)).trans ((HG5.out.block i (by simp; omega) (fun e => by have := hob i e.symm; omega)).trans (Below.heap_alloc wr.drew _ i (by show i < wr.heap.size; omega)))).trans (HOX.out i hi)
              have HBS2 : Hid (Below w.heap.size w (w5.setCell ⟨g, 1, none⟩ (.slice A5 (j + 1) c5))) := HB5.out.setCell hwg _
              have hgs2 : g + 1 ≤ w5.heap.size := Nat.le_trans hga HG5.out.size
              clear HA5 HG5 HC5 HB5 HA2 HCB HRB ec ef HC HB HOX hob
              go_wp2_with fail
              exact ⟨⟨j + 1, A5, c5, by rw [show ((j + 1 : Nat) : Int) = z3 by rw [HZ3.out]; omega], by omega, HCS2.out, HAS2.out, HBS2.out, Nat.le_trans hgs2 (grown_setCell w5 ⟨g, 1, none⟩ (.slice A5 (j + 1) c5)).size, HOS2.out⟩, by have h1 := HZ3.out; simp [intOf]; omega⟩
            · obtain rfl : n = j := by omega
              have HSG := Lib.hid (HOV.out _ HOX.out)
              have e0 := (HC.out.c 0).trans (show (#[Value.int .i64 (kd : Nat), .slice A2 n c2] : Array Value)[0]? = some (.int .i64 (kd : Nat)) from rfl)
              have e1 := (HC.out.c 1).trans (show (#[Value.int .i64 (kd : Nat), .slice A2 n c2] : Array Value)[1]? = some (.slice A2 n c2) from rfl)
              have hwq := HB.out.size
              have HCB : Hid (CellsAt (wr.alloc (.cells #[.int .i64 (kd : Nat), .slice A2 n c2] 61)) wr.heap.size #[.int .i64 (kd : Nat), .slice A2 n c2] 61) := CellsAt.new _ _ _
              obtain ⟨sg, hsg⟩ : ∃ sg : Sg, sg = ⟨((kd : Nat) : Int), A2, asN 2 n T2, c2⟩ := ⟨_, rfl⟩
              have HRB : Hid (Rd (wr.alloc (.cells #[.int .i64 (kd : Nat), .slice A2 n c2] 61)) (some ⟨wr.heap.size, 0, none⟩) 2 ([sg].map Sg.cs)) := rd_new1 HCB.out (by rw [hsg]; show _ = #[Value.int .i64 (kd : Nat), .slice A2 (asN 2 n T2).length c2]; rw [asN_len])
              have HSa : Hid (SegsO (wr.alloc (.cells #[.int .i64 (kd : Nat), .slice A2 n c2] 61)) w.heap.size (.slice A m c) segs) := HSG.out.keep (fun i _ hi => Below.heap_alloc _ _ _ hi)
              have HAa : Hid (OwnL (wr.alloc (.cells #[.int .i64 (kd : Nat), .slice A2 n c2] 61)) (g + 1) 35 1 u1 (.slice A2 n c2) (asN 2 n T2)) := HA.out.alloc _
              have HBa : Hid (Below w.heap.size w (wr.alloc (.cells #[.int .i64 (kd : Nat), .slice A2 n c2] 61))) := HB.out.alloc HB.out.size _
              have hms : m ≤ 1048576 := by omega
              have HSGD := Lib.hid hsg
              clear hsg
              go_wp2_with (at_builtin; refine wpList_more Tryz.underlying34 _ infoSeg rfl (by decide) Sg.cs_len Sg.ones rfl (.tmp 55) (.tmp 57) rfl w.heap.size A m c segs HM.out rfl HSa.out.own [sg] (some ⟨wr.heap.size, 0, none⟩) 1 1 rfl rfl HRB.out HBa.out.size (by unfold maxLen; omega) (by omega) ?_)
              intro A5 c5 w5 HO5 HG5
              have HN5 : Hid (SegsO w5 w.heap.size (.slice A5 (m + 1) c5) (segs ++ [sg])) := ⟨HO5.out, fun q hq => by
                rcases List.mem_append.1 hq with hq | hq
                · obtain ⟨q1, q2⟩ := HSa.out.as_ q hq
                  exact ⟨OwnM.grown q1 HG5.out (own_ne q1 HSa.out.own (by decide)), q2⟩
                · rw [List.mem_singleton.1 hq, HSGD.out]
                  refine ⟨?_, asN_u32 (by decide) n T2, by show (-9223372036854775808 : Int) ≤ (kd : Nat); omega, by show ((kd : Nat) : Int) ≤ 9223372036854775807; omega⟩
                  show OwnL _ _ _ _ _ (.slice A2 (asN 2 n T2).length c2) _
                  rw [asN_len]
                  exact OwnM.lower (OwnM.grown HAa.out HG5.out (own_ne HAa.out HSa.out.own (by decide))) (by omega)⟩
              have HB5 : Hid (Below w.heap.size w w5) := OwnM.below_grown HSa.out.own HG5.out HBa.out HBa.out.size (Nat.le_refl _)
              have HM5 : Hid (m + 1 = (segs ++ [sg]).length) := by show _ = _; rw [List.length_append, ← HM.out]; rfl
              have HP5 : Hid (pdA 2 s = (pdA 2 (t.extract (2 + n * 2) t.size)).map ((segs ++ [sg]).map Sg.c ++ ·)) := by
                show _ = _
                rw [HP.out, pdA_step (by omega) HPD.out, Option.map_map, List.map_append, HSGD.out]
                congr 1
                funext r
                show segs.map Sg.c ++ (_ :: r) = _
                rw [List.append_assoc]
                rfl
              have hsz : (t.extract (2 + n * 2) t.size).size = t.size - (2 + n * 2) := by rw [ByteArray.size_extract]; omega
              have HSZ := Lib.hid hsz
              have hlo : (2 : Int) + (n : Int) * 2 ≤ (t.size : Int) := by omega
              clear HO5 HG5 HSa HAa HBa HRB HCB HSGD HSG e0 e1 HC HA HB HOV HOX HP HPD hsz
              go_wp2_with fail
              exact ⟨⟨t.extract (2 + n * 2) t.size, A5, m + 1, c5, segs ++ [sg], rfl, rfl, HM5.out, HN5.out, HP5.out, by rw [HSZ.out]; omega, HB5.out⟩, by show (t.extract (2 + n * 2) t.size).size < t.size; rw [HSZ.out]; omega⟩
    · have h00 : t.size = 0 := by omega
      have h01 : ¬ (0 : Int) < (t.size : Int) := by omega
      have HE := Lib.hid (HEND.out _ _ HP.out h00)
      have HOK : Hid (SegsOk wr A c segs) := by
        have h := HO.out
        rw [HM.out] at h
        exact h.ok
      have HCX : Hid (∀ W, SegsOk W A c segs → Calls Tryz.prog 64 #[.slice A m c] W fun e w' => e = .returned (.int .i64 (okN (pathOk (segs.map Sg.c)))) ∧ W = w') := fun W h => by
        have h2 := HCK.out A c segs W h
        rwa [← HM.out] at h2
      have HSO : Hid (SegsOwn wr w.heap.size (.slice A m c) (segs.map Sg.c)) := HO.out.segs
      clear h00 HO
      cases hpk : pathOk (segs.map Sg.c) with
      | true =>
        rw [hpk] at HCX HE
        have HE2 : Hid (res = some (segs.map Sg.c)) := HE.out
        clear HE hpk
        go_wp2_with fail
        refine (HCX.out _ HOK.out).mono ?_
        rintro e w' ⟨rfl, rfl⟩
        go_wp2_with fail
        go_ret2
        refine ⟨?_, HB.out⟩
        rw [HE2.out]
        exact ⟨_, rfl, HSO.out⟩
      | false =>
        rw [hpk] at HCX HE
        have HE2 : Hid (res = none) := HE.out
        clear HE hpk
        go_wp2_with fail
        refine (HCX.out _ HOK.out).mono ?_
        rintro e w' ⟨rfl, rfl⟩
        go_wp2_with fail
        go_ret2
        refine ⟨?_, HB.out⟩
        rw [HE2.out]
        rfl
end Go.Proofs.YtkcojblflebomaaGreat
