/-
  Labels: the reference's Take. Conditions: sizes.
-/
import Derived.Test.YtngehobekmijbaaRlD
set_option linter.unusedVariables false
set_option linter.unusedSimpArgs false
namespace Go.Proofs.Ytngehobekmijbaa
open Go.RowKit Go.MapKept

section
variable (M : List (LK × Nat)) (base : Nat) (v : Value) (low high : Nat) (k : LK) (w : World)
set_option maxHeartbeats 1000000 in
theorem rtake_bad (hk : k.Ok) (h : Held w base v M) (hm : kmay k = false) :
    Calls Try.prog 15 #[v, .int .u32 low, .int .u32 high, k.v] w fun e w' => e = .returned (.tuple #[v, .int .u32 0, .int .i64 2]) ∧ Below w.heap.size w w' := by
  obtain ⟨A, cap, rfl⟩ := OwnM.form h
  have HM := Lib.hid (fun w => rkmay_any k hk w)
  rw [hm] at HM
  clear hm h
  unfold LK.v at HM ⊢
  have HW0 : Hid (Below w.heap.size w (w.alloc (.cells #[.string k.vrf, .int .i64 k.fam, .int .u64 k.rd, .string k.addr, .int .i64 k.len] 34))) := by
    show Below _ _ _
    go_grown
  go_enter Try.func15, Try.ntmps15
  go_wp2_with fail
  refine (HM.out _).mono ?_
  rintro e w2 ⟨rfl, hb⟩
  have HW2 := Lib.hid (HW0.out.trans (hb.mono HW0.out.size))
  clear hb HM HW0
  go_wp2_with fail
  go_ret3
  exact ⟨rfl, HW2.out⟩

set_option maxHeartbeats 1000000 in
theorem rtake_has (hk : k.Ok) (h : Held w base v M) (hM : M.length ≤ 1000000) (hm : kmay k = true) (i n : Nat) (hi : M[i]? = some (k, n)) (hn : ∀ j, j < i → ∀ p, M[j]? = some p → p.1 ≠ k) :
    Calls Try.prog 15 #[v, .int .u32 low, .int .u32 high, k.v] w fun e w' => e = .returned (.tuple #[v, .int .u32 n, .int .i64 0]) ∧ Below w.heap.size w w' := by
  have HM := Lib.hid (fun w => rkmay_any k hk w)
  rw [hm] at HM
  have HO := Lib.hid (fun w (h : Held w base v M) => rof_some M base v k hk i n w h hM hi hn)
  have hK := Lib.hid (CellsAt.new w #[.string k.vrf, .int .i64 k.fam, .int .u64 k.rd, .string k.addr, .int .i64 k.len] 34)
  have HH : Hid (Held _ base v M) := h.alloc (.cells #[.string k.vrf, .int .i64 k.fam, .int .u64 k.rd, .string k.addr, .int .i64 k.len] 34)
  obtain ⟨A, cap, rfl⟩ := OwnM.form h
  clear hm h hi hn
  unfold LK.v at HM HO ⊢
  have HW0 : Hid (Below w.heap.size w (w.alloc (.cells #[.string k.vrf, .int .i64 k.fam, .int .u64 k.rd, .string k.addr, .int .i64 k.len] 34))) := by
    show Below _ _ _
    go_grown
  go_enter Try.func15, Try.ntmps15
  go_wp2_with fail
  refine (HM.out _).mono ?_
  rintro e w2 ⟨rfl, hb⟩
  have HW2 := Lib.hid (HW0.out.trans (hb.mono HW0.out.size))
  have HK2 := Lib.hid (hK.out.below hb hK.out.lt)
  have HH2 : Hid (Held w2 base _ M) := HH.out.below hb (Nat.le_refl _)
  clear hb HM HW0 hK HH
  obtain ⟨c0, c1, c2, c3, c4⟩ := HK2.out.c5
  go_wp2_with fail
  refine (HO.out _ HH2.out).mono ?_
  rintro e w3 ⟨rfl, hb⟩
  have HW3 := Lib.hid (HW2.out.trans (hb.mono HW2.out.size))
  clear hb HO HW2 HK2 c0 c1 c2 c3 c4
  go_wp2_with fail
  go_ret3
  exact ⟨rfl, HW3.out⟩
end

theorem infoHeld : (Try.prog.info? 63).map (fun i => (i.zero, i.size, i.bytes)) = some (some (.agg #[.string ⟨#[]⟩, .int .i64 0, .int .u64 0, .string ⟨#[]⟩, .int .i64 0, .int .u32 0]), 6, 64) := by kernel_rfl

theorem Src.new {P : Program} {w : World} {t2 e : TypeId} {size c : Nat} (cs : Array Value) (te : TypeId) (ht : P.underlying t2 = some (.slice e)) (hs : cs.size = size) (h1 : ∀ u ∈ cs.toList, u.oneCell' = true) :
    Src P (w.alloc (.cells cs te)) t2 size (.slice (some ⟨w.heap.size, 0, none⟩) 1 c) 1 cs.toList :=
  Src.slice ht (by simp [hs]) (fun j x hx => by
    rw [add_flat, cell_of_row _ w.heap.size j _ _ _ (heap_alloc_new w _)]
    simpa using hx) h1
def RTakeNew (M : List (LK × Nat)) (base : Nat) (v : Value) (low high : Nat) (k : LK) (w : World) (e : Ending) (w' : World) : Prop :=
  (∃ n v', low ≤ n ∧ n ≤ high ∧ (∀ q, low ≤ q → q < n → ∃ p ∈ M, p.2 = q) ∧ (∀ p ∈ M, p.2 ≠ n) ∧ e = .returned (.tuple #[v', .int .u32 n, .int .i64 0]) ∧ Held w' base v' (M ++ [(k, n)]) ∧ w.grownBy w' v.ownBlock ∧ (v'.ownBlock = v.ownBlock ∨ ∃ g, v'.ownBlock = some g ∧ w.heap.size ≤ g)) ∨
  ((∀ q, low ≤ q → q ≤ high → ∃ p ∈ M, p.2 = q) ∧ e = .returned (.tuple #[v, .int .u32 0, .int .i64 7]) ∧ Below w.heap.size w w')
theorem first_of {M : List (LK × Nat)} {P : LK × Nat → Prop} (h : ∃ p ∈ M, P p) : ∃ (i : Nat) (p : LK × Nat), M[i]? = some p ∧ P p ∧ ∀ j, j < i → ∀ q, M[j]? = some q → ¬ P q := by
  classical
  induction M with
  | nil => obtain ⟨p, hp, _⟩ := h; cases hp
  | cons a r ih =>
    by_cases ha : P a
    · exact ⟨0, a, rfl, ha, fun j hj => absurd hj (by omega)⟩
    · obtain ⟨p, hp, hP⟩ := h
      rcases List.mem_cons.1 hp with rfl | hp
      · exact absurd hP ha
      · obtain ⟨i, q, h1, h2, h3⟩ := ih ⟨p, hp, hP⟩
        refine ⟨i + 1, q, by simpa using h1, h2, fun j hj x hx => ?_⟩
        cases j with
        | zero => simp at hx; subst hx; exact ha
        | succ j => exact h3 j (by omega) x (by simpa using hx)

set_option maxHeartbeats 2000000 in
theorem rtake_new (M : List (LK × Nat)) (base : Nat) (v : Value) (low high : Nat) (k : LK) (w : World) (hk : k.Ok) (h : Held w base v M) (hM : M.length ≤ 1000000) (hm : kmay k = true) (hno : ∀ p ∈ M, p.1 ≠ k) (hbase : base ≤ w.heap.size) (hl : low ≤ high) (hh : high ≤ 1048575) :
    Calls Try.prog 15 #[v, .int .u32 low, .int .u32 high, k.v] w (RTakeNew M base v low high k w) := by
  obtain ⟨i0, hi, hz0, hz1, hz2⟩ := info_parts infoHeld
  have HM := Lib.hid (fun w => rkmay_any k hk w)
  rw [hm] at HM
  have HO := Lib.hid (fun w (h : Held w base v M) => rof_none M base v k hk w h hM hno)
  have HKS := Lib.hid (fun w (h : Held w base v M) => rkey_some M base v)
  have hK := Lib.hid (CellsAt.new w #[.string k.vrf, .int .i64 k.fam, .int .u64 k.rd, .string k.addr, .int .i64 k.len] 34)
  have HH : Hid (Held _ base v M) := h.alloc (.cells #[.string k.vrf, .int .i64 k.fam, .int .u64 k.rd, .string k.addr, .int .i64 k.len] 34)
  have HV := Lib.hid h
  obtain ⟨A, cap, rfl⟩ := OwnM.form h
  clear hm h hno
  unfold LK.v at HM HO ⊢
  have HW0 : Hid (Below w.heap.size w (w.alloc (.cells #[.string k.vrf, .int .i64 k.fam, .int .u64 k.rd, .string k.addr, .int .i64 k.len] 34))) := by
    show Below _ _ _
    go_grown
  go_enter Try.func15, Try.ntmps15
  go_wp2_with fail
  refine (HM.out _).mono ?_
  rintro e w2 ⟨rfl, hb⟩
  have HW2 := Lib.hid (HW0.out.trans (hb.mono HW0.out.size))
  have HK2 := Lib.hid (hK.out.below hb hK.out.lt)
  have HH2 : Hid (Held w2 base _ M) := HH.out.below hb (Nat.le_refl _)
  clear hb HM HW0 hK HH
  obtain ⟨c0, c1, c2, c3, c4⟩ := HK2.out.c5
  go_wp2_with fail
  refine (HO.out _ HH2.out).mono ?_
  rintro e w3 ⟨rfl, hb⟩
  have HW3 := Lib.hid (HW2.out.trans (hb.mono HW2.out.size))
  have HK3 := Lib.hid (HK2.out.below hb HK2.out.lt)
  have HH3 : Hid (Held w3 base _ M) := HH2.out.below hb (Nat.le_refl _)
  clear hb HO HW2 HK2 HH2 c0 c1 c2 c3 c4
  go_wp2_with fail
  go_loopw [13] (fun x wr => ∃ q : Nat, low ≤ q ∧ q ≤ high + 1 ∧ x = .int .u32 q ∧ Hid (∀ r, low ≤ r → r < q → ∃ p ∈ M, p.2 = r) ∧ Hid (Held wr base (.slice A M.length cap) M) ∧ Hid (Below w.heap.size w wr) ∧ Hid (CellsAt wr w.heap.size #[.string k.vrf, .int .i64 k.fam, .int .u64 k.rd, .string k.addr, .int .i64 k.len] 34)) (fun x _ => high + 2 - (intOf x).toNat)
  case atStart => exact ⟨low, by omega, by omega, rfl, fun r h1 h2 => absurd h1 (by omega), HH3.out, HW3.out, HK3.out⟩
  case round =>
    obtain ⟨q, q1, q2, rfl, HQ, HH, HW, HK⟩ := hrel
    clear HH3 HW3 HK3
    by_cases hlt : q ≤ high
    · by_cases hin : ∃ p ∈ M, p.2 = q
      · obtain ⟨i, ⟨k', n⟩, hi1, hi2, hi3⟩ := first_of hin
        simp only at hi2
        subst hi2
        have HIN := Lib.hid hin
        have H1 := Lib.hid hi1
        have H3 := Lib.hid hi3
        clear hin hi1 hi3
        go_wp2_with fail
        refine (rkey_some M base _ k' i n _ HH.out hM H1.out (fun j hj p hp => H3.out j hj p hp)).mono ?_
        rintro e w4 ⟨rfl, hb⟩
        have HW4 := Lib.hid ((HW.out.trans (hb.mono HW.out.size)).alloc (HW.out.trans (hb.mono HW.out.size)).size (.cells #[.string k'.vrf, .int .i64 k'.fam, .int .u64 k'.rd, .string k'.addr, .int .i64 k'.len] 34))
        have HK4 := Lib.hid ((HK.out.below hb HK.out.lt).alloc (.cells #[.string k'.vrf, .int .i64 k'.fam, .int .u64 k'.rd, .string k'.addr, .int .i64 k'.len] 34))
        have HH4 : Hid (Held _ base _ M) := (HH.out.below hb (Nat.le_refl _)).alloc (.cells #[.string k'.vrf, .int .i64 k'.fam, .int .u64 k'.rd, .string k'.addr, .int .i64 k'.len] 34)
        clear hb HW HK HH H1 H3
        unfold LK.v
        go_wp2_with fail
        exact ⟨⟨n + 1, by omega, by omega, by go_num, fun r h1 h2 => (if he : r = n then he ▸ HIN.out else HQ.out r h1 (by omega)), HH4.out, HW4.out, HK4.out⟩, by simp [intOf]; omega⟩
      · have hno : ∀ p ∈ M, p.2 ≠ q := fun p hp e => hin ⟨p, hp, e⟩
        have HNO := Lib.hid hno
        clear hno hin
        go_wp2_with fail
        refine (rkey_none M base _ q _ HH.out hM HNO.out).mono ?_
        rintro e w4 ⟨rfl, hb⟩
        have hsz : w.heap.size ≤ w4.heap.size := (HW.out.trans (hb.mono HW.out.size)).size
        have HW4 := Lib.hid ((HW.out.trans (hb.mono HW.out.size)).alloc (HW.out.trans (hb.mono HW.out.size)).size (.cells #[.string ⟨#[]⟩, .int .i64 0, .int .u64 0, .string ⟨#[]⟩, .int .i64 0] 34))
        have HK4 := Lib.hid ((HK.out.below hb HK.out.lt).alloc (.cells #[.string ⟨#[]⟩, .int .i64 0, .int .u64 0, .string ⟨#[]⟩, .int .i64 0] 34))
        have HH4 : Hid (Held _ base _ M) := (HH.out.below hb (Nat.le_refl _)).alloc (.cells #[.string ⟨#[]⟩, .int .i64 0, .int .u64 0, .string ⟨#[]⟩, .int .i64 0] 34)
        clear hb HW HK HH
        rw [show noKey.v = .agg #[.string ⟨#[]⟩, .int .i64 0, .int .u64 0, .string ⟨#[]⟩, .int .i64 0] from rfl]
        obtain ⟨c0, c1, c2, c3, c4⟩ := HK4.out.c5
        go_wp2_with (at_builtin; refine wpList_append_m rfl (.tmp 43) (.tmp 47) 46 46 rfl base 63 i0 _ 6 64 Try.underlying46 hi hz0 hz1 hz2 rfl ?b0 _ M.length (heldV M) rfl ?b1 _ 1 (heldV [(k, q)]) rfl ?b2 ?b3 ?b4 ?b5 ?b6)
        case b0 => omega
        case b1 => exact HH4.out.alloc _
        case b2 =>
          have hz4 : w4.heap.size + 1 = (w4.alloc (.cells #[.string ⟨#[]⟩, .int .i64 0, .int .u64 0, .string ⟨#[]⟩, .int .i64 0] 34)).heap.size := by simp
          rw [hz4]
          exact Src.new _ _ Try.underlying46 rfl (fun u hu => heldV_one [(k, q)] u hu)
        case b3 => (unfold maxLen; omega)
        case b4 => omega
        case b5 =>
          have := HW4.out.size
          simp at this ⊢
          omega
        intro v' w5 hown hgr hat
        have HOWN := Lib.hid hown
        have HG := Lib.hid hgr
        have HAT := Lib.hid hat
        have HK5 := HK4.out.alloc (.cells #[.string k.vrf, .int .i64 k.fam, .int .u64 k.rd, .string k.addr, .int .i64 k.len, .int .u32 (q : Nat)] 63)
        clear hown hgr hat c0 c1 c2 c3 c4 HH4 HK4
        go_wp2_with fail
        go_ret3
        refine Or.inl ⟨q, v', q1, by omega, HQ.out, HNO.out, rfl, ?_, ?_, ?_⟩
        · have h := HOWN.out
          unfold Held
          rw [heldV_append, List.length_append]
          exact h
        · exact grown_trans (grown_of_below (HW4.out.alloc HW4.out.size _) _) HG.out
        · rcases HAT.out with h | h
          · exact Or.inl h
          · refine Or.inr ⟨_, h, ?_⟩
            omega
    · obtain rfl : q = high + 1 := by omega
      go_wp2_with fail
      go_ret3
      exact Or.inr ⟨fun r h1 h2 => HQ.out r h1 (by omega), rfl, HW.out⟩
end Go.Proofs.Ytngehobekmijbaa
