/-
  Timers: the reference's Take, Same, Arm. Conditions: sizes.
-/
import Derived.Test.YtcgegaahdbnacaaWhN
set_option linter.unusedVariables false
set_option linter.unusedSimpArgs false
namespace Go.Proofs.Ytcgegaahdbnacaa
open Go.RowKit Go.MapKept Go.Shelf Go.Lib
open Go.Maps (Keyed)

theorem Sees.take {w : World} {base n cap : Nat} {A : Option Addr} {l : List Tm} (h : Sees w base (.slice A l.length cap) l) (hn : n ≤ l.length) : Sees w base (.slice A n cap) (l.take n) := by
  obtain ⟨A', cap', hv, h1, h2, h3, h4, h5⟩ := h.ex
  simp only [Value.slice.injEq] at hv
  obtain ⟨rfl, _, rfl⟩ := hv
  have hl : (l.take n).length = n := by simp; omega
  refine ⟨A, cap, by rw [hl], by omega, h2, h3, h4, fun hp => ?_⟩
  obtain ⟨g, off, h6, h7, h8, h9⟩ := h5 (by omega)
  refine ⟨g, off, h6, h7, h8, fun i x hx => h9 i x ?_⟩
  rw [List.getElem?_take] at hx
  split at hx
  · exact hx
  · cases hx
theorem Sees.drop {w : World} {base n cap g off : Nat} {l : List Tm} (h : Sees w base (.slice (some ⟨g, off, none⟩) l.length cap) l) (hn : n ≤ l.length) (off' : Nat) (ho : n < l.length → off' = off + n * 4) : Sees w base (.slice (some ⟨g, off', none⟩) (l.length - n) (cap - n)) (l.drop n) := by
  obtain ⟨A', cap', hv, h1, h2, h3, h4, h5⟩ := h.ex
  simp only [Value.slice.injEq] at hv
  obtain ⟨rfl, _, rfl⟩ := hv
  have hl : (l.drop n).length = l.length - n := by simp
  refine ⟨_, _, by rw [hl], by omega, by omega, (fun e => by cases e), (fun a e => by cases e; rfl), fun hp => ?_⟩
  obtain ⟨g', off2, h6, h7, h8, h9⟩ := h5 (by omega)
  simp only [Option.some.injEq, Addr.mk.injEq] at h6
  obtain ⟨rfl, rfl, _⟩ := h6
  refine ⟨g, off', rfl, h7, h8, fun i x hx c hc => ?_⟩
  rw [ho (by omega)]
  rw [List.getElem?_drop] at hx
  have := h9 (n + i) x hx c hc
  rw [show off + (n + i) * 4 + c = off + n * 4 + i * 4 + c by omega] at this
  exact this

theorem Sees.empty (w : World) (base g off c : Nat) (hc : c ≤ maxLen) : Sees w base (.slice (some ⟨g, off, none⟩) 0 c) [] :=
  ⟨_, c, rfl, Nat.zero_le _, hc, (fun e => by cases e), (fun a e => by cases e; rfl), fun h => absurd h (by simp)⟩
def RTakePost (w : World) (base : Nat) (l : List Tm) (now : Nat) (e : Ending) (w' : World) : Prop :=
  ∃ n v1 v2, n ≤ l.length ∧ (∀ j y, j < n → l[j]? = some y → y.at_ ≤ now) ∧ (∀ y, l[n]? = some y → now < y.at_) ∧ e = .returned (.tuple #[v1, v2]) ∧ Sees w' base v1 (l.take n) ∧ Sees w' base v2 (l.drop n) ∧ Below w.heap.size w w'
set_option maxRecDepth 100000 in
set_option maxHeartbeats 4000000 in
theorem rtake_any (l : List Tm) (base : Nat) (v : Value) (now : Nat) (w : World) (h : Sees w base v l) (hM : l.length ≤ 1000000) (hnow : now < 18446744073709551616) :
    Calls Try.prog 23 #[v, .int .u64 now] w (RTakePost w base l now) := by
  obtain ⟨A, cap, rfl, hc1, hc2, hA0, hA1, _⟩ := h.ex
  unfold maxLen at hc2
  have HS := Lib.hid h
  have HA0 := Lib.hid hA0
  have HA1 := Lib.hid hA1
  clear h hA0 hA1
  go_enter Try.func23, Try.ntmps23
  go_wp2_with fail
  go_loop [6] (fun x => ∃ j : Nat, j ≤ l.length ∧ x = .int .i64 j ∧ Hid (∀ i y, i < j → l[i]? = some y → y.at_ ≤ now)) (fun x => l.length + 1 - (intOf x).toNat)
  case atStart => exact ⟨0, by omega, rfl, fun i y h => absurd h (by omega)⟩
  case round =>
    obtain ⟨j, hj, rfl, HJ⟩ := hrel
    by_cases hgo : ∃ y, l[j]? = some y ∧ y.at_ ≤ now
    · obtain ⟨y, hy, hle⟩ := hgo
      have hjl : j < l.length := (List.getElem?_eq_some_iff.1 hy).1
      have HJ2 : Hid (∀ i y, i < j + 1 → l[i]? = some y → y.at_ ≤ now) := fun i z hi hz => by
        by_cases e : i = j
        · subst e
          rw [hy] at hz
          injection hz with hz
          subst hz
          exact hle
        · exact HJ.out i z (by omega) hz
      obtain ⟨g, off, rfl, _, _, c0, c1, c2, c3⟩ := HS.out.at_ hy
      clear hy HJ
      go_wp2_with fail
      exact ⟨⟨j + 1, by omega, by go_num, HJ2⟩, by simp [intOf]; omega⟩
    · have HGO : Hid (∀ y, l[j]? = some y → now < y.at_) := fun y hy => by
        by_cases e : y.at_ ≤ now
        · exact absurd ⟨y, hy, e⟩ hgo
        · omega
      clear hgo
      by_cases hjl : j < l.length
      · obtain ⟨y, hy⟩ : ∃ y, l[j]? = some y := ⟨l[j], List.getElem?_eq_getElem hjl⟩
        have hgt := HGO.out y hy
        have hgt2 : ¬ y.at_ ≤ now := by omega
        obtain ⟨g, off, rfl, _, _, c0, c1, c2, c3⟩ := HS.out.at_ hy
        clear hy
        have hjc : j < cap := by omega
        have hjc2 : j ≤ cap := by omega
        have hjn : ¬ cap = j := by omega
        go_wp2_with fail
        refine wp_region_held_drew (S := fun w' => ∃ nd, w' = w.drewN nd) (by kernel_rfl) (⟨1, rfl⟩) (fun hHeld => ?_)
        refine wpAnyH_take (i := 0) (oi := { dst := some 22, op := Op.move (Operand.tmp 0), type := 25, pos := "ref.go:100", after := #[], guard := none }) (v := ?_) rfl (by kernel_rfl) (by kernel_rfl) (by kernel_rfl) (fun _ _ _ h => h) (Or.inl ⟨by rfl, ?_⟩) hHeld ?_
        rotate_left
        · intro w hSw
          clear hSw
          go_simp
          try with_reducible rfl
        try simp only [Act.put, List.setIfInBounds_toArray, List.set_cons_zero, List.set_cons_succ]
        refine wpAnyH_take (i := 1) (oi := { dst := some 23, op := Op.move (Operand.tmp 6), type := 3, pos := "ref.go:100", after := #[], guard := none }) (v := ?_) rfl (by kernel_rfl) (by kernel_rfl) (by kernel_rfl) (fun _ _ _ h => h) (Or.inl ⟨by rfl, ?_⟩) hHeld ?_
        rotate_left
        · intro w hSw
          clear hSw
          go_simp
          try with_reducible rfl
        try simp only [Act.put, List.setIfInBounds_toArray, List.set_cons_zero, List.set_cons_succ]
        refine wpAnyH_take (i := 2) (oi := { dst := some 24, op := Op.slice 25 (Operand.tmp 22) none (some (Operand.tmp 23)) none, type := 25, pos := "ref.go:100", after := #[{ on := 0, ground := Ground.data }, { on := 1, ground := Ground.data }], guard := none }) (v := ?_) rfl (by kernel_rfl) (by kernel_rfl) (by kernel_rfl) (fun _ _ _ h => h) (Or.inl ⟨by rfl, ?_⟩) hHeld ?_
        rotate_left
        · intro w hSw
          clear hSw
          go_simp
          try with_reducible rfl
        try simp only [Act.put, List.setIfInBounds_toArray, List.set_cons_zero, List.set_cons_succ]
        refine wpAnyH_take (i := 3) (oi := { dst := some 25, op := Op.move (Operand.tmp 0), type := 25, pos := "ref.go:100", after := #[], guard := none }) (v := ?_) rfl (by kernel_rfl) (by kernel_rfl) (by kernel_rfl) (fun _ _ _ h => h) (Or.inl ⟨by rfl, ?_⟩) hHeld ?_
        rotate_left
        · intro w hSw
          clear hSw
          go_simp
          try with_reducible rfl
        try simp only [Act.put, List.setIfInBounds_toArray, List.set_cons_zero, List.set_cons_succ]
        refine wpAnyH_take (i := 4) (oi := { dst := some 26, op := Op.move (Operand.tmp 6), type := 3, pos := "ref.go:100", after := #[], guard := none }) (v := ?_) rfl (by kernel_rfl) (by kernel_rfl) (by kernel_rfl) (fun _ _ _ h => h) (Or.inl ⟨by rfl, ?_⟩) hHeld ?_
        rotate_left
        · intro w hSw
          clear hSw
          go_simp
          try with_reducible rfl
        try simp only [Act.put, List.setIfInBounds_toArray, List.set_cons_zero, List.set_cons_succ]
        refine wpAnyH_take (i := 5) (oi := { dst := some 27, op := Op.slice 25 (Operand.tmp 25) (some (Operand.tmp 26)) none none, type := 25, pos := "ref.go:100", after := #[{ on := 3, ground := Ground.data }, { on := 4, ground := Ground.data }], guard := none }) (v := ?_) rfl (by kernel_rfl) (by kernel_rfl) (by kernel_rfl) (fun _ _ _ h => h) (Or.inl ⟨by rfl, ?_⟩) hHeld ?_
        rotate_left
        · intro w hSw
          clear hSw
          go_simp
          try with_reducible rfl
        try simp only [Act.put, List.setIfInBounds_toArray, List.set_cons_zero, List.set_cons_succ]
        refine wpAnyH_take (i := 6) (oi := { dst := some 4, op := Op.assign (Operand.tmp 24), type := 25, pos := "ref.go:100", after := #[{ on := 2, ground := Ground.data }, { on := 0, ground := Ground.phase }, { on := 1, ground := Ground.phase }, { on := 2, ground := Ground.phase }, { on := 3, ground := Ground.textOnly Departure.lateStores }, { on := 4, ground := Ground.textOnly Departure.lateStores }, { on := 5, ground := Ground.textOnly Departure.lateStoresUnsure }], guard := none }) (v := ?_) rfl (by kernel_rfl) (by kernel_rfl) (by kernel_rfl) (fun _ _ _ h => h) (Or.inl ⟨by rfl, ?_⟩) hHeld ?_
        rotate_left
        · intro w hSw
          clear hSw
          go_simp
          try with_reducible rfl
        try simp only [Act.put, List.setIfInBounds_toArray, List.set_cons_zero, List.set_cons_succ]
        refine wpAnyH_take (i := 7) (oi := { dst := some 5, op := Op.assign (Operand.tmp 27), type := 25, pos := "ref.go:100", after := #[{ on := 5, ground := Ground.data }, { on := 6, ground := Ground.chain }, { on := 0, ground := Ground.phase }, { on := 1, ground := Ground.phase }, { on := 2, ground := Ground.phase }, { on := 3, ground := Ground.phase }, { on := 4, ground := Ground.phase }, { on := 5, ground := Ground.phase }, { on := 6, ground := Ground.phase }], guard := none }) (v := ?_) rfl (by kernel_rfl) (by kernel_rfl) (by kernel_rfl) (fun _ _ _ h => h) (Or.inl ⟨by rfl, ?_⟩) hHeld ?_
        rotate_left
        · intro w hSw
          clear hSw
          go_simp
          try with_reducible rfl
        try simp only [Act.put, List.setIfInBounds_toArray, List.set_cons_zero, List.set_cons_succ]
        refine wpAnyH_done (by kernel_rfl) ?_ _
        go_wp2_with fail
        go_ret2
        have hS2 := HS.out.below (below_drewN (Below.refl _ _) 1)
        exact ⟨j, _, _, hj, HJ.out, HGO.out, rfl, hS2.take hj, hS2.drop hj _ (fun _ => rfl), below_drewN (Below.refl _ _) 1⟩
      · obtain rfl : j = l.length := by omega
        have hS2 := Lib.hid (HS.out.below (below_drewN (Below.refl _ _) 1))
        cases A with
        | none =>
          have hc0 := HA0.out rfl
          subst hc0
          have hl0 : l.length = 0 := by omega
          have hl1 : l = [] := List.eq_nil_of_length_eq_zero hl0
          subst hl1
          clear hl0
          go_wp2_with fail
          refine wp_region_held_drew (S := fun w' => ∃ nd, w' = w.drewN nd) (by kernel_rfl) (⟨1, rfl⟩) (fun hHeld => ?_)
          refine wpAnyH_take (i := 0) (oi := { dst := some 22, op := Op.move (Operand.tmp 0), type := 25, pos := "ref.go:100", after := #[], guard := none }) (v := ?_) rfl (by kernel_rfl) (by kernel_rfl) (by kernel_rfl) (fun _ _ _ h => h) (Or.inl ⟨by rfl, ?_⟩) hHeld ?_
          rotate_left
          · intro w hSw
            clear hSw
            go_simp
            try with_reducible rfl
          try simp only [Act.put, List.setIfInBounds_toArray, List.set_cons_zero, List.set_cons_succ]
          refine wpAnyH_take (i := 1) (oi := { dst := some 23, op := Op.move (Operand.tmp 6), type := 3, pos := "ref.go:100", after := #[], guard := none }) (v := ?_) rfl (by kernel_rfl) (by kernel_rfl) (by kernel_rfl) (fun _ _ _ h => h) (Or.inl ⟨by rfl, ?_⟩) hHeld ?_
          rotate_left
          · intro w hSw
            clear hSw
            go_simp
            try with_reducible rfl
          try simp only [Act.put, List.setIfInBounds_toArray, List.set_cons_zero, List.set_cons_succ]
          refine wpAnyH_take (i := 2) (oi := { dst := some 24, op := Op.slice 25 (Operand.tmp 22) none (some (Operand.tmp 23)) none, type := 25, pos := "ref.go:100", after := #[{ on := 0, ground := Ground.data }, { on := 1, ground := Ground.data }], guard := none }) (v := ?_) rfl (by kernel_rfl) (by kernel_rfl) (by kernel_rfl) (fun _ _ _ h => h) (Or.inl ⟨by rfl, ?_⟩) hHeld ?_
          rotate_left
          · intro w hSw
            clear hSw
            go_simp
            try with_reducible rfl
          try simp only [Act.put, List.setIfInBounds_toArray, List.set_cons_zero, List.set_cons_succ]
          refine wpAnyH_take (i := 3) (oi := { dst := some 25, op := Op.move (Operand.tmp 0), type := 25, pos := "ref.go:100", after := #[], guard := none }) (v := ?_) rfl (by kernel_rfl) (by kernel_rfl) (by kernel_rfl) (fun _ _ _ h => h) (Or.inl ⟨by rfl, ?_⟩) hHeld ?_
          rotate_left
          · intro w hSw
            clear hSw
            go_simp
            try with_reducible rfl
          try simp only [Act.put, List.setIfInBounds_toArray, List.set_cons_zero, List.set_cons_succ]
          refine wpAnyH_take (i := 4) (oi := { dst := some 26, op := Op.move (Operand.tmp 6), type := 3, pos := "ref.go:100", after := #[], guard := none }) (v := ?_) rfl (by kernel_rfl) (by kernel_rfl) (by kernel_rfl) (fun _ _ _ h => h) (Or.inl ⟨by rfl, ?_⟩) hHeld ?_
          rotate_left
          · intro w hSw
            clear hSw
            go_simp
            try with_reducible rfl
          try simp only [Act.put, List.setIfInBounds_toArray, List.set_cons_zero, List.set_cons_succ]
          refine wpAnyH_take (i := 5) (oi := { dst := some 27, op := Op.slice 25 (Operand.tmp 25) (some (Operand.tmp 26)) none none, type := 25, pos := "ref.go:100", after := #[{ on := 3, ground := Ground.data }, { on := 4, ground := Ground.data }], guard := none }) (v := ?_) rfl (by kernel_rfl) (by kernel_rfl) (by kernel_rfl) (fun _ _ _ h => h) (Or.inl ⟨by rfl, ?_⟩) hHeld ?_
          rotate_left
          · intro w hSw
            clear hSw
            go_simp
            try with_reducible rfl
          try simp only [Act.put, List.setIfInBounds_toArray, List.set_cons_zero, List.set_cons_succ]
          refine wpAnyH_take (i := 6) (oi := { dst := some 4, op := Op.assign (Operand.tmp 24), type := 25, pos := "ref.go:100", after := #[{ on := 2, ground := Ground.data }, { on := 0, ground := Ground.phase }, { on := 1, ground := Ground.phase }, { on := 2, ground := Ground.phase }, { on := 3, ground := Ground.textOnly Departure.lateStores }, { on := 4, ground := Ground.textOnly Departure.lateStores }, { on := 5, ground := Ground.textOnly Departure.lateStoresUnsure }], guard := none }) (v := ?_) rfl (by kernel_rfl) (by kernel_rfl) (by kernel_rfl) (fun _ _ _ h => h) (Or.inl ⟨by rfl, ?_⟩) hHeld ?_
          rotate_left
          · intro w hSw
            clear hSw
            go_simp
            try with_reducible rfl
          try simp only [Act.put, List.setIfInBounds_toArray, List.set_cons_zero, List.set_cons_succ]
          refine wpAnyH_take (i := 7) (oi := { dst := some 5, op := Op.assign (Operand.tmp 27), type := 25, pos := "ref.go:100", after := #[{ on := 5, ground := Ground.data }, { on := 6, ground := Ground.chain }, { on := 0, ground := Ground.phase }, { on := 1, ground := Ground.phase }, { on := 2, ground := Ground.phase }, { on := 3, ground := Ground.phase }, { on := 4, ground := Ground.phase }, { on := 5, ground := Ground.phase }, { on := 6, ground := Ground.phase }], guard := none }) (v := ?_) rfl (by kernel_rfl) (by kernel_rfl) (by kernel_rfl) (fun _ _ _ h => h) (Or.inl ⟨by rfl, ?_⟩) hHeld ?_
          rotate_left
          · intro w hSw
            clear hSw
            go_simp
            try with_reducible rfl
          try simp only [Act.put, List.setIfInBounds_toArray, List.set_cons_zero, List.set_cons_succ]
          refine wpAnyH_done (by kernel_rfl) ?_ _
          go_wp2_with fail
          go_ret2
          exact ⟨0, _, _, by omega, HJ.out, HGO.out, rfl, hS2.out, hS2.out, below_drewN (Below.refl _ _) 1⟩
        | some a =>
          obtain ⟨g, off, sp⟩ := a
          have hsp : sp = none := HA1.out _ rfl
          subst hsp
          by_cases hcl : cap = l.length
          · subst hcl
            go_wp2_with fail
            refine wp_region_held_drew (S := fun w' => ∃ nd, w' = w.drewN nd) (by kernel_rfl) (⟨1, rfl⟩) (fun hHeld => ?_)
            refine wpAnyH_take (i := 0) (oi := { dst := some 22, op := Op.move (Operand.tmp 0), type := 25, pos := "ref.go:100", after := #[], guard := none }) (v := ?_) rfl (by kernel_rfl) (by kernel_rfl) (by kernel_rfl) (fun _ _ _ h => h) (Or.inl ⟨by rfl, ?_⟩) hHeld ?_
            rotate_left
            · intro w hSw
              clear hSw
              go_simp
              try with_reducible rfl
            try simp only [Act.put, List.setIfInBounds_toArray, List.set_cons_zero, List.set_cons_succ]
            refine wpAnyH_take (i := 1) (oi := { dst := some 23, op := Op.move (Operand.tmp 6), type := 3, pos := "ref.go:100", after := #[], guard := none }) (v := ?_) rfl (by kernel_rfl) (by kernel_rfl) (by kernel_rfl) (fun _ _ _ h => h) (Or.inl ⟨by rfl, ?_⟩) hHeld ?_
            rotate_left
            · intro w hSw
              clear hSw
              go_simp
              try with_reducible rfl
            try simp only [Act.put, List.setIfInBounds_toArray, List.set_cons_zero, List.set_cons_succ]
            refine wpAnyH_take (i := 2) (oi := { dst := some 24, op := Op.slice 25 (Operand.tmp 22) none (some (Operand.tmp 23)) none, type := 25, pos := "ref.go:100", after := #[{ on := 0, ground := Ground.data }, { on := 1, ground := Ground.data }], guard := none }) (v := ?_) rfl (by kernel_rfl) (by kernel_rfl) (by kernel_rfl) (fun _ _ _ h => h) (Or.inl ⟨by rfl, ?_⟩) hHeld ?_
            rotate_left
            · intro w hSw
              clear hSw
              go_simp
              try with_reducible rfl
            try simp only [Act.put, List.setIfInBounds_toArray, List.set_cons_zero, List.set_cons_succ]
            refine wpAnyH_take (i := 3) (oi := { dst := some 25, op := Op.move (Operand.tmp 0), type := 25, pos := "ref.go:100", after := #[], guard := none }) (v := ?_) rfl (by kernel_rfl) (by kernel_rfl) (by kernel_rfl) (fun _ _ _ h => h) (Or.inl ⟨by rfl, ?_⟩) hHeld ?_
            rotate_left
            · intro w hSw
              clear hSw
              go_simp
              try with_reducible rfl
            try simp only [Act.put, List.setIfInBounds_toArray, List.set_cons_zero, List.set_cons_succ]
            refine wpAnyH_take (i := 4) (oi := { dst := some 26, op := Op.move (Operand.tmp 6), type := 3, pos := "ref.go:100", after := #[], guard := none }) (v := ?_) rfl (by kernel_rfl) (by kernel_rfl) (by kernel_rfl) (fun _ _ _ h => h) (Or.inl ⟨by rfl, ?_⟩) hHeld ?_
            rotate_left
            · intro w hSw
              clear hSw
              go_simp
              try with_reducible rfl
            try simp only [Act.put, List.setIfInBounds_toArray, List.set_cons_zero, List.set_cons_succ]
            refine wpAnyH_take (i := 5) (oi := { dst := some 27, op := Op.slice 25 (Operand.tmp 25) (some (Operand.tmp 26)) none none, type := 25, pos := "ref.go:100", after := #[{ on := 3, ground := Ground.data }, { on := 4, ground := Ground.data }], guard := none }) (v := ?_) rfl (by kernel_rfl) (by kernel_rfl) (by kernel_rfl) (fun _ _ _ h => h) (Or.inl ⟨by rfl, ?_⟩) hHeld ?_
            rotate_left
            · intro w hSw
              clear hSw
              go_simp
              try with_reducible rfl
            try simp only [Act.put, List.setIfInBounds_toArray, List.set_cons_zero, List.set_cons_succ]
            refine wpAnyH_take (i := 6) (oi := { dst := some 4, op := Op.assign (Operand.tmp 24), type := 25, pos := "ref.go:100", after := #[{ on := 2, ground := Ground.data }, { on := 0, ground := Ground.phase }, { on := 1, ground := Ground.phase }, { on := 2, ground := Ground.phase }, { on := 3, ground := Ground.textOnly Departure.lateStores }, { on := 4, ground := Ground.textOnly Departure.lateStores }, { on := 5, ground := Ground.textOnly Departure.lateStoresUnsure }], guard := none }) (v := ?_) rfl (by kernel_rfl) (by kernel_rfl) (by kernel_rfl) (fun _ _ _ h => h) (Or.inl ⟨by rfl, ?_⟩) hHeld ?_
            rotate_left
            · intro w hSw
              clear hSw
              go_simp
              try with_reducible rfl
            try simp only [Act.put, List.setIfInBounds_toArray, List.set_cons_zero, List.set_cons_succ]
            refine wpAnyH_take (i := 7) (oi := { dst := some 5, op := Op.assign (Operand.tmp 27), type := 25, pos := "ref.go:100", after := #[{ on := 5, ground := Ground.data }, { on := 6, ground := Ground.chain }, { on := 0, ground := Ground.phase }, { on := 1, ground := Ground.phase }, { on := 2, ground := Ground.phase }, { on := 3, ground := Ground.phase }, { on := 4, ground := Ground.phase }, { on := 5, ground := Ground.phase }, { on := 6, ground := Ground.phase }], guard := none }) (v := ?_) rfl (by kernel_rfl) (by kernel_rfl) (by kernel_rfl) (fun _ _ _ h => h) (Or.inl ⟨by rfl, ?_⟩) hHeld ?_
            rotate_left
            · intro w hSw
              clear hSw
              go_simp
              try with_reducible rfl
            try simp only [Act.put, List.setIfInBounds_toArray, List.set_cons_zero, List.set_cons_succ]
            refine wpAnyH_done (by kernel_rfl) ?_ _
            go_wp2_with fail
            go_ret2
            exact ⟨l.length, _, _, hj, HJ.out, HGO.out, rfl, hS2.out.take (Nat.le_refl _), by rw [List.drop_length]; exact Sees.empty _ _ _ _ _ (by unfold maxLen; omega), below_drewN (Below.refl _ _) 1⟩
          · have hjc2 : l.length ≤ cap := hc1
            go_wp2_with fail
            refine wp_region_held_drew (S := fun w' => ∃ nd, w' = w.drewN nd) (by kernel_rfl) (⟨1, rfl⟩) (fun hHeld => ?_)
            refine wpAnyH_take (i := 0) (oi := { dst := some 22, op := Op.move (Operand.tmp 0), type := 25, pos := "ref.go:100", after := #[], guard := none }) (v := ?_) rfl (by kernel_rfl) (by kernel_rfl) (by kernel_rfl) (fun _ _ _ h => h) (Or.inl ⟨by rfl, ?_⟩) hHeld ?_
            rotate_left
            · intro w hSw
              clear hSw
              go_simp
              try with_reducible rfl
            try simp only [Act.put, List.setIfInBounds_toArray, List.set_cons_zero, List.set_cons_succ]
            refine wpAnyH_take (i := 1) (oi := { dst := some 23, op := Op.move (Operand.tmp 6), type := 3, pos := "ref.go:100", after := #[], guard := none }) (v := ?_) rfl (by kernel_rfl) (by kernel_rfl) (by kernel_rfl) (fun _ _ _ h => h) (Or.inl ⟨by rfl, ?_⟩) hHeld ?_
            rotate_left
            · intro w hSw
              clear hSw
              go_simp
              try with_reducible rfl
            try simp only [Act.put, List.setIfInBounds_toArray, List.set_cons_zero, List.set_cons_succ]
            refine wpAnyH_take (i := 2) (oi := { dst := some 24, op := Op.slice 25 (Operand.tmp 22) none (some (Operand.tmp 23)) none, type := 25, pos := "ref.go:100", after := #[{ on := 0, ground := Ground.data }, { on := 1, ground := Ground.data }], guard := none }) (v := ?_) rfl (by kernel_rfl) (by kernel_rfl) (by kernel_rfl) (fun _ _ _ h => h) (Or.inl ⟨by rfl, ?_⟩) hHeld ?_
            rotate_left
            · intro w hSw
              clear hSw
              go_simp
              try with_reducible rfl
            try simp only [Act.put, List.setIfInBounds_toArray, List.set_cons_zero, List.set_cons_succ]
            refine wpAnyH_take (i := 3) (oi := { dst := some 25, op := Op.move (Operand.tmp 0), type := 25, pos := "ref.go:100", after := #[], guard := none }) (v := ?_) rfl (by kernel_rfl) (by kernel_rfl) (by kernel_rfl) (fun _ _ _ h => h) (Or.inl ⟨by rfl, ?_⟩) hHeld ?_
            rotate_left
            · intro w hSw
              clear hSw
              go_simp
              try with_reducible rfl
            try simp only [Act.put, List.setIfInBounds_toArray, List.set_cons_zero, List.set_cons_succ]
            refine wpAnyH_take (i := 4) (oi := { dst := some 26, op := Op.move (Operand.tmp 6), type := 3, pos := "ref.go:100", after := #[], guard := none }) (v := ?_) rfl (by kernel_rfl) (by kernel_rfl) (by kernel_rfl) (fun _ _ _ h => h) (Or.inl ⟨by rfl, ?_⟩) hHeld ?_
            rotate_left
            · intro w hSw
              clear hSw
              go_simp
              try with_reducible rfl
            try simp only [Act.put, List.setIfInBounds_toArray, List.set_cons_zero, List.set_cons_succ]
            refine wpAnyH_take (i := 5) (oi := { dst := some 27, op := Op.slice 25 (Operand.tmp 25) (some (Operand.tmp 26)) none none, type := 25, pos := "ref.go:100", after := #[{ on := 3, ground := Ground.data }, { on := 4, ground := Ground.data }], guard := none }) (v := ?_) rfl (by kernel_rfl) (by kernel_rfl) (by kernel_rfl) (fun _ _ _ h => h) (Or.inl ⟨by rfl, ?_⟩) hHeld ?_
            rotate_left
            · intro w hSw
              clear hSw
              go_simp
              try with_reducible rfl
            try simp only [Act.put, List.setIfInBounds_toArray, List.set_cons_zero, List.set_cons_succ]
            refine wpAnyH_take (i := 6) (oi := { dst := some 4, op := Op.assign (Operand.tmp 24), type := 25, pos := "ref.go:100", after := #[{ on := 2, ground := Ground.data }, { on := 0, ground := Ground.phase }, { on := 1, ground := Ground.phase }, { on := 2, ground := Ground.phase }, { on := 3, ground := Ground.textOnly Departure.lateStores }, { on := 4, ground := Ground.textOnly Departure.lateStores }, { on := 5, ground := Ground.textOnly Departure.lateStoresUnsure }], guard := none }) (v := ?_) rfl (by kernel_rfl) (by kernel_rfl) (by kernel_rfl) (fun _ _ _ h => h) (Or.inl ⟨by rfl, ?_⟩) hHeld ?_
            rotate_left
            · intro w hSw
              clear hSw
              go_simp
              try with_reducible rfl
            try simp only [Act.put, List.setIfInBounds_toArray, List.set_cons_zero, List.set_cons_succ]
            refine wpAnyH_take (i := 7) (oi := { dst := some 5, op := Op.assign (Operand.tmp 27), type := 25, pos := "ref.go:100", after := #[{ on := 5, ground := Ground.data }, { on := 6, ground := Ground.chain }, { on := 0, ground := Ground.phase }, { on := 1, ground := Ground.phase }, { on := 2, ground := Ground.phase }, { on := 3, ground := Ground.phase }, { on := 4, ground := Ground.phase }, { on := 5, ground := Ground.phase }, { on := 6, ground := Ground.phase }], guard := none }) (v := ?_) rfl (by kernel_rfl) (by kernel_rfl) (by kernel_rfl) (fun _ _ _ h => h) (Or.inl ⟨by rfl, ?_⟩) hHeld ?_
            rotate_left
            · intro w hSw
              clear hSw
              go_simp
              try with_reducible rfl
            try simp only [Act.put, List.setIfInBounds_toArray, List.set_cons_zero, List.set_cons_succ]
            refine wpAnyH_done (by kernel_rfl) ?_ _
            go_wp2_with fail
            go_ret2
            exact ⟨l.length, _, _, hj, HJ.out, HGO.out, rfl, hS2.out.take (Nat.le_refl _), by rw [List.drop_length]; exact Sees.empty _ _ _ _ _ (by unfold maxLen; omega), below_drewN (Below.refl _ _) 1⟩

theorem Src.sees {w : World} {base : Nat} {v : Value} {l : List Tm} (h : Sees w base v l) : Src Try.prog w 25 4 v l.length (flatT l) := by
  obtain ⟨A, cap, rfl, h1, h2, h3, h4, h5⟩ := h.ex
  cases A with
  | none =>
    have hc := h3 rfl
    have hl : l = [] := List.eq_nil_of_length_eq_zero (by omega)
    subst hl
    exact Src.nil Try.underlying25
  | some a =>
    refine Src.slice Try.underlying25 (flatT_length l) (fun j u hu => ?_) (flatT_one l)
    have hj : j < (flatT l).length := (List.getElem?_eq_some_iff.1 hu).1
    rw [flatT_length] at hj
    obtain ⟨g, off, h6, h7, h8, h9⟩ := h5 (by omega)
    cases h6
    have hi : j / 4 < l.length := by omega
    have hx : l[j / 4]? = some l[j / 4] := List.getElem?_eq_getElem hi
    have f := flatT_at l (j / 4) _ hx (j % 4) (by omega)
    rw [show j / 4 * 4 + j % 4 = j by omega, hu] at f
    rw [add_off]
    have g2 := h9 (j / 4) _ hx (j % 4) (by omega)
    rw [show off + j / 4 * 4 + j % 4 = off + j by omega, ← f] at g2
    exact g2

set_option maxRecDepth 100000 in
set_option maxHeartbeats 4000000 in
theorem rsame_any (l : List Tm) (b1 b2 : Nat) (v1 v2 : Value) (w : World) (h1 : Sees w b1 v1 l) (h2 : Sees w b2 v2 l) (hM : l.length ≤ 1000000) :
    Calls Try.prog 24 #[v1, v2] w fun e w' => e = .returned (.bool true) ∧ Below w.heap.size w w' := by
  obtain ⟨A, cap, rfl, hc1, hc2⟩ := h1.form
  obtain ⟨A', cap', rfl, hc3, hc4⟩ := h2.form
  unfold maxLen at hc2 hc4
  have HH1 := Lib.hid h1
  have HH2 := Lib.hid h2
  clear h1 h2
  go_enter Try.func24, Try.ntmps24
  go_wp2_with fail
  go_loopw [5] (fun x wr => ∃ j q : Nat, j ≤ l.length ∧ x = .int .i64 j ∧ wr = w.drewN q) (fun x _ => l.length + 1 - (intOf x).toNat)
  case atStart => exact ⟨0, 0, by omega, rfl, rfl⟩
  case round =>
    obtain ⟨j, q, hj, rfl, rfl⟩ := hrel
    by_cases hlt : j < l.length
    · obtain ⟨p, hp⟩ : ∃ p, l[j]? = some p := ⟨l[j], List.getElem?_eq_getElem hlt⟩
      obtain ⟨g, off, rfl, _, _, c0, c1, c2, c3⟩ := HH1.out.at_ hp
      obtain ⟨g', off', rfl, _, _, d0, d1, d2, d3⟩ := HH2.out.at_ hp
      clear hp
      go_wp2_with fail
      refine wp_region_held_drew (S := fun w' => ∃ nd, w' = w.drewN nd) (by kernel_rfl) (⟨q + 1, rfl⟩) (fun hHeld => ?_)
      refine wpAnyH_take (i := 0) (oi := { dst := some 17, op := Op.move (Operand.tmp 0), type := 25, pos := "ref.go:109", after := #[], guard := none }) (v := ?_) rfl (by kernel_rfl) (by kernel_rfl) (by kernel_rfl) (fun _ _ _ h => h) (Or.inl ⟨by rfl, ?_⟩) hHeld ?_
      rotate_left
      · intro w hSw
        clear hSw
        go_simp
        try with_reducible rfl
      try simp only [Act.put, List.setIfInBounds_toArray, List.set_cons_zero, List.set_cons_succ]
      refine wpAnyH_take (i := 1) (oi := { dst := some 18, op := Op.move (Operand.tmp 5), type := 3, pos := "ref.go:109", after := #[], guard := none }) (v := ?_) rfl (by kernel_rfl) (by kernel_rfl) (by kernel_rfl) (fun _ _ _ h => h) (Or.inl ⟨by rfl, ?_⟩) hHeld ?_
      rotate_left
      · intro w hSw
        clear hSw
        go_simp
        try with_reducible rfl
      try simp only [Act.put, List.setIfInBounds_toArray, List.set_cons_zero, List.set_cons_succ]
      refine wpAnyH_take (i := 2) (oi := { dst := some 19, op := Op.indexAddr 25 (Operand.tmp 17) (Operand.tmp 18), type := 0, pos := "ref.go:109", after := #[{ on := 0, ground := Ground.data }, { on := 1, ground := Ground.data }], guard := none }) (v := ?_) rfl (by kernel_rfl) (by kernel_rfl) (by kernel_rfl) (fun _ _ _ h => h) (Or.inl ⟨by rfl, ?_⟩) hHeld ?_
      rotate_left
      · intro w hSw
        clear hSw
        go_simp
        try with_reducible rfl
      try simp only [Act.put, List.setIfInBounds_toArray, List.set_cons_zero, List.set_cons_succ]
      refine wpAnyH_take (i := 3) (oi := { dst := some 20, op := Op.load 32 (Operand.tmp 19), type := 32, pos := "ref.go:109", after := #[{ on := 2, ground := Ground.data }], guard := none }) (v := ?_) rfl (by kernel_rfl) (by kernel_rfl) (by kernel_rfl) (fun _ _ _ h => h) (Or.inl ⟨by rfl, ?_⟩) hHeld ?_
      rotate_left
      · intro w hSw
        obtain ⟨nd, rfl⟩ := hSw
        go_simp
        try with_reducible rfl
      try simp only [Act.put, List.setIfInBounds_toArray, List.set_cons_zero, List.set_cons_succ]
      refine wpAnyH_take (i := 4) (oi := { dst := some 21, op := Op.move (Operand.tmp 1), type := 25, pos := "ref.go:109", after := #[], guard := none }) (v := ?_) rfl (by kernel_rfl) (by kernel_rfl) (by kernel_rfl) (fun _ _ _ h => h) (Or.inl ⟨by rfl, ?_⟩) hHeld ?_
      rotate_left
      · intro w hSw
        clear hSw
        go_simp
        try with_reducible rfl
      try simp only [Act.put, List.setIfInBounds_toArray, List.set_cons_zero, List.set_cons_succ]
      refine wpAnyH_take (i := 5) (oi := { dst := some 22, op := Op.move (Operand.tmp 5), type := 3, pos := "ref.go:109", after := #[], guard := none }) (v := ?_) rfl (by kernel_rfl) (by kernel_rfl) (by kernel_rfl) (fun _ _ _ h => h) (Or.inl ⟨by rfl, ?_⟩) hHeld ?_
      rotate_left
      · intro w hSw
        clear hSw
        go_simp
        try with_reducible rfl
      try simp only [Act.put, List.setIfInBounds_toArray, List.set_cons_zero, List.set_cons_succ]
      refine wpAnyH_take (i := 6) (oi := { dst := some 23, op := Op.indexAddr 25 (Operand.tmp 21) (Operand.tmp 22), type := 0, pos := "ref.go:109", after := #[{ on := 4, ground := Ground.data }, { on := 5, ground := Ground.data }], guard := none }) (v := ?_) rfl (by kernel_rfl) (by kernel_rfl) (by kernel_rfl) (fun _ _ _ h => h) (Or.inl ⟨by rfl, ?_⟩) hHeld ?_
      rotate_left
      · intro w hSw
        clear hSw
        go_simp
        try with_reducible rfl
      try simp only [Act.put, List.setIfInBounds_toArray, List.set_cons_zero, List.set_cons_succ]
      refine wpAnyH_take (i := 7) (oi := { dst := some 24, op := Op.load 32 (Operand.tmp 23), type := 32, pos := "ref.go:109", after := #[{ on := 6, ground := Ground.data }], guard := none }) (v := ?_) rfl (by kernel_rfl) (by kernel_rfl) (by kernel_rfl) (fun _ _ _ h => h) (Or.inl ⟨by rfl, ?_⟩) hHeld ?_
      rotate_left
      · intro w hSw
        obtain ⟨nd, rfl⟩ := hSw
        go_simp
        try with_reducible rfl
      try simp only [Act.put, List.setIfInBounds_toArray, List.set_cons_zero, List.set_cons_succ]
      refine wpAnyH_take (i := 8) (oi := { dst := some 25, op := Op.binOp BinOp.neq 32 (Operand.tmp 20) (Operand.tmp 24) 32, type := 4, pos := "ref.go:109", after := #[{ on := 3, ground := Ground.data }, { on := 7, ground := Ground.data }], guard := none }) (v := ?_) rfl (by kernel_rfl) (by kernel_rfl) (by kernel_rfl) (fun _ _ _ h => h) (Or.inl ⟨by rfl, ?_⟩) hHeld ?_
      rotate_left
      · intro w hSw
        clear hSw
        go_simp
        try with_reducible rfl
      try simp only [Act.put, List.setIfInBounds_toArray, List.set_cons_zero, List.set_cons_succ]
      refine wpAnyH_done (by kernel_rfl) ?_ _
      go_wp2_with fail
      exact ⟨⟨j + 1, q + 1, by omega, by go_num, rfl⟩, by simp [intOf]; omega⟩
    · obtain rfl : j = l.length := by omega
      go_wp2_with fail
      go_ret
      exact ⟨rfl, below_drewN (Below.refl _ _) q⟩

open Classical in
set_option maxRecDepth 100000 in
set_option maxHeartbeats 4000000 in
theorem rarm_bad (l : List Tm) (base : Nat) (v : Value) (k : WK) (n : Nat) (w : World) (h : Sees w base v l) (hk : k.Ok) (hm : ¬ KMay k ∨ 1099511627776 < n) :
    Calls Try.prog 21 #[v, k.v, .int .u64 n] w fun e w' => e = .returned (.tuple #[v, .int .i64 2]) ∧ Below w.heap.size w w' := by
  obtain ⟨A, cap, rfl, hc1, hc2⟩ := h.form
  have HA0 := Lib.hid (Below.alloc (Below.refl w.heap.size w) (Nat.le_refl _) (.cells #[.int .i64 k.kind, .string k.peer, .int .i64 k.fam] 30))
  have HM := Lib.hid (fun w => rkmay_any k hk w)
  unfold WK.v at HM ⊢
  clear h hk
  by_cases hb : KMay k
  · have hn : 1099511627776 < n := by
      rcases hm with h | h
      · exact absurd hb h
      · exact h
    rw [decide_eq_true hb] at HM
    clear hm hb
    go_enter Try.func21, Try.ntmps21
    go_wp2_with fail
    refine (HM.out _).mono ?_
    rintro e w1 ⟨rfl, hb⟩
    have HA1 := Lib.hid (HA0.out.trans (hb.mono HA0.out.size))
    clear hb
    go_wp2_with fail
    go_ret2
    exact ⟨rfl, HA1.out⟩
  · rw [decide_eq_false hb] at HM
    clear hm hb
    go_enter Try.func21, Try.ntmps21
    go_wp2_with fail
    refine (HM.out _).mono ?_
    rintro e w1 ⟨rfl, hb⟩
    have HA1 := Lib.hid (HA0.out.trans (hb.mono HA0.out.size))
    clear hb
    go_wp2_with fail
    go_ret2
    exact ⟨rfl, HA1.out⟩
theorem canT_le (l : List Tm) (k : WK) : (canT l k).length ≤ l.length := List.length_filter_le _ _
theorem canT_no {l : List Tm} {k : WK} (h : ∀ p ∈ l, p.k ≠ k) : canT l k = l := by
  unfold canT
  rw [List.filter_eq_self]
  intro p hp
  simpa using h p hp
theorem canT_has {l : List Tm} {k : WK} (h : ∃ p ∈ l, p.k = k) : (canT l k).length < l.length := by
  obtain ⟨p, hp, e⟩ := h
  refine Nat.lt_of_le_of_ne (canT_le l k) (fun h => ?_)
  have := List.length_filter_eq_length_iff.1 h p hp
  simp [e] at this
open Classical in
set_option maxRecDepth 100000 in
set_option maxHeartbeats 4000000 in
theorem rarm_full (l : List Tm) (base : Nat) (v : Value) (k : WK) (n : Nat) (w : World) (h : Sees w base v l) (hk : k.Ok) (hm : KMay k) (hn : n ≤ 1099511627776) (hno : ∀ p ∈ l, p.k ≠ k) (hl : l.length = 1024) :
    Calls Try.prog 21 #[v, k.v, .int .u64 n] w fun e w' => e = .returned (.tuple #[v, .int .i64 7]) ∧ Below w.heap.size w w' := by
  have HH0 : Hid (Sees _ base v l) := h.below (Below.alloc (Below.refl w.heap.size w) (Nat.le_refl _) (.cells #[.int .i64 k.kind, .string k.peer, .int .i64 k.fam] 30))
  obtain ⟨A, cap, rfl, hc1, hc2⟩ := h.form
  have HA0 := Lib.hid (Below.alloc (Below.refl w.heap.size w) (Nat.le_refl _) (.cells #[.int .i64 k.kind, .string k.peer, .int .i64 k.fam] 30))
  have HK0 := Lib.hid (CellsAt.new w #[.int .i64 k.kind, .string k.peer, .int .i64 k.fam] 30)
  have HM := Lib.hid (fun w => rkmay_any k hk w)
  rw [decide_eq_true hm] at HM
  have HC := Lib.hid (fun w (h : Sees w base (.slice A l.length cap) l) => rcan_any l base _ k w h (by omega))
  rw [canT_no hno, hl] at HC
  rw [hl] at HH0 hc1 ⊢
  have HL := Lib.hid hl
  clear h hk hm hno hl
  unfold WK.v at HM HC ⊢
  go_enter Try.func21, Try.ntmps21
  go_wp2_with fail
  refine (HM.out _).mono ?_
  rintro e w1 ⟨rfl, hb⟩
  have HH1 := Lib.hid (HH0.out.below hb)
  have HK1 := Lib.hid (HK0.out.below hb HK0.out.lt)
  have HA1 := Lib.hid (HA0.out.trans (hb.mono HA0.out.size))
  clear hb HH0 HK0 HA0 HM
  obtain ⟨k0, k1, k2⟩ := HK1.out.c3
  go_wp2_with fail
  refine (HC.out _ HH1.out).mono ?_
  rintro e w2 ⟨v', rfl, hf, hb⟩
  obtain ⟨A2, c2, rfl⟩ := OwnM.form hf
  have HA2 := Lib.hid (HA1.out.trans (hb.mono HA1.out.size))
  rw [HL.out]
  clear hb hf k0 k1 k2 HH1 HK1 HA1
  go_wp2_with fail
  go_ret2
  exact ⟨rfl, HA2.out⟩
end Go.Proofs.Ytcgegaahdbnacaa
