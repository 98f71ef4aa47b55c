/-
  Timers: the reference's names, keys, and what it reads of a list. Conditions: sizes.
-/
import Derived.Test.YtcgegaahdbnacaaWhM
set_option linter.unusedVariables false
set_option linter.unusedSimpArgs false
namespace Go.Proofs.Ytcgegaahdbnacaa
open Go.RowKit Go.MapKept Go.Shelf Go.Lib
open Go.Maps (Keyed)

set_option maxHeartbeats 4000000 in
theorem rname_yes (s : ByteArray) (h : NameOk s) (w : World) : Calls Try.prog 40 #[.string s] w fun e w' => e = .returned (.bool true) ∧ w' = w := by
  have h1 := h.pos
  have h2 := h.short
  have HA := Lib.hid h.all
  have c0 := h.all 0 h1
  have g0 : 97 ≤ s[0].toNat ∧ s[0].toNat ≤ 122 := by simpa [okc] using c0
  obtain ⟨g1, g2⟩ := g0
  have hc0 := s[0].toNat_lt
  clear h c0
  go_enter Try.func40, Try.ntmps40
  go_wp2_with fail
  go_loop [3] (fun x => ∃ k : Nat, k ≤ s.size ∧ x = .int .i64 k) (fun x => s.size + 1 - (intOf x).toNat)
  case atStart => exact ⟨0, by omega, rfl⟩
  case round =>
    obtain ⟨k, hk, rfl⟩ := hrel
    by_cases hlt : k < s.size
    · have hc := s[k].toNat_lt
      have ho := HA.out k hlt
      rcases okc_yes ho with ⟨l1, l2⟩ | ⟨hk0, hd⟩
      · clear ho
        go_wp2_with fail
        exact ⟨⟨k + 1, by omega, by go_num⟩, by simp [intOf]; omega⟩
      · clear ho
        have hlo : ¬ 97 ≤ s[k].toNat := by omega
        rcases hd with hd | ⟨d1, d2⟩
        · have e1 : ((s[k].toNat : Int) == 45) = true := by rw [beq_iff_eq]; omega
          have h48 : ¬ 48 ≤ s[k].toNat := by omega
          clear hd
          go_wp2_with fail
          exact ⟨⟨k + 1, by omega, by go_num⟩, by simp [intOf]; omega⟩
        · go_wp2_with fail
          exact ⟨⟨k + 1, by omega, by go_num⟩, by simp [intOf]; omega⟩
    · obtain rfl : k = s.size := by omega
      go_wp2_with fail
      go_ret
      exact ⟨rfl, rfl⟩
set_option maxHeartbeats 4000000 in
theorem rname_no (s : ByteArray) (h : ¬ NameOk s) (hs : s.size ≤ 9223372036854775807) (w : World) : Calls Try.prog 40 #[.string s] w fun e w' => e = .returned (.bool false) ∧ w' = w := by
  have HNO := Lib.hid h
  clear h
  by_cases h1 : 0 < s.size
  · by_cases h2 : s.size ≤ 16
    · have hc0 := s[0].toNat_lt
      by_cases g1 : 97 ≤ s[0].toNat
      · by_cases g2 : s[0].toNat ≤ 122
        · go_enter Try.func40, Try.ntmps40
          go_wp2_with fail
          go_loop [3] (NamedRel s) (fun x => s.size + 1 - (intOf x).toNat)
          case atStart => exact ⟨0, by omega, rfl, fun i h1 h2 => absurd h2 (by omega)⟩
          case round =>
            obtain ⟨k, hk, rfl, HR⟩ := hrel
            by_cases hlt : k < s.size
            · have hc := s[k].toNat_lt
              by_cases ho : okc k s[k].toNat = true
              · have HR2 : Hid (∀ (i : Nat) (h : i < s.size), i < k + 1 → okc i s[i].toNat = true) := fun i h1 h2 => by
                  by_cases e : i = k
                  · subst e; exact ho
                  · exact HR.out i h1 (by omega)
                rcases okc_yes ho with ⟨l1, l2⟩ | ⟨hk0, hd⟩
                · clear ho HR
                  go_wp2_with fail
                  exact ⟨⟨k + 1, by omega, by go_num, HR2⟩, by simp [intOf]; omega⟩
                · clear ho HR
                  have hlo : ¬ 97 ≤ s[k].toNat := by omega
                  rcases hd with hd | ⟨d1, d2⟩
                  · have e1 : ((s[k].toNat : Int) == 45) = true := by rw [beq_iff_eq]; omega
                    have h48 : ¬ 48 ≤ s[k].toNat := by omega
                    clear hd
                    go_wp2_with fail
                    exact ⟨⟨k + 1, by omega, by go_num, HR2⟩, by simp [intOf]; omega⟩
                  · go_wp2_with fail
                    exact ⟨⟨k + 1, by omega, by go_num, HR2⟩, by simp [intOf]; omega⟩
              · obtain ⟨l, hz⟩ := okc_no ho
                clear ho HR
                have hk0 : k ≠ 0 := fun e => by subst e; exact l ⟨g1, g2⟩
                obtain ⟨hd, hz⟩ : s[k].toNat ≠ 45 ∧ (s[k].toNat < 48 ∨ 57 < s[k].toNat) := by
                  rcases hz with hz | hz
                  · exact absurd hz hk0
                  · exact hz
                have e1 : ((s[k].toNat : Int) == 45) = false := by rw [beq_eq_false_iff_ne]; omega
                clear hd hk0
                by_cases hlo : 97 ≤ s[k].toNat
                · have hhi : decide ((s[k].toNat : Int) ≤ 122) = false := by simp; omega
                  have h48 : 48 ≤ s[k].toNat := by omega
                  have h57 : decide ((s[k].toNat : Int) ≤ 57) = false := by simp; omega
                  clear hz l
                  go_wp2_with fail
                  go_ret
                  exact ⟨rfl, rfl⟩
                · by_cases h48 : 48 ≤ s[k].toNat
                  · have h57 : decide ((s[k].toNat : Int) ≤ 57) = false := by simp; omega
                    clear hz l
                    go_wp2_with fail
                    go_ret
                    exact ⟨rfl, rfl⟩
                  · clear hz l
                    go_wp2_with fail
                    go_ret
                    exact ⟨rfl, rfl⟩
            · obtain rfl : k = s.size := by omega
              exact absurd ⟨h1, h2, fun i h => HR.out i h h⟩ HNO.out
        · have g3 : 122 < s[0].toNat := by omega
          go_enter Try.func40, Try.ntmps40
          go_wp2_with fail
          go_ret
          exact ⟨rfl, rfl⟩
      · have g3 : s[0].toNat < 97 := by omega
        go_enter Try.func40, Try.ntmps40
        go_wp2_with fail
        go_ret
        exact ⟨rfl, rfl⟩
    · have h3 : 16 < s.size := by omega
      go_enter Try.func40, Try.ntmps40
      go_wp2_with fail
      go_ret
      exact ⟨rfl, rfl⟩
  · have h3 : s.size < 1 := by omega
    go_enter Try.func40, Try.ntmps40
    go_wp2_with fail
    go_ret
    exact ⟨rfl, rfl⟩

/-- the size of a family's addresses -/
def szF (f : Int) : Int := if f = 1 ∨ f = 3 ∨ f = 4 then 4 else if f = 2 ∨ f = 5 then 16 else 0
theorem rsize_any (f : Int) (w : World) : Calls Try.prog 41 #[.int .i64 f] w fun e w' => e = .returned (.int .i64 (szF f)) ∧ w' = w := by
  by_cases a1 : f = 1
  · subst a1
    go_enter Try.func41, Try.ntmps41
    go_wp2_with fail
    go_ret
    exact ⟨rfl, rfl⟩
  by_cases a2 : f = 2
  · subst a2
    go_enter Try.func41, Try.ntmps41
    go_wp2_with fail
    go_ret
    exact ⟨rfl, rfl⟩
  by_cases a3 : f = 3
  · subst a3
    go_enter Try.func41, Try.ntmps41
    go_wp2_with fail
    go_ret
    exact ⟨rfl, rfl⟩
  by_cases a4 : f = 4
  · subst a4
    go_enter Try.func41, Try.ntmps41
    go_wp2_with fail
    go_ret
    exact ⟨rfl, rfl⟩
  by_cases a5 : f = 5
  · subst a5
    go_enter Try.func41, Try.ntmps41
    go_wp2_with fail
    go_ret
    exact ⟨rfl, rfl⟩
  have hr : Hid (szF f = 0) := by show _ = _; unfold szF; rw [if_neg (by omega), if_neg (by omega)]
  have e1 : (f == 1) = false := by rw [beq_eq_false_iff_ne]; exact a1
  have e2 : (f == 2) = false := by rw [beq_eq_false_iff_ne]; exact a2
  have e3 : (f == 3) = false := by rw [beq_eq_false_iff_ne]; exact a3
  have e4 : (f == 4) = false := by rw [beq_eq_false_iff_ne]; exact a4
  have e5 : (f == 5) = false := by rw [beq_eq_false_iff_ne]; exact a5
  go_enter Try.func41, Try.ntmps41
  go_wp2_with fail
  go_ret
  exact ⟨ret_int hr.out.symm, rfl⟩

open Classical in
set_option maxHeartbeats 4000000 in
theorem rkmay_any (k : WK) (hk : k.Ok) (w : World) : Calls Try.prog 32 #[k.v] w fun e w' => e = .returned (.bool (decide (KMay k))) ∧ Below w.heap.size w w' := by
  have hs := hk.peer
  unfold WK.v
  have HA := Lib.hid (Below.alloc (Below.refl w.heap.size w) (Nat.le_refl _) (.cells #[.int .i64 k.kind, .string k.peer, .int .i64 k.fam] 30))
  by_cases a1 : 1 ≤ k.kind
  · by_cases a2 : k.kind ≤ 7
    · by_cases a3 : NameOk k.peer
      · have HN := Lib.hid (fun w => rname_yes k.peer a3 w)
        have HZ := Lib.hid (fun w => rsize_any k.fam w)
        by_cases a4 : 1 ≤ k.fam ∧ k.fam ≤ 5
        · have hr : Hid (decide (KMay k) = true) := decide_eq_true ⟨⟨a1, a2⟩, a3, ⟨by omega, by omega⟩⟩
          have hz : 0 < szF k.fam := by
            unfold szF
            by_cases h : k.fam = 1 ∨ k.fam = 3 ∨ k.fam = 4
            · rw [if_pos h]; decide
            · rw [if_neg h, if_pos (by omega)]; decide
          have hz0 : (k.fam == 0) = false := by rw [beq_eq_false_iff_ne]; omega
          have hz1 : ¬ k.fam = 0 := by omega
          generalize szF k.fam = z at HZ hz
          clear a3 a4
          go_enter Try.func32, Try.ntmps32
          go_wp2_with fail
          refine (HN.out _).mono ?_
          rintro e w1 ⟨rfl, hw⟩
          have hw := hw.symm
          subst hw
          go_wp2_with fail
          refine (HZ.out _).mono ?_
          rintro e w1 ⟨rfl, hw⟩
          have hw := hw.symm
          subst hw
          go_wp2_with fail
          go_ret
          exact ⟨ret_bool hr.out.symm, HA.out⟩
        · by_cases a5 : k.fam = 0
          · have hr : Hid (decide (KMay k) = true) := decide_eq_true ⟨⟨a1, a2⟩, a3, ⟨by omega, by omega⟩⟩
            have hz0 : (k.fam == 0) = true := by rw [beq_iff_eq]; exact a5
            clear a3 a4 a5 HZ
            go_enter Try.func32, Try.ntmps32
            go_wp2_with fail
            refine (HN.out _).mono ?_
            rintro e w1 ⟨rfl, hw⟩
            have hw := hw.symm
            subst hw
            go_wp2_with fail
            go_ret
            exact ⟨ret_bool hr.out.symm, HA.out⟩
          · have hr : Hid (decide (KMay k) = false) := decide_eq_false (fun h => by have := h.fam; omega)
            have hz0 : (k.fam == 0) = false := by rw [beq_eq_false_iff_ne]; omega
            have hz : szF k.fam = 0 := by unfold szF; rw [if_neg (by omega), if_neg (by omega)]
            rw [hz] at HZ
            clear a3 a4 hz
            go_enter Try.func32, Try.ntmps32
            go_wp2_with fail
            refine (HN.out _).mono ?_
            rintro e w1 ⟨rfl, hw⟩
            have hw := hw.symm
            subst hw
            go_wp2_with fail
            refine (HZ.out _).mono ?_
            rintro e w1 ⟨rfl, hw⟩
            have hw := hw.symm
            subst hw
            go_wp2_with fail
            go_ret
            exact ⟨ret_bool hr.out.symm, HA.out⟩
      · have HN := Lib.hid (fun w => rname_no k.peer a3 hs w)
        have hr : Hid (decide (KMay k) = false) := decide_eq_false (fun h => a3 h.peer)
        clear a3
        go_enter Try.func32, Try.ntmps32
        go_wp2_with fail
        refine (HN.out _).mono ?_
        rintro e w1 ⟨rfl, hw⟩
        have hw := hw.symm
        subst hw
        go_wp2_with fail
        go_ret
        exact ⟨ret_bool hr.out.symm, HA.out⟩
    · have hr : Hid (decide (KMay k) = false) := decide_eq_false (fun h => a2 h.kind.2)
      go_enter Try.func32, Try.ntmps32
      go_wp2_with fail
      go_ret
      exact ⟨ret_bool hr.out.symm, HA.out⟩
  · have hr : Hid (decide (KMay k) = false) := decide_eq_false (fun h => a1 h.kind.1)
    go_enter Try.func32, Try.ntmps32
    go_wp2_with fail
    go_ret
    exact ⟨ret_bool hr.out.symm, HA.out⟩

/-- a list that is only read: a slice, wherever it begins -/
structure Sees (w : World) (base : Nat) (v : Value) (l : List Tm) : Prop where
  ex : ∃ A cap, v = .slice A l.length cap ∧ l.length ≤ cap ∧ cap ≤ maxLen ∧ (A = none → cap = 0) ∧ (∀ a, A = some a → a.spot = none) ∧ (0 < l.length → ∃ g off, A = some ⟨g, off, none⟩ ∧ base ≤ g ∧ g < w.heap.size ∧ ∀ (i : Nat) (x : Tm), l[i]? = some x → ∀ c, c < 4 → w.cell? ⟨g, off + i * 4 + c, none⟩ = (encT x)[c]?)
theorem wk_no {a b : WK} (h : a ≠ b) : a.kind = b.kind → a.peer.toList = b.peer.toList → ¬ a.fam = b.fam := fun h1 h2 h3 =>
  h (by cases a; cases b; simp only at h1 h2 h3; rw [h1, toList_inj h2, h3])

theorem Sees.of_own {w : World} {base : Nat} {v : Value} {l : List Tm} (h : FiredAt w base v l) : Sees w base v l := by
  have h' := h
  rcases h.2 with ⟨rfl, h0⟩ | ⟨g, cap, cur, fr, rfl, hb, hgg, hfr, hnc, hcm, hcs, htake⟩
  · exact ⟨none, 0, by rw [h0], by omega, by unfold maxLen; omega, fun _ => rfl, (fun a e => by cases e), fun h => absurd h (by omega)⟩
  · refine ⟨_, cap, rfl, hnc, hcm, (fun e => by cases e), (fun a e => by cases e; rfl), fun hl => ⟨g, 0, rfl, hb, (Array.getElem?_eq_some_iff.1 hgg).1, fun i x hx c hc => ?_⟩⟩
    obtain ⟨g', cap', hv, _, _, _, _, hcell, _⟩ := OwnM.cells h' hl
    simp only [Value.slice.injEq, Option.some.injEq, Addr.mk.injEq] at hv
    obtain ⟨⟨rfl, _⟩, _⟩ := hv
    have f := flatT_at l i x hx c hc
    have hlt : c < (encT x).length := by simp [encT]; omega
    rw [List.getElem?_eq_getElem hlt] at f ⊢
    rw [Nat.zero_add]
    exact hcell _ _ f
theorem Sees.keep {w w' : World} {base : Nat} {v : Value} {l : List Tm} (h : Sees w base v l) (hk : ∀ g, base ≤ g → g < w.heap.size → v.ownBlock = some g → w'.heap[g]? = w.heap[g]?) (hs : w.heap.size ≤ w'.heap.size) : Sees w' base v l := by
  obtain ⟨A, cap, rfl, h1, h2, h3, h4, h5⟩ := h.ex
  refine ⟨A, cap, rfl, h1, h2, h3, h4, fun hl => ?_⟩
  obtain ⟨g, off, rfl, hb, hlt, hc⟩ := h5 hl
  refine ⟨g, off, rfl, hb, Nat.lt_of_lt_of_le hlt hs, fun i x hx c hcc => ?_⟩
  rw [← hc i x hx c hcc]
  simp only [World.cell?, hk g hb hlt rfl]
theorem Sees.below {w w' : World} {base : Nat} {v : Value} {l : List Tm} (h : Sees w base v l) (hb : Below w.heap.size w w') : Sees w' base v l := h.keep (fun g _ hg _ => hb.block g hg) hb.size
theorem Sees.grownX {X : Nat → Prop} {w w' : World} {base : Nat} {v : Value} {l : List Tm} (h : Sees w base v l) (hg : GrownX X w w') (hx : ∀ g, base ≤ g → ¬ X g) : Sees w' base v l := h.keep (fun g hb hlt _ => hg.block g hlt (hx g hb)) hg.size
theorem Sees.lower {w : World} {base b : Nat} {v : Value} {l : List Tm} (h : Sees w base v l) (hb : b ≤ base) : Sees w b v l := by
  obtain ⟨A, cap, rfl, h1, h2, h3, h4, h5⟩ := h.ex
  refine ⟨A, cap, rfl, h1, h2, h3, h4, fun hl => ?_⟩
  obtain ⟨g, off, h6, h7, h8⟩ := h5 hl
  exact ⟨g, off, h6, Nat.le_trans hb h7, h8⟩
theorem Sees.at_ {w : World} {base i : Nat} {A : Option Addr} {n cap : Nat} {l : List Tm} {x : Tm} (h : Sees w base (.slice A n cap) l) (hi : l[i]? = some x) :
    ∃ g off, A = some ⟨g, off, none⟩ ∧ base ≤ g ∧ g < w.heap.size ∧ w.cell? ⟨g, off + i * 4, none⟩ = some (.int .u64 (x.at_ : Nat)) ∧ w.cell? ⟨g, off + i * 4 + 1, none⟩ = some (.int .i64 x.k.kind) ∧ w.cell? ⟨g, off + i * 4 + 2, none⟩ = some (.string x.k.peer) ∧ w.cell? ⟨g, off + i * 4 + 3, none⟩ = some (.int .i64 x.k.fam) := by
  obtain ⟨A', cap', hv, h1, h2, h3, h4, h5⟩ := h.ex
  simp only [Value.slice.injEq] at hv
  obtain ⟨rfl, _, rfl⟩ := hv
  have hl : i < l.length := (List.getElem?_eq_some_iff.1 hi).1
  obtain ⟨g, off, h6, h7, h8, h9⟩ := h5 (by omega)
  exact ⟨g, off, h6, h7, h8, h9 i x hi 0 (by omega), h9 i x hi 1 (by omega), h9 i x hi 2 (by omega), h9 i x hi 3 (by omega)⟩
theorem Sees.form {w : World} {base : Nat} {v : Value} {l : List Tm} (h : Sees w base v l) : ∃ A cap, v = .slice A l.length cap ∧ l.length ≤ cap ∧ cap ≤ maxLen := by
  obtain ⟨A, cap, hv, h1, h2, _⟩ := h.ex
  exact ⟨A, cap, hv, h1, h2⟩

set_option maxHeartbeats 4000000 in
theorem rat_some (l : List Tm) (base : Nat) (v : Value) (i : Nat) (x : Tm) (w : World) (h : Sees w base v l) (hM : l.length ≤ 1000000) (hi : l[i]? = some x) (hn : ∀ j, j < i → ∀ p, l[j]? = some p → p.k ≠ x.k) :
    Calls Try.prog 20 #[v, x.k.v] w fun e w' => e = .returned (.tuple #[.int .u64 x.at_, .bool true]) ∧ Below w.heap.size w w' := by
  obtain ⟨A, cap, rfl, hc1, hc2⟩ := h.form
  obtain ⟨n, k⟩ := x
  unfold maxLen at hc2
  have hil : i < l.length := (List.getElem?_eq_some_iff.1 hi).1
  have HH0 : Hid (Sees _ base _ l) := h.below (Below.alloc (Below.refl w.heap.size w) (Nat.le_refl _) (.cells #[.int .i64 k.kind, .string k.peer, .int .i64 k.fam] 30))
  have HK0 := Lib.hid (CellsAt.new w #[.int .i64 k.kind, .string k.peer, .int .i64 k.fam] 30)
  have HA0 := Lib.hid (Below.alloc (Below.refl w.heap.size w) (Nat.le_refl _) (.cells #[.int .i64 k.kind, .string k.peer, .int .i64 k.fam] 30))
  have HN := Lib.hid hn
  have HI := Lib.hid hi
  clear h hn hi
  unfold WK.v
  generalize hw0 : w.alloc (.cells #[.int .i64 k.kind, .string k.peer, .int .i64 k.fam] 30) = w0 at HH0 HK0 HA0
  go_enter Try.func20, Try.ntmps20
  go_wp2_with fail
  clear hw0
  go_loopw [6] (fun x wr => ∃ j : Nat, j ≤ i ∧ x = .int .i64 j ∧ Hid (Sees wr base (.slice A l.length cap) l) ∧ Hid (CellsAt wr w.heap.size #[.int .i64 k.kind, .string k.peer, .int .i64 k.fam] 30) ∧ Hid (Below w.heap.size w wr)) (fun x _ => i + 1 - (intOf x).toNat)
  case atStart => exact ⟨0, by omega, rfl, HH0.out, HK0.out, HA0.out⟩
  case round =>
    obtain ⟨j, hj, rfl, HH, HK, HA⟩ := hrel
    clear HH0 HK0 HA0
    have hjl : j < l.length := by omega
    by_cases hlt : j < i
    · obtain ⟨p, hp⟩ : ∃ p, l[j]? = some p := ⟨l[j], List.getElem?_eq_getElem hjl⟩
      have hne := HN.out j hlt p hp
      obtain ⟨g, off, rfl, _, _, c0, c1, c2, c3⟩ := HH.out.at_ hp
      obtain ⟨k0, k1, k2⟩ := HK.out.c3
      clear hp
      go_wp2_with fail
      refine wp_region_held_drew (S := fun w' => ∃ nd, w' = wr.drewN nd) (by kernel_rfl) (⟨1, rfl⟩) (fun hHeld => ?_)
      refine wpAnyH_take (i := 0) (oi := { dst := some 13, op := Op.move (Operand.tmp 0), type := 25, pos := "ref.go:45", after := #[], guard := none }) (v := ?_) rfl (by kernel_rfl) (by kernel_rfl) (by kernel_rfl) (fun _ _ _ h => h) (Or.inl ⟨by rfl, ?_⟩) hHeld ?_
      rotate_left
      · intro w hSw
        clear hSw
        go_simp
        try with_reducible rfl
      try simp only [Act.put, List.setIfInBounds_toArray, List.set_cons_zero, List.set_cons_succ]
      refine wpAnyH_take (i := 1) (oi := { dst := some 14, op := Op.move (Operand.tmp 6), type := 3, pos := "ref.go:45", after := #[], guard := none }) (v := ?_) rfl (by kernel_rfl) (by kernel_rfl) (by kernel_rfl) (fun _ _ _ h => h) (Or.inl ⟨by rfl, ?_⟩) hHeld ?_
      rotate_left
      · intro w hSw
        clear hSw
        go_simp
        try with_reducible rfl
      try simp only [Act.put, List.setIfInBounds_toArray, List.set_cons_zero, List.set_cons_succ]
      refine wpAnyH_take (i := 2) (oi := { dst := some 15, op := Op.indexAddr 25 (Operand.tmp 13) (Operand.tmp 14), type := 0, pos := "ref.go:45", after := #[{ on := 0, ground := Ground.data }, { on := 1, ground := Ground.data }], guard := none }) (v := ?_) rfl (by kernel_rfl) (by kernel_rfl) (by kernel_rfl) (fun _ _ _ h => h) (Or.inl ⟨by rfl, ?_⟩) hHeld ?_
      rotate_left
      · intro w hSw
        clear hSw
        go_simp
        try with_reducible rfl
      try simp only [Act.put, List.setIfInBounds_toArray, List.set_cons_zero, List.set_cons_succ]
      refine wpAnyH_take (i := 3) (oi := { dst := some 16, op := Op.fieldAddr 32 (Operand.tmp 15) 1, type := 0, pos := "ref.go:45", after := #[{ on := 2, ground := Ground.data }], guard := none }) (v := ?_) rfl (by kernel_rfl) (by kernel_rfl) (by kernel_rfl) (fun _ _ _ h => h) (Or.inl ⟨by rfl, ?_⟩) hHeld ?_
      rotate_left
      · intro w hSw
        clear hSw
        go_simp
        try with_reducible rfl
      try simp only [Act.put, List.setIfInBounds_toArray, List.set_cons_zero, List.set_cons_succ]
      refine wpAnyH_take (i := 4) (oi := { dst := some 17, op := Op.load 30 (Operand.tmp 16), type := 30, pos := "ref.go:45", after := #[{ on := 3, ground := Ground.data }], guard := none }) (v := ?_) rfl (by kernel_rfl) (by kernel_rfl) (by kernel_rfl) (fun _ _ _ h => h) (Or.inl ⟨by rfl, ?_⟩) hHeld ?_
      rotate_left
      · intro w hSw
        obtain ⟨nd, rfl⟩ := hSw
        go_simp
        try with_reducible rfl
      try simp only [Act.put, List.setIfInBounds_toArray, List.set_cons_zero, List.set_cons_succ]
      refine wpAnyH_take (i := 5) (oi := { dst := some 18, op := Op.load 30 (Operand.tmp 3), type := 30, pos := "ref.go:45", after := #[], guard := none }) (v := ?_) rfl (by kernel_rfl) (by kernel_rfl) (by kernel_rfl) (fun _ _ _ h => h) (Or.inl ⟨by rfl, ?_⟩) hHeld ?_
      rotate_left
      · intro w hSw
        obtain ⟨nd, rfl⟩ := hSw
        go_simp
        try with_reducible rfl
      try simp only [Act.put, List.setIfInBounds_toArray, List.set_cons_zero, List.set_cons_succ]
      refine wpAnyH_take (i := 6) (oi := { dst := some 19, op := Op.binOp BinOp.eql 30 (Operand.tmp 17) (Operand.tmp 18) 30, type := 4, pos := "ref.go:45", after := #[{ on := 4, ground := Ground.data }, { on := 5, ground := Ground.data }], guard := none }) (v := .bool false) rfl (by kernel_rfl) (by kernel_rfl) (by kernel_rfl) (fun _ _ _ h => h) (Or.inl ⟨by rfl, ?_⟩) hHeld ?_
      · intro w hSw
        clear hSw
        go_simp
        exact wk_no hne
      try simp only [Act.put, List.setIfInBounds_toArray, List.set_cons_zero, List.set_cons_succ]
      refine wpAnyH_done (by kernel_rfl) ?_ _
      go_wp2_with fail
      exact ⟨⟨j + 1, by omega, by go_num, HH.out.below (below_drewN (Below.refl _ _) 1), HK.out.drew 1, below_drewN HA.out 1⟩, by simp [intOf]; omega⟩
    · obtain rfl : j = i := by omega
      obtain ⟨g, off, rfl, _, _, c0, c1, c2, c3⟩ := HH.out.at_ HI.out
      obtain ⟨k0, k1, k2⟩ := HK.out.c3
      go_wp2_with fail
      refine wp_region_held_drew (S := fun w' => ∃ nd, w' = wr.drewN nd) (by kernel_rfl) (⟨1, rfl⟩) (fun hHeld => ?_)
      refine wpAnyH_take (i := 0) (oi := { dst := some 13, op := Op.move (Operand.tmp 0), type := 25, pos := "ref.go:45", after := #[], guard := none }) (v := ?_) rfl (by kernel_rfl) (by kernel_rfl) (by kernel_rfl) (fun _ _ _ h => h) (Or.inl ⟨by rfl, ?_⟩) hHeld ?_
      rotate_left
      · intro w hSw
        clear hSw
        go_simp
        try with_reducible rfl
      try simp only [Act.put, List.setIfInBounds_toArray, List.set_cons_zero, List.set_cons_succ]
      refine wpAnyH_take (i := 1) (oi := { dst := some 14, op := Op.move (Operand.tmp 6), type := 3, pos := "ref.go:45", after := #[], guard := none }) (v := ?_) rfl (by kernel_rfl) (by kernel_rfl) (by kernel_rfl) (fun _ _ _ h => h) (Or.inl ⟨by rfl, ?_⟩) hHeld ?_
      rotate_left
      · intro w hSw
        clear hSw
        go_simp
        try with_reducible rfl
      try simp only [Act.put, List.setIfInBounds_toArray, List.set_cons_zero, List.set_cons_succ]
      refine wpAnyH_take (i := 2) (oi := { dst := some 15, op := Op.indexAddr 25 (Operand.tmp 13) (Operand.tmp 14), type := 0, pos := "ref.go:45", after := #[{ on := 0, ground := Ground.data }, { on := 1, ground := Ground.data }], guard := none }) (v := ?_) rfl (by kernel_rfl) (by kernel_rfl) (by kernel_rfl) (fun _ _ _ h => h) (Or.inl ⟨by rfl, ?_⟩) hHeld ?_
      rotate_left
      · intro w hSw
        clear hSw
        go_simp
        try with_reducible rfl
      try simp only [Act.put, List.setIfInBounds_toArray, List.set_cons_zero, List.set_cons_succ]
      refine wpAnyH_take (i := 3) (oi := { dst := some 16, op := Op.fieldAddr 32 (Operand.tmp 15) 1, type := 0, pos := "ref.go:45", after := #[{ on := 2, ground := Ground.data }], guard := none }) (v := ?_) rfl (by kernel_rfl) (by kernel_rfl) (by kernel_rfl) (fun _ _ _ h => h) (Or.inl ⟨by rfl, ?_⟩) hHeld ?_
      rotate_left
      · intro w hSw
        clear hSw
        go_simp
        try with_reducible rfl
      try simp only [Act.put, List.setIfInBounds_toArray, List.set_cons_zero, List.set_cons_succ]
      refine wpAnyH_take (i := 4) (oi := { dst := some 17, op := Op.load 30 (Operand.tmp 16), type := 30, pos := "ref.go:45", after := #[{ on := 3, ground := Ground.data }], guard := none }) (v := ?_) rfl (by kernel_rfl) (by kernel_rfl) (by kernel_rfl) (fun _ _ _ h => h) (Or.inl ⟨by rfl, ?_⟩) hHeld ?_
      rotate_left
      · intro w hSw
        obtain ⟨nd, rfl⟩ := hSw
        go_simp
        try with_reducible rfl
      try simp only [Act.put, List.setIfInBounds_toArray, List.set_cons_zero, List.set_cons_succ]
      refine wpAnyH_take (i := 5) (oi := { dst := some 18, op := Op.load 30 (Operand.tmp 3), type := 30, pos := "ref.go:45", after := #[], guard := none }) (v := ?_) rfl (by kernel_rfl) (by kernel_rfl) (by kernel_rfl) (fun _ _ _ h => h) (Or.inl ⟨by rfl, ?_⟩) hHeld ?_
      rotate_left
      · intro w hSw
        obtain ⟨nd, rfl⟩ := hSw
        go_simp
        try with_reducible rfl
      try simp only [Act.put, List.setIfInBounds_toArray, List.set_cons_zero, List.set_cons_succ]
      refine wpAnyH_take (i := 6) (oi := { dst := some 19, op := Op.binOp BinOp.eql 30 (Operand.tmp 17) (Operand.tmp 18) 30, type := 4, pos := "ref.go:45", after := #[{ on := 4, ground := Ground.data }, { on := 5, ground := Ground.data }], guard := none }) (v := ?_) rfl (by kernel_rfl) (by kernel_rfl) (by kernel_rfl) (fun _ _ _ h => h) (Or.inl ⟨by rfl, ?_⟩) hHeld ?_
      rotate_left
      · intro w hSw
        clear hSw
        go_simp
        try with_reducible rfl
      try simp only [Act.put, List.setIfInBounds_toArray, List.set_cons_zero, List.set_cons_succ]
      refine wpAnyH_done (by kernel_rfl) ?_ _
      go_wp2_with fail
      go_ret2
      exact ⟨rfl, below_drewN HA.out 1⟩
set_option maxHeartbeats 4000000 in
theorem rat_none (l : List Tm) (base : Nat) (v : Value) (k : WK) (w : World) (h : Sees w base v l) (hM : l.length ≤ 1000000) (hn : ∀ p ∈ l, p.k ≠ k) :
    Calls Try.prog 20 #[v, k.v] w fun e w' => e = .returned (.tuple #[.int .u64 0, .bool false]) ∧ Below w.heap.size w w' := by
  obtain ⟨A, cap, rfl, hc1, hc2⟩ := h.form
  unfold maxLen at hc2
  have HH0 : Hid (Sees _ base _ l) := h.below (Below.alloc (Below.refl w.heap.size w) (Nat.le_refl _) (.cells #[.int .i64 k.kind, .string k.peer, .int .i64 k.fam] 30))
  have HK0 := Lib.hid (CellsAt.new w #[.int .i64 k.kind, .string k.peer, .int .i64 k.fam] 30)
  have HA0 := Lib.hid (Below.alloc (Below.refl w.heap.size w) (Nat.le_refl _) (.cells #[.int .i64 k.kind, .string k.peer, .int .i64 k.fam] 30))
  have HN := Lib.hid hn
  clear h hn
  unfold WK.v
  generalize hw0 : w.alloc (.cells #[.int .i64 k.kind, .string k.peer, .int .i64 k.fam] 30) = w0 at HH0 HK0 HA0
  go_enter Try.func20, Try.ntmps20
  go_wp2_with fail
  clear hw0
  go_loopw [6] (fun x wr => ∃ j : Nat, j ≤ l.length ∧ x = .int .i64 j ∧ Hid (Sees wr base (.slice A l.length cap) l) ∧ Hid (CellsAt wr w.heap.size #[.int .i64 k.kind, .string k.peer, .int .i64 k.fam] 30) ∧ Hid (Below w.heap.size w wr)) (fun x _ => l.length + 1 - (intOf x).toNat)
  case atStart => exact ⟨0, by omega, rfl, HH0.out, HK0.out, HA0.out⟩
  case round =>
    obtain ⟨j, hj, rfl, HH, HK, HA⟩ := hrel
    clear HH0 HK0 HA0
    by_cases hlt : j < l.length
    · obtain ⟨p, hp⟩ : ∃ p, l[j]? = some p := ⟨l[j], List.getElem?_eq_getElem hlt⟩
      have hne := HN.out p (List.mem_of_getElem? hp)
      obtain ⟨g, off, rfl, _, _, c0, c1, c2, c3⟩ := HH.out.at_ hp
      obtain ⟨k0, k1, k2⟩ := HK.out.c3
      clear hp
      go_wp2_with fail
      refine wp_region_held_drew (S := fun w' => ∃ nd, w' = wr.drewN nd) (by kernel_rfl) (⟨1, rfl⟩) (fun hHeld => ?_)
      refine wpAnyH_take (i := 0) (oi := { dst := some 13, op := Op.move (Operand.tmp 0), type := 25, pos := "ref.go:45", after := #[], guard := none }) (v := ?_) rfl (by kernel_rfl) (by kernel_rfl) (by kernel_rfl) (fun _ _ _ h => h) (Or.inl ⟨by rfl, ?_⟩) hHeld ?_
      rotate_left
      · intro w hSw
        clear hSw
        go_simp
        try with_reducible rfl
      try simp only [Act.put, List.setIfInBounds_toArray, List.set_cons_zero, List.set_cons_succ]
      refine wpAnyH_take (i := 1) (oi := { dst := some 14, op := Op.move (Operand.tmp 6), type := 3, pos := "ref.go:45", after := #[], guard := none }) (v := ?_) rfl (by kernel_rfl) (by kernel_rfl) (by kernel_rfl) (fun _ _ _ h => h) (Or.inl ⟨by rfl, ?_⟩) hHeld ?_
      rotate_left
      · intro w hSw
        clear hSw
        go_simp
        try with_reducible rfl
      try simp only [Act.put, List.setIfInBounds_toArray, List.set_cons_zero, List.set_cons_succ]
      refine wpAnyH_take (i := 2) (oi := { dst := some 15, op := Op.indexAddr 25 (Operand.tmp 13) (Operand.tmp 14), type := 0, pos := "ref.go:45", after := #[{ on := 0, ground := Ground.data }, { on := 1, ground := Ground.data }], guard := none }) (v := ?_) rfl (by kernel_rfl) (by kernel_rfl) (by kernel_rfl) (fun _ _ _ h => h) (Or.inl ⟨by rfl, ?_⟩) hHeld ?_
      rotate_left
      · intro w hSw
        clear hSw
        go_simp
        try with_reducible rfl
      try simp only [Act.put, List.setIfInBounds_toArray, List.set_cons_zero, List.set_cons_succ]
      refine wpAnyH_take (i := 3) (oi := { dst := some 16, op := Op.fieldAddr 32 (Operand.tmp 15) 1, type := 0, pos := "ref.go:45", after := #[{ on := 2, ground := Ground.data }], guard := none }) (v := ?_) rfl (by kernel_rfl) (by kernel_rfl) (by kernel_rfl) (fun _ _ _ h => h) (Or.inl ⟨by rfl, ?_⟩) hHeld ?_
      rotate_left
      · intro w hSw
        clear hSw
        go_simp
        try with_reducible rfl
      try simp only [Act.put, List.setIfInBounds_toArray, List.set_cons_zero, List.set_cons_succ]
      refine wpAnyH_take (i := 4) (oi := { dst := some 17, op := Op.load 30 (Operand.tmp 16), type := 30, pos := "ref.go:45", after := #[{ on := 3, ground := Ground.data }], guard := none }) (v := ?_) rfl (by kernel_rfl) (by kernel_rfl) (by kernel_rfl) (fun _ _ _ h => h) (Or.inl ⟨by rfl, ?_⟩) hHeld ?_
      rotate_left
      · intro w hSw
        obtain ⟨nd, rfl⟩ := hSw
        go_simp
        try with_reducible rfl
      try simp only [Act.put, List.setIfInBounds_toArray, List.set_cons_zero, List.set_cons_succ]
      refine wpAnyH_take (i := 5) (oi := { dst := some 18, op := Op.load 30 (Operand.tmp 3), type := 30, pos := "ref.go:45", after := #[], guard := none }) (v := ?_) rfl (by kernel_rfl) (by kernel_rfl) (by kernel_rfl) (fun _ _ _ h => h) (Or.inl ⟨by rfl, ?_⟩) hHeld ?_
      rotate_left
      · intro w hSw
        obtain ⟨nd, rfl⟩ := hSw
        go_simp
        try with_reducible rfl
      try simp only [Act.put, List.setIfInBounds_toArray, List.set_cons_zero, List.set_cons_succ]
      refine wpAnyH_take (i := 6) (oi := { dst := some 19, op := Op.binOp BinOp.eql 30 (Operand.tmp 17) (Operand.tmp 18) 30, type := 4, pos := "ref.go:45", after := #[{ on := 4, ground := Ground.data }, { on := 5, ground := Ground.data }], guard := none }) (v := .bool false) rfl (by kernel_rfl) (by kernel_rfl) (by kernel_rfl) (fun _ _ _ h => h) (Or.inl ⟨by rfl, ?_⟩) hHeld ?_
      · intro w hSw
        clear hSw
        go_simp
        exact wk_no hne
      try simp only [Act.put, List.setIfInBounds_toArray, List.set_cons_zero, List.set_cons_succ]
      refine wpAnyH_done (by kernel_rfl) ?_ _
      go_wp2_with fail
      exact ⟨⟨j + 1, by omega, by go_num, HH.out.below (below_drewN (Below.refl _ _) 1), HK.out.drew 1, below_drewN HA.out 1⟩, by simp [intOf]; omega⟩
    · obtain rfl : j = l.length := by omega
      go_wp2_with fail
      go_ret2
      exact ⟨rfl, HA.out⟩

open Classical in
/-- a list without a key -/
noncomputable def canT (l : List Tm) (k : WK) : List Tm := l.filter fun p => decide (p.k ≠ k)
theorem canT_snoc_no (M : List Tm) (k : WK) (p : Tm) (h : p.k ≠ k) : canT (M ++ [p]) k = canT M k ++ [p] := by simp [canT, List.filter_append, h]
theorem canT_snoc_is (M : List Tm) (k : WK) (p : Tm) (h : p.k = k) : canT (M ++ [p]) k = canT M k := by simp [canT, List.filter_append, h]
def peerL (l : List Tm) (peer : ByteArray) : List Tm := l.filter fun p => !peerF peer p
theorem peerL_snoc_no (M : List Tm) (k : ByteArray) (p : Tm) (h : peerF k p = false) : peerL (M ++ [p]) k = peerL M k ++ [p] := by simp [peerL, List.filter_append, h]
theorem peerL_snoc_is (M : List Tm) (k : ByteArray) (p : Tm) (h : peerF k p = true) : peerL (M ++ [p]) k = peerL M k := by simp [peerL, List.filter_append, h]
def RListPost (w : World) (m : List Tm) (e : Ending) (w' : World) : Prop := ∃ v', e = .returned v' ∧ FiredAt w' w.heap.size v' m ∧ Below w.heap.size w w'
set_option maxRecDepth 100000 in
set_option maxHeartbeats 4000000 in
theorem rcan_any (l : List Tm) (base : Nat) (v : Value) (k : WK) (w : World) (h : Sees w base v l) (hM : l.length ≤ 1000000) :
    Calls Try.prog 22 #[v, k.v] w (RListPost w (canT l k)) := by
  obtain ⟨i0, hi0, hz0, hz1, hz2⟩ := info_parts infoFired
  obtain ⟨A, cap, rfl, hc1, hc2⟩ := h.form
  unfold maxLen at hc2
  have HH0 : Hid (Sees _ base _ l) := h.below (Below.alloc (Below.refl w.heap.size w) (Nat.le_refl _) (.cells #[.int .i64 k.kind, .string k.peer, .int .i64 k.fam] 30))
  have HK0 := Lib.hid (CellsAt.new w #[.int .i64 k.kind, .string k.peer, .int .i64 k.fam] 30)
  have HA0 := Lib.hid (Below.alloc (Below.refl w.heap.size w) (Nat.le_refl _) (.cells #[.int .i64 k.kind, .string k.peer, .int .i64 k.fam] 30))
  have HLT := Lib.hid (fun g (hg : (Value.slice A l.length cap).ownBlock = some g) (hl : 0 < l.length) => (by obtain ⟨A', c', e, _, _, _, _, h5⟩ := h.ex; simp only [Value.slice.injEq] at e; obtain ⟨rfl, _, _⟩ := e; obtain ⟨g', off, rfl, _, h8, _⟩ := h5 hl; simp [Value.ownBlock] at hg; omega : g < w.heap.size))
  clear h
  unfold WK.v
  generalize hw0 : w.alloc (.cells #[.int .i64 k.kind, .string k.peer, .int .i64 k.fam] 30) = w0 at HH0 HK0 HA0
  go_enter Try.func22, Try.ntmps22
  go_wp2_with fail
  clear hw0
  go_loopw [5, 6] (fun o x wr => ∃ j : Nat, j ≤ l.length ∧ x = .int .i64 j ∧ Hid (Sees wr base (.slice A l.length cap) l) ∧ Hid (CellsAt wr w.heap.size #[.int .i64 k.kind, .string k.peer, .int .i64 k.fam] 30) ∧ Hid (FiredAt wr (w.heap.size + 1) o (canT (l.take j) k)) ∧ Hid (Below w.heap.size w wr)) (fun _ x _ => l.length + 1 - (intOf x).toNat)
  case atStart => exact ⟨0, by omega, rfl, HH0.out, HK0.out, by show OwnM _ _ _ _ _ _ _; exact OwnM.nil _ _ _ _, HA0.out⟩
  case round =>
    obtain ⟨j, hj, rfl, HH, HK, HO, HA⟩ := hrel
    clear HH0 HK0 HA0
    have hg1 : (canT (l.take j) k).length ≤ j := by
      have h1 : (canT (l.take j) k).length ≤ (l.take j).length := List.length_filter_le _ _
      rw [List.length_take] at h1
      omega
    by_cases hlt : j < l.length
    · obtain ⟨p, hp⟩ : ∃ p, l[j]? = some p := ⟨l[j], List.getElem?_eq_getElem hlt⟩
      have HT : Hid (l.take (j + 1) = l.take j ++ [p]) := by
        show _ = _
        rw [List.take_add_one, hp]
        rfl
      obtain ⟨g, off, rfl, hbg, hgs, c0, c1, c2, c3⟩ := HH.out.at_ hp
      obtain ⟨pn, pk⟩ := p
      simp only at c0 c1 c2 c3
      by_cases hne : pk = k
      · have HG := Lib.hid (canT_snoc_is (l.take j) k ⟨pn, pk⟩ hne)
        rw [← HT.out] at HG
        subst hne
        obtain ⟨k0, k1, k2⟩ := HK.out.c3
        clear HT hp
        go_wp2_with fail
        refine wp_region_held_drew (S := fun w' => ∃ nd, w' = wr.drewN nd) (by kernel_rfl) (⟨1, rfl⟩) (fun hHeld => ?_)
        refine wpAnyH_take (i := 0) (oi := { dst := some 13, op := Op.move (Operand.tmp 0), type := 25, pos := "ref.go:56", after := #[], guard := none }) (v := ?_) rfl (by kernel_rfl) (by kernel_rfl) (by kernel_rfl) (fun _ _ _ h => h) (Or.inl ⟨by rfl, ?_⟩) hHeld ?_
        rotate_left
        · intro w hSw
          clear hSw
          go_simp
          try with_reducible rfl
        try simp only [Act.put, List.setIfInBounds_toArray, List.set_cons_zero, List.set_cons_succ]
        refine wpAnyH_take (i := 1) (oi := { dst := some 14, op := Op.move (Operand.tmp 6), type := 3, pos := "ref.go:56", after := #[], guard := none }) (v := ?_) rfl (by kernel_rfl) (by kernel_rfl) (by kernel_rfl) (fun _ _ _ h => h) (Or.inl ⟨by rfl, ?_⟩) hHeld ?_
        rotate_left
        · intro w hSw
          clear hSw
          go_simp
          try with_reducible rfl
        try simp only [Act.put, List.setIfInBounds_toArray, List.set_cons_zero, List.set_cons_succ]
        refine wpAnyH_take (i := 2) (oi := { dst := some 15, op := Op.indexAddr 25 (Operand.tmp 13) (Operand.tmp 14), type := 0, pos := "ref.go:56", after := #[{ on := 0, ground := Ground.data }, { on := 1, ground := Ground.data }], guard := none }) (v := ?_) rfl (by kernel_rfl) (by kernel_rfl) (by kernel_rfl) (fun _ _ _ h => h) (Or.inl ⟨by rfl, ?_⟩) hHeld ?_
        rotate_left
        · intro w hSw
          clear hSw
          go_simp
          try with_reducible rfl
        try simp only [Act.put, List.setIfInBounds_toArray, List.set_cons_zero, List.set_cons_succ]
        refine wpAnyH_take (i := 3) (oi := { dst := some 16, op := Op.fieldAddr 32 (Operand.tmp 15) 1, type := 0, pos := "ref.go:56", after := #[{ on := 2, ground := Ground.data }], guard := none }) (v := ?_) rfl (by kernel_rfl) (by kernel_rfl) (by kernel_rfl) (fun _ _ _ h => h) (Or.inl ⟨by rfl, ?_⟩) hHeld ?_
        rotate_left
        · intro w hSw
          clear hSw
          go_simp
          try with_reducible rfl
        try simp only [Act.put, List.setIfInBounds_toArray, List.set_cons_zero, List.set_cons_succ]
        refine wpAnyH_take (i := 4) (oi := { dst := some 17, op := Op.load 30 (Operand.tmp 16), type := 30, pos := "ref.go:56", after := #[{ on := 3, ground := Ground.data }], guard := none }) (v := ?_) rfl (by kernel_rfl) (by kernel_rfl) (by kernel_rfl) (fun _ _ _ h => h) (Or.inl ⟨by rfl, ?_⟩) hHeld ?_
        rotate_left
        · intro w hSw
          obtain ⟨nd, rfl⟩ := hSw
          go_simp
          try with_reducible rfl
        try simp only [Act.put, List.setIfInBounds_toArray, List.set_cons_zero, List.set_cons_succ]
        refine wpAnyH_take (i := 5) (oi := { dst := some 18, op := Op.load 30 (Operand.tmp 3), type := 30, pos := "ref.go:56", after := #[], guard := none }) (v := ?_) rfl (by kernel_rfl) (by kernel_rfl) (by kernel_rfl) (fun _ _ _ h => h) (Or.inl ⟨by rfl, ?_⟩) hHeld ?_
        rotate_left
        · intro w hSw
          obtain ⟨nd, rfl⟩ := hSw
          go_simp
          try with_reducible rfl
        try simp only [Act.put, List.setIfInBounds_toArray, List.set_cons_zero, List.set_cons_succ]
        refine wpAnyH_take (i := 6) (oi := { dst := some 19, op := Op.binOp BinOp.neq 30 (Operand.tmp 17) (Operand.tmp 18) 30, type := 4, pos := "ref.go:56", after := #[{ on := 4, ground := Ground.data }, { on := 5, ground := Ground.data }], guard := none }) (v := ?_) rfl (by kernel_rfl) (by kernel_rfl) (by kernel_rfl) (fun _ _ _ h => h) (Or.inl ⟨by rfl, ?_⟩) hHeld ?_
        rotate_left
        · intro w hSw
          clear hSw
          go_simp
          try with_reducible rfl
        try simp only [Act.put, List.setIfInBounds_toArray, List.set_cons_zero, List.set_cons_succ]
        refine wpAnyH_done (by kernel_rfl) ?_ _
        go_wp2_with fail
        exact ⟨⟨j + 1, by omega, by go_num, HH.out.below (below_drewN (Below.refl _ _) 1), HK.out.drew 1, by rw [HG.out]; exact HO.out.drew, below_drewN HA.out 1⟩, by simp [intOf]; omega⟩
      · have hneg : ¬ pk = k := hne
        have HG := Lib.hid (canT_snoc_no (l.take j) k ⟨pn, pk⟩ hneg)
        rw [← HT.out] at HG
        obtain ⟨k0, k1, k2⟩ := HK.out.c3
        obtain ⟨A2, cp2, rfl⟩ := OwnM.form HO.out
        clear HT hp
        go_wp2_with fail
        refine wp_region_held_drew (S := fun w' => ∃ nd, w' = wr.drewN nd) (by kernel_rfl) (⟨1, rfl⟩) (fun hHeld => ?_)
        refine wpAnyH_take (i := 0) (oi := { dst := some 13, op := Op.move (Operand.tmp 0), type := 25, pos := "ref.go:56", after := #[], guard := none }) (v := ?_) rfl (by kernel_rfl) (by kernel_rfl) (by kernel_rfl) (fun _ _ _ h => h) (Or.inl ⟨by rfl, ?_⟩) hHeld ?_
        rotate_left
        · intro w hSw
          clear hSw
          go_simp
          try with_reducible rfl
        try simp only [Act.put, List.setIfInBounds_toArray, List.set_cons_zero, List.set_cons_succ]
        refine wpAnyH_take (i := 1) (oi := { dst := some 14, op := Op.move (Operand.tmp 6), type := 3, pos := "ref.go:56", after := #[], guard := none }) (v := ?_) rfl (by kernel_rfl) (by kernel_rfl) (by kernel_rfl) (fun _ _ _ h => h) (Or.inl ⟨by rfl, ?_⟩) hHeld ?_
        rotate_left
        · intro w hSw
          clear hSw
          go_simp
          try with_reducible rfl
        try simp only [Act.put, List.setIfInBounds_toArray, List.set_cons_zero, List.set_cons_succ]
        refine wpAnyH_take (i := 2) (oi := { dst := some 15, op := Op.indexAddr 25 (Operand.tmp 13) (Operand.tmp 14), type := 0, pos := "ref.go:56", after := #[{ on := 0, ground := Ground.data }, { on := 1, ground := Ground.data }], guard := none }) (v := ?_) rfl (by kernel_rfl) (by kernel_rfl) (by kernel_rfl) (fun _ _ _ h => h) (Or.inl ⟨by rfl, ?_⟩) hHeld ?_
        rotate_left
        · intro w hSw
          clear hSw
          go_simp
          try with_reducible rfl
        try simp only [Act.put, List.setIfInBounds_toArray, List.set_cons_zero, List.set_cons_succ]
        refine wpAnyH_take (i := 3) (oi := { dst := some 16, op := Op.fieldAddr 32 (Operand.tmp 15) 1, type := 0, pos := "ref.go:56", after := #[{ on := 2, ground := Ground.data }], guard := none }) (v := ?_) rfl (by kernel_rfl) (by kernel_rfl) (by kernel_rfl) (fun _ _ _ h => h) (Or.inl ⟨by rfl, ?_⟩) hHeld ?_
        rotate_left
        · intro w hSw
          clear hSw
          go_simp
          try with_reducible rfl
        try simp only [Act.put, List.setIfInBounds_toArray, List.set_cons_zero, List.set_cons_succ]
        refine wpAnyH_take (i := 4) (oi := { dst := some 17, op := Op.load 30 (Operand.tmp 16), type := 30, pos := "ref.go:56", after := #[{ on := 3, ground := Ground.data }], guard := none }) (v := ?_) rfl (by kernel_rfl) (by kernel_rfl) (by kernel_rfl) (fun _ _ _ h => h) (Or.inl ⟨by rfl, ?_⟩) hHeld ?_
        rotate_left
        · intro w hSw
          obtain ⟨nd, rfl⟩ := hSw
          go_simp
          try with_reducible rfl
        try simp only [Act.put, List.setIfInBounds_toArray, List.set_cons_zero, List.set_cons_succ]
        refine wpAnyH_take (i := 5) (oi := { dst := some 18, op := Op.load 30 (Operand.tmp 3), type := 30, pos := "ref.go:56", after := #[], guard := none }) (v := ?_) rfl (by kernel_rfl) (by kernel_rfl) (by kernel_rfl) (fun _ _ _ h => h) (Or.inl ⟨by rfl, ?_⟩) hHeld ?_
        rotate_left
        · intro w hSw
          obtain ⟨nd, rfl⟩ := hSw
          go_simp
          try with_reducible rfl
        try simp only [Act.put, List.setIfInBounds_toArray, List.set_cons_zero, List.set_cons_succ]
        refine wpAnyH_take (i := 6) (oi := { dst := some 19, op := Op.binOp BinOp.neq 30 (Operand.tmp 17) (Operand.tmp 18) 30, type := 4, pos := "ref.go:56", after := #[{ on := 4, ground := Ground.data }, { on := 5, ground := Ground.data }], guard := none }) (v := .bool true) rfl (by kernel_rfl) (by kernel_rfl) (by kernel_rfl) (fun _ _ _ h => h) (Or.inl ⟨by rfl, ?_⟩) hHeld ?_
        · intro w hSw
          clear hSw
          go_simp
          exact wk_no hne
        try simp only [Act.put, List.setIfInBounds_toArray, List.set_cons_zero, List.set_cons_succ]
        refine wpAnyH_done (by kernel_rfl) ?_ _
        go_wp2_with (at_builtin; refine wpList_append_m rfl (.tmp 20) (.tmp 25) 25 25 rfl (w.heap.size + 1) 32 i0 _ 4 40 Try.underlying25 hi0 hz0 hz1 hz2 rfl ?b0 _ (canT (l.take j) k).length (flatT (canT (l.take j) k)) rfl ?b1 _ 1 (flatT [⟨pn, pk⟩]) rfl ?b2 ?b3 ?b4 ?b5 ?b6)
        case b0 => omega
        case b1 => exact OwnM.alloc HO.out.drew _
        case b2 => exact Src.new (w := wr.drew) _ _ Try.underlying25 rfl (fun u hu => flatT_one [⟨pn, pk⟩] u hu)
        case b3 => (unfold maxLen; omega)
        case b4 => omega
        case b5 =>
          have := HA.out.size
          simp
          omega
        intro v' w5 hown hgr hat
        have hnb := fun g (hg : (Value.slice A2 (canT (l.take j) k).length cp2).ownBlock = some g) => (HO.out.lt g hg).1
        have hX : GrownX (fun i => (Value.slice A2 (canT (l.take j) k).length cp2).ownBlock = some i) wr.drew w5 := (GrownX.of_below ((Below.refl wr.drew.heap.size wr.drew).alloc (Nat.le_refl _) (.cells #[.int .u64 (pn : Nat), .int .i64 pk.kind, .string pk.peer, .int .i64 pk.fam] 32))).trans ⟨hgr.os, hgr.tape, hgr.output, hgr.size, fun i hi hx => hgr.block i hi (fun e => hx e.symm)⟩
        have hX' : GrownX (fun i => (Value.slice A2 (canT (l.take j) k).length cp2).ownBlock = some i) wr w5 := (GrownX.of_below (below_drewN (Below.refl _ _) 1)).trans hX
        have HH2 := Lib.hid (HH.out.keep (w' := w5) (fun g' h1 h2 h3 => hX'.block g' h2 (fun e => by have := hnb _ e; have h9 := HLT.out g' h3 (by omega); omega)) hX'.size)
        have HK2 := Lib.hid (HK.out.grownX hX' (fun e => by have := hnb _ e; omega))
        have HA2 : Hid (Below w.heap.size w w5) := hX'.below HA.out (fun i hi => by have := hnb i hi; omega) HA.out.size
        have HO2 : Hid (FiredAt w5 (w.heap.size + 1) v' (canT (l.take (j + 1)) k)) := by
          show OwnM _ _ _ _ _ _ _
          rw [HG.out, flatT_append, List.length_append]
          exact hown
        clear hown hgr hat hX hX' hnb c0 c1 c2 c3 k0 k1 k2
        go_wp2_with fail
        exact ⟨⟨j + 1, by omega, by go_num, HH2.out, HK2.out, HO2.out, HA2.out⟩, by simp [intOf]; omega⟩
    · obtain rfl : j = l.length := by omega
      rw [List.take_length] at HO
      go_wp2_with fail
      go_ret
      exact ⟨_, rfl, HO.out.lower (by omega), HA.out⟩
set_option maxRecDepth 100000 in
set_option maxHeartbeats 4000000 in
theorem rdrop_any (l : List Tm) (base : Nat) (v : Value) (peer : ByteArray) (w : World) (h : Sees w base v l) (hM : l.length ≤ 1000000) :
    Calls Try.prog 25 #[v, .string peer] w (RListPost w (peerL l peer)) := by
  obtain ⟨i0, hi0, hz0, hz1, hz2⟩ := info_parts infoFired
  obtain ⟨A, cap, rfl, hc1, hc2⟩ := h.form
  unfold maxLen at hc2
  have HH0 := Lib.hid h
  have HA0 := Lib.hid (Below.refl w.heap.size w)
  have HLT := Lib.hid (fun g (hg : (Value.slice A l.length cap).ownBlock = some g) (hl : 0 < l.length) => (by obtain ⟨A', c', e, _, _, _, _, h5⟩ := h.ex; simp only [Value.slice.injEq] at e; obtain ⟨rfl, _, _⟩ := e; obtain ⟨g', off, rfl, _, h8, _⟩ := h5 hl; simp [Value.ownBlock] at hg; omega : g < w.heap.size))
  clear h
  go_enter Try.func25, Try.ntmps25
  go_wp2_with fail
  go_loopw [5, 6] (fun o x wr => ∃ j : Nat, j ≤ l.length ∧ x = .int .i64 j ∧ Hid (Sees wr base (.slice A l.length cap) l) ∧ Hid (FiredAt wr (w.heap.size) o (peerL (l.take j) peer)) ∧ Hid (Below w.heap.size w wr)) (fun _ x _ => l.length + 1 - (intOf x).toNat)
  case atStart => exact ⟨0, by omega, rfl, HH0.out, by show OwnM _ _ _ _ _ _ _; exact OwnM.nil _ _ _ _, HA0.out⟩
  case round =>
    obtain ⟨j, hj, rfl, HH, HO, HA⟩ := hrel
    clear HH0 HA0
    have hg1 : (peerL (l.take j) peer).length ≤ j := by
      have h1 : (peerL (l.take j) peer).length ≤ (l.take j).length := List.length_filter_le _ _
      rw [List.length_take] at h1
      omega
    by_cases hlt : j < l.length
    · obtain ⟨p, hp⟩ : ∃ p, l[j]? = some p := ⟨l[j], List.getElem?_eq_getElem hlt⟩
      have HT : Hid (l.take (j + 1) = l.take j ++ [p]) := by
        show _ = _
        rw [List.take_add_one, hp]
        rfl
      obtain ⟨g, off, rfl, hbg, hgs, c0, c1, c2, c3⟩ := HH.out.at_ hp
      obtain ⟨pn, pk⟩ := p
      simp only at c0 c1 c2 c3
      by_cases hne : peerF peer ⟨pn, pk⟩ = true
      · have HG := Lib.hid (peerL_snoc_is (l.take j) peer ⟨pn, pk⟩ hne)
        rw [← HT.out] at HG
        have hq : (pk.peer.toList == peer.toList) = true := hne
        have hq2 : (pk.peer.toList != peer.toList) = false := by rw [bne, hq]; rfl
        have hq3 : pk.peer.toList = peer.toList := by simpa using hq
        clear HT hp
        go_wp2_with fail
        exact ⟨⟨j + 1, by omega, by go_num, HH.out, by rw [HG.out]; exact HO.out, HA.out⟩, by simp [intOf]; omega⟩
      · have hneg : peerF peer ⟨pn, pk⟩ = false := by simpa using hne
        have HG := Lib.hid (peerL_snoc_no (l.take j) peer ⟨pn, pk⟩ hneg)
        rw [← HT.out] at HG
        have hq : (pk.peer.toList == peer.toList) = false := hneg
        have hq2 : (pk.peer.toList != peer.toList) = true := by rw [bne, hq]; rfl
        have hq3 : ¬ pk.peer.toList = peer.toList := by simpa using hq
        obtain ⟨A2, cp2, rfl⟩ := OwnM.form HO.out
        clear HT hp
        go_wp2_with (at_builtin; refine wpList_append_m rfl (.tmp 21) (.tmp 26) 25 25 rfl (w.heap.size) 32 i0 _ 4 40 Try.underlying25 hi0 hz0 hz1 hz2 rfl ?b0 _ (peerL (l.take j) peer).length (flatT (peerL (l.take j) peer)) rfl ?b1 _ 1 (flatT [⟨pn, pk⟩]) rfl ?b2 ?b3 ?b4 ?b5 ?b6)
        case b0 => omega
        case b1 => exact OwnM.alloc HO.out _
        case b2 => exact Src.new (w := wr) _ _ Try.underlying25 rfl (fun u hu => flatT_one [⟨pn, pk⟩] u hu)
        case b3 => (unfold maxLen; omega)
        case b4 => omega
        case b5 =>
          have := HA.out.size
          simp
          omega
        intro v' w5 hown hgr hat
        have hnb := fun g (hg : (Value.slice A2 (peerL (l.take j) peer).length cp2).ownBlock = some g) => (HO.out.lt g hg).1
        have hX : GrownX (fun i => (Value.slice A2 (peerL (l.take j) peer).length cp2).ownBlock = some i) wr w5 := (GrownX.of_below ((Below.refl wr.heap.size wr).alloc (Nat.le_refl _) (.cells #[.int .u64 (pn : Nat), .int .i64 pk.kind, .string pk.peer, .int .i64 pk.fam] 32))).trans ⟨hgr.os, hgr.tape, hgr.output, hgr.size, fun i hi hx => hgr.block i hi (fun e => hx e.symm)⟩
        have hX' : GrownX (fun i => (Value.slice A2 (peerL (l.take j) peer).length cp2).ownBlock = some i) wr w5 := (GrownX.of_below (Below.refl _ _)).trans hX
        have HH2 := Lib.hid (HH.out.keep (w' := w5) (fun g' h1 h2 h3 => hX'.block g' h2 (fun e => by have := hnb _ e; have h9 := HLT.out g' h3 (by omega); omega)) hX'.size)
        have HA2 : Hid (Below w.heap.size w w5) := hX'.below HA.out (fun i hi => by have := hnb i hi; omega) HA.out.size
        have HO2 : Hid (FiredAt w5 (w.heap.size) v' (peerL (l.take (j + 1)) peer)) := by
          show OwnM _ _ _ _ _ _ _
          rw [HG.out, flatT_append, List.length_append]
          exact hown
        clear hown hgr hat hX hX' hnb c0 c1 c2 c3
        go_wp2_with fail
        exact ⟨⟨j + 1, by omega, by go_num, HH2.out, HO2.out, HA2.out⟩, by simp [intOf]; omega⟩
    · obtain rfl : j = l.length := by omega
      rw [List.take_length] at HO
      go_wp2_with fail
      go_ret
      exact ⟨_, rfl, HO.out.lower (by omega), HA.out⟩
end Go.Proofs.Ytcgegaahdbnacaa
