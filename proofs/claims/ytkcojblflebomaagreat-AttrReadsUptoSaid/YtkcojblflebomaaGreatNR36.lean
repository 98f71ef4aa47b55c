/-
  Several texts in one.
-/
import Derived.Test.YtkcojblflebomaaGreatNR28
import Derived.OrdersHeld
import Derived.Test.YtkcojblflebomaaGreatNR35
set_option linter.unusedVariables false
set_option linter.unusedSimpArgs false
namespace Go.Proofs.YtkcojblflebomaaGreat
open Go.RowKit Go.MapKept Go.Shelf
open Go.Lib hiding intOf
open Go.Sort hiding Below

/-- more behind a list of one's own -/
theorem wpList_more {α : Type} {F : α → List Value} {C by_ : Nat} {t e : TypeId} (ht : Tryz.prog.underlying t = some (.slice e)) (z : Value) (hi : (Tryz.prog.info? e).map (fun i => (i.zero, i.size, i.bytes)) = some (some z, C, by_)) (hzs : z.cells.size = C) (hC : 0 < C) (hF : ∀ a, (F a).length = C) (h1 : ∀ a, ∀ u ∈ F a, u.oneCell' = true)
    {ops : Array Oper} {rest : List Oper} {op : Oper} {a : Act} {Q : Exit → Act → World → Prop} {W : World} (hgd : op.guard = none) (s p : Operand) (ho : op.op = .call { callee := .builtin .append, args := #[s, p], argTypes := #[t, t] })
    (base : Nat) (A : Option Addr) (n c : Nat) (O : List α) (hn : n = O.length) (hs : a.eval s = .slice A n c) (hown : OwnL W base e C F (.slice A n c) O) (X : List α) (B : Option Addr) (m d : Nat) (hm : m = X.length) (hp : a.eval p = .slice B m d) (hr : Rd W B C (X.map F)) (hb : base ≤ W.heap.size) (hl : n + m ≤ maxLen) (hby : (n + m) * by_ ≤ 140737488355328)
    (h : ∀ A' c' w', Hid (OwnL w' base e C F (.slice A' (n + m) c') (O ++ X)) → Hid (W.grownBy w' (Value.slice A n c).ownBlock) → wpList Tryz.prog ops Q rest (a.put op.dst (.slice A' (n + m) c')) w') : wpList Tryz.prog ops Q (op :: rest) a W := by
  subst hn
  subst hm
  cases hin : Tryz.prog.info? e with
  | none => rw [hin] at hi; cases hi
  | some i0 =>
    rw [hin] at hi
    simp only [Option.map_some, Option.some.injEq, Prod.mk.injEq] at hi
    obtain ⟨hz0, hz1, hz2⟩ := hi
    refine wpList_append_m hgd s p t t ho base e i0 z C by_ ht hin hz0 hz1 hz2 hzs hC (.slice A O.length c) O.length (O.flatMap F) hs hown _ X.length _ hp (Rd.src ht hC hF h1 hr) hl hby hb ?_
    intro v' w5 hown5 hgr hat
    obtain ⟨A6, c6, rfl⟩ := hown5.form
    have h2 : OwnL w5 base e C F (.slice A6 (O.length + X.length) c6) (O ++ X) := by
      show OwnM _ _ _ _ _ _ _
      rw [List.length_append, List.flatMap_append]
      exact hown5
    exact h A6 c6 w5 h2 hgr
theorem rd_of {α : Type} {F : α → List Value} {w : World} {base : Nat} {e : TypeId} {C : Nat} {A : Option Addr} {n c : Nat} {xs : List α} (hF : ∀ a, (F a).length = C) (h : OwnL w base e C F (.slice A n c) xs) : Rd w A C (xs.map F) ∧ n = xs.length ∧ n ≤ c ∧ c ≤ maxLen := by
  obtain ⟨A2, c2, hv, hr, hl, hc⟩ := OwnL.rd hF h
  injection hv with e1 e2 e3
  subst e1 e2 e3
  exact ⟨hr, rfl, hl, hc⟩
theorem rd_take {α : Type} {F : α → List Value} {w : World} {A : Option Addr} {C : Nat} {xs : List α} (h : Rd w A C (xs.map F)) (k : Nat) : Rd w A C ((xs.take k).map F) := by
  intro hl
  rw [List.length_map, List.length_take] at hl
  obtain ⟨b, off, hA, hb, hc⟩ := h (by rw [List.length_map]; omega)
  refine ⟨b, off, hA, hb, fun i cs hi j u hu => hc i cs ?_ j u hu⟩
  rw [List.getElem?_map] at hi ⊢
  by_cases hin : i < k
  · rwa [List.getElem?_take_of_lt hin] at hi
  · rw [List.getElem?_take_eq_none (by omega)] at hi
    cases hi
theorem rd_drop {α : Type} {F : α → List Value} {w : World} {b off C : Nat} {xs : List α} (h : Rd w (some ⟨b, off, none⟩) C (xs.map F)) (k : Nat) : Rd w (some ⟨b, off + k * C, none⟩) C ((xs.drop k).map F) := by
  intro hl
  rw [List.length_map, List.length_drop] at hl
  obtain ⟨b2, off2, hA, hb, hc⟩ := h (by rw [List.length_map]; omega)
  simp only [Option.some.injEq, Addr.mk.injEq, and_true] at hA
  obtain ⟨rfl, rfl⟩ := hA
  refine ⟨b, off + k * C, rfl, hb, fun i cs hi j u hu => ?_⟩
  rw [List.getElem?_map, List.getElem?_drop] at hi
  have h2 := hc (k + i) cs (by rw [List.getElem?_map]; exact hi) j u hu
  rw [show off + k * C + i * C + j = off + (k + i) * C + j by rw [Nat.add_mul]; omega]
  exact h2
theorem u64_at {w : World} {A : Option Addr} {l : List Nat} {i x : Nat} (h : Rd w A 1 (l.map x1)) (hi : l[i]? = some x) : ∃ b off, A = some ⟨b, off, none⟩ ∧ b < w.heap.size ∧ w.cell? ⟨b, off + i, none⟩ = some (.int .u64 (x : Nat)) := by
  obtain ⟨b, off, hA, hb, hc⟩ := h.at_ (i := i) (cs := x1 x) (by rw [List.getElem?_map, hi]; rfl)
  have h2 := hc 0 (.int .u64 (x : Nat)) rfl
  rw [Nat.mul_one, Nat.add_zero] at h2
  exact ⟨b, off, hA, hb, h2⟩
theorem u64_here {w : World} {b off : Nat} {l : List Nat} {i x : Nat} (h : Rd w (some ⟨b, off, none⟩) 1 (l.map x1)) (hi : l[i]? = some x) : w.cell? ⟨b, off + i, none⟩ = some (.int .u64 (x : Nat)) := by
  obtain ⟨b2, o2, hA, _, h2⟩ := u64_at h hi
  simp only [Option.some.injEq, Addr.mk.injEq, and_true] at hA
  obtain ⟨rfl, rfl⟩ := hA
  exact h2
theorem rd_new1 {α : Type} {F : α → List Value} {C : Nat} {w : World} {b : Nat} {cs : Array Value} {T : TypeId} {x : α} (h : CellsAt w b cs T) (hcs : cs = (F x).toArray) : Rd w (some ⟨b, 0, none⟩) C ([x].map F) := by
  subst hcs
  intro _
  refine ⟨b, 0, rfl, h.lt, fun i ds hi j u hu => ?_⟩
  match i, hi with
  | 0, hi =>
    obtain rfl : F x = ds := Option.some.inj hi
    rw [Nat.zero_mul, Nat.zero_add, h.c]
    simpa using hu
  | i + 1, hi => simp at hi
set_option maxRecDepth 100000 in
set_option maxHeartbeats 8000000 in
theorem narrow_any (A : Option Addr) (l : List Nat) (cap : Nat) (w : World) (h : Rd w A 1 (l.map x1)) (hl : l.length ≤ cap) (hc : cap ≤ 9223372036854775807) (hm : l.length ≤ 1048576) (hf : ∀ n ∈ l, n < 4294967296) :
    Calls Tryz.prog 120 #[.slice A l.length cap] w fun e w' => (∃ v, e = .returned v ∧ OwnL w' w.heap.size 35 1 u1 v l) ∧ Below w.heap.size w w' := by
  have HR := Lib.hid h
  have HF := Lib.hid hf
  obtain ⟨n, hn⟩ : ∃ n, n = l.length := ⟨_, rfl⟩
  rw [← hn] at hl hm ⊢
  have HN := Lib.hid hn
  clear h hf hn
  go_enter Tryz.func120, Tryz.ntmps120
  go_wp2_with fail
  go_loopw [4, 3] (fun i ov wr => ∃ (k : Nat) (B : Option Addr) (m c : Nat), i = .int .i64 k ∧ ov = .slice B m c ∧ k ≤ n ∧ Hid (m = (l.take k).length) ∧ m ≤ k ∧ Hid (OwnL wr w.heap.size 35 1 u1 (.slice B m c) (l.take k)) ∧ Hid (Below w.heap.size w wr)) (fun i _ _ => n + 1 - (intOf i).toNat)
  case atStart => exact ⟨0, none, 0, 0, rfl, rfl, by omega, rfl, by omega, OwnL.nil _ _ _ _ _, Below.refl _ _⟩
  case round =>
    obtain ⟨k, B, m, c, rfl, rfl, hk, HM, hmk, HO, HB⟩ := hrel
    by_cases hlt : k < n
    · obtain ⟨x, hx⟩ : ∃ x, l[k]? = some x := ⟨l[k]'(by rw [← HN.out]; exact hlt), List.getElem?_eq_getElem _⟩
      have hx4 := HF.out x (List.mem_of_getElem? hx)
      obtain ⟨b0, o0, rfl, hb0, p0⟩ := u64_at (HR.out.below HB.out (Nat.le_refl _)) hx
      have hwr : IntKind.u32.wrap ((x : Nat) : Int) = ((x : Nat) : Int) := by rw [IntKind.wrap_u32]; omega
      have HST : Hid (l.take k ++ [x] = l.take (k + 1)) := by show _ = _; rw [List.take_add_one, hx]; rfl
      have HCB : Hid (CellsAt (wr.alloc (.cells #[.int .u32 (x : Nat)] 35)) wr.heap.size #[.int .u32 (x : Nat)] 35) := CellsAt.new _ _ _
      have HRB : Hid (Rd (wr.alloc (.cells #[.int .u32 (x : Nat)] 35)) (some ⟨wr.heap.size, 0, none⟩) 1 ([x].map u1)) := rd_new1 HCB.out rfl
      have HOa : Hid (OwnL (wr.alloc (.cells #[.int .u32 (x : Nat)] 35)) w.heap.size 35 1 u1 (.slice B m c) (l.take k)) := HO.out.alloc _
      have HBa : Hid (Below w.heap.size w (wr.alloc (.cells #[.int .u32 (x : Nat)] 35))) := HB.out.alloc HB.out.size _
      have HMX : Hid (m + 1 ≤ maxLen) := by show _ ≤ _; unfold maxLen; omega
      have HBY : Hid ((m + 1) * 4 ≤ 140737488355328) := by show _ ≤ _; omega
      clear hx HO hx4
      go_wp2_with (at_builtin; refine wpList_more Tryz.underlying36 _ infoU32 rfl (by decide) u1_len u1_ones rfl (.tmp 11) (.tmp 17) rfl w.heap.size B m c (l.take k) HM.out rfl HOa.out [x] (some ⟨wr.heap.size, 0, none⟩) 1 1 rfl rfl HRB.out HBa.out.size HMX.out HBY.out ?_)
      intro B5 c5 w5 HO5 HG5
      have HB5 : Hid (Below w.heap.size w w5) := OwnM.below_grown HOa.out HG5.out HBa.out HBa.out.size (Nat.le_refl _)
      have HO6 : Hid (m + 1 = (l.take (k + 1)).length ∧ OwnL w5 w.heap.size 35 1 u1 (.slice B5 (m + 1) c5) (l.take (k + 1))) := ⟨by rw [← HST.out, List.length_append, ← HM.out]; rfl, by rw [← HST.out]; exact HO5.out⟩
      clear HO5 HG5 HBa HOa HRB HCB p0
      go_wp2_with fail
      exact ⟨⟨k + 1, B5, m + 1, c5, by go_num, rfl, by omega, HO6.out.1, by omega, HO6.out.2, HB5.out⟩, by simp [intOf]; omega⟩
    · have HE : Hid (OwnL wr w.heap.size 35 1 u1 (.slice B m c) l) := by
        have h2 := HO.out
        rwa [List.take_of_length_le (by rw [← HN.out]; omega)] at h2
      clear HO
      go_wp2_with fail
      go_ret
      exact ⟨⟨_, rfl, HE.out⟩, HB.out⟩
theorem OwnL.assoc {α : Type} {w : World} {base : Nat} {e : TypeId} {C : Nat} {F : α → List Value} {v : Value} {a c : List α} {x : α} (h : OwnL w base e C F v (a ++ x :: c)) : OwnL w base e C F v (a ++ [x] ++ c) := by
  rw [List.append_assoc]
  exact h
theorem own_addr {α : Type} {w : World} {base : Nat} {e : TypeId} {C : Nat} {F : α → List Value} {B : Option Addr} {m c : Nat} {xs : List α} (h : OwnL w base e C F (.slice B m c) xs) : (B = none ∧ m = 0 ∧ c = 0) ∨ ∃ g, B = some ⟨g, 0, none⟩ := by
  rcases h.2 with ⟨h2, _⟩ | ⟨g, cap, cur, fr, h2, _⟩
  · injection h2 with e1 e2 e3
    exact .inl ⟨e1, e2, e3⟩
  · injection h2 with e1 e2 e3
    exact .inr ⟨g, e1⟩
set_option maxRecDepth 100000 in
set_option maxHeartbeats 16000000 in
theorem sorted_any (A : Option Addr) (l : List Nat) (cap : Nat) (w : World) (h : Rd w A 1 (l.map x1)) (hl : l.length ≤ cap) (hc : cap ≤ 9223372036854775807) (hm : l.length ≤ 1048576) :
    Calls Tryz.prog 121 #[.slice A l.length cap] w fun e w' => (∃ v, e = .returned v ∧ OwnL w' w.heap.size 57 1 x1 v (insAll ltN [] l)) ∧ Below w.heap.size w w' := by
  have HR := Lib.hid h
  obtain ⟨n, hn⟩ : ∃ n, n = l.length := ⟨_, rfl⟩
  rw [← hn] at hl hm ⊢
  have HN := Lib.hid hn
  clear h hn
  go_enter Tryz.func121, Tryz.ntmps121
  go_wp2_with fail
  go_loopw [4, 3, 5, 6] (fun i ov _ _ wr => ∃ (k : Nat) (B : Option Addr) (m c : Nat), i = .int .i64 k ∧ ov = .slice B m c ∧ k ≤ n ∧ m ≤ k ∧ Hid (OwnL wr w.heap.size 57 1 x1 (.slice B m c) (insAll ltN [] (l.take k))) ∧ Hid (Below w.heap.size w wr)) (fun i _ _ _ _ => n + 1 - (intOf i).toNat)
  case atStart => exact ⟨0, none, 0, 0, rfl, rfl, by omega, by omega, OwnL.nil _ _ _ _ _, Below.refl _ _⟩
  case round =>
    obtain ⟨k, B, m, c, rfl, rfl, hk, hmk, HO, HB⟩ := hrel
    by_cases hlt : k < n
    · obtain ⟨x, hx⟩ : ∃ x, l[k]? = some x := ⟨l[k]'(by rw [← HN.out]; exact hlt), List.getElem?_eq_getElem _⟩
      have HX := Lib.hid hx
      have HNX : Hid (insAll ltN [] (l.take (k + 1)) = insR ltN x (insAll ltN [] (l.take k))) := by
        show _ = _
        rw [List.take_add_one, hx]
        exact insAll_snoc x _ _
      obtain ⟨S, hS⟩ : ∃ S, S = insAll ltN [] (l.take k) := ⟨_, rfl⟩
      rw [← hS] at HO HNX
      obtain ⟨hr0, hm0, hmc, hcc⟩ := rd_of x1_len HO.out
      have HM : Hid (m = S.length) := hm0
      have hc63 : c ≤ 9223372036854775807 := hcc
      clear hx hS hr0 hm0 hcc
      obtain ⟨b0, o0, rfl, hb0, p0⟩ := u64_at (HR.out.below HB.out (Nat.le_refl _)) HX.out
      clear p0 hb0
      go_wp2_with fail
      go_loopw [5] (fun j wq => ∃ t : Nat, j = .int .i64 t ∧ t ≤ m ∧ Hid (∀ y ∈ S.take t, ltN y x = true) ∧ Hid (OwnL wq w.heap.size 57 1 x1 (.slice B m c) S) ∧ Hid (Below w.heap.size w wq)) (fun j _ => m + 1 - (intOf j).toNat)
      case atStart => exact ⟨0, rfl, by omega, (fun y hy => by cases hy), HO.out, HB.out⟩
      case round =>
        clear HO HB
        obtain ⟨t, rfl, ht, HLS, HO, HB⟩ := hrel
        have p0 := u64_here (HR.out.below HB.out (Nat.le_refl _)) HX.out
        have hsb := HB.out.size
        by_cases htm : t < m
        · obtain ⟨y, hy⟩ : ∃ y, S[t]? = some y := ⟨S[t]'(by rw [← HM.out]; exact htm), List.getElem?_eq_getElem _⟩
          have HY := Lib.hid hy
          have HRD := Lib.hid (rd_of x1_len HO.out).1
          obtain ⟨b1, o1, rfl, hb1, q0⟩ := u64_at HRD.out hy
          clear hy
          by_cases hyx : y < x
          · have hyx' : ((y : Nat) : Int) < ((x : Nat) : Int) := by omega
            have HL2 : Hid (∀ z ∈ S.take (t + 1), ltN z x = true) := fun z hz => by
              rw [List.take_add_one, HY.out] at hz
              rcases List.mem_append.1 hz with hz | hz
              · exact HLS.out z hz
              · rw [List.mem_singleton.1 hz]
                unfold ltN
                exact decide_eq_true hyx
            clear hyx HLS
            go_wp2_with fail
            go_quiet (fail)
            go_wp2_with fail
            exact ⟨⟨t + 1, by go_num, by omega, HL2.out, HO.out, below_drewN HB.out _⟩, by simp [intOf]; omega⟩
          · have hyx' : ¬ ((y : Nat) : Int) < ((x : Nat) : Int) := by omega
            by_cases hye : y = x
            · subst hye
              have HSAME : Hid (insAll ltN [] (l.take (k + 1)) = S) := by
                show _ = _
                rw [HNX.out, insR_at ltN_irrefl S t HLS.out (.inr ⟨y, HY.out, ltN_irrefl y⟩), if_pos HY.out]
              have hz : (((y : Nat) : Int) == ((y : Nat) : Int)) = true := beq_iff_eq.2 rfl
              clear hyx
              go_wp2_with fail
              go_quiet (fail)
              go_wp2_with fail
              go_quiet (fail)
              go_wp2_with fail
              exact ⟨⟨k + 1, some ⟨b1, o1, none⟩, m, c, by go_num, rfl, by omega, by omega, by rw [HSAME.out]; exact HO.out, below_drewN HB.out _⟩, by simp [intOf]; omega⟩
            · have hz : (((y : Nat) : Int) == ((x : Nat) : Int)) = false := beq_eq_false_iff_ne.2 (by omega)
              have HNEW : Hid (insAll ltN [] (l.take (k + 1)) = (S.take t ++ [x]) ++ S.drop t) := by
                show _ = _
                rw [HNX.out, insR_at ltN_irrefl S t HLS.out (.inr ⟨y, HY.out, by unfold ltN; exact decide_eq_false hyx⟩), HY.out, if_neg (by simpa using hye), List.append_assoc]
                rfl
              clear hyx hye HNX HLS HY
              go_wp2_with fail
              go_quiet (fail)
              go_wp2_with fail
              go_quiet (fail)
              go_upto_region 10 with fail
              refine wp_name fun W hW => ?_
              have HOW : Hid (OwnL W w.heap.size 57 1 x1 (.slice (some ⟨b1, o1, none⟩) m c) S) := by rw [hW]; exact HO.out
              have HBW : Hid (Below w.heap.size w W) := by rw [hW]; exact below_drewN (below_drewN HB.out _) _
              clear hW HO HB q0 p0 HRD
              have p0 := u64_here (HR.out.below HBW.out (Nat.le_refl _)) HX.out
              have hsW := HBW.out.size
              have HSO : Hid (∀ X, Below W.heap.size W X → OwnL X w.heap.size 57 1 x1 (.slice (some ⟨b1, o1, none⟩) m c) S) := fun X hX => OwnL.below HOW.out hX (Nat.le_refl _)
              have HRS := Lib.hid (rd_of x1_len HOW.out).1
              have HR1 : Hid (Rd W (some ⟨b1, o1, none⟩) 1 ((S.take t).map x1)) := rd_take HRS.out t
              have HL1 : Hid (t = (S.take t).length) := by show _ = _; rw [List.length_take, ← HM.out]; omega
              have HL2 : Hid (m - t = (S.drop t).length) := by show _ = _; rw [List.length_drop]; have := HM.out; omega
              have HBW1 : Hid (∀ j : Nat, j ≤ 1048577 → j ≤ maxLen ∧ j * 8 ≤ 140737488355328) := fun j hj => ⟨by unfold maxLen; omega, by omega⟩
              have HN0 : Hid (OwnL W W.heap.size 57 1 x1 (.slice none 0 0) []) := OwnL.nil _ _ _ _ _
              have htc : (t : Int) ≤ (c : Int) := by omega
              have htm2 : (t : Int) ≤ (m : Int) := by omega
              go_wp2_with (at_builtin; refine wpList_more Tryz.underlying37 _ infoU64 rfl (by decide) x1_len x1_ones rfl (.tmp 45) (.tmp 48) rfl W.heap.size none 0 0 [] rfl rfl HN0.out (S.take t) (some ⟨b1, o1, none⟩) t c HL1.out rfl HR1.out (Nat.le_refl _) (by rw [Nat.zero_add]; exact (HBW1.out t (by omega)).1) (by rw [Nat.zero_add]; exact (HBW1.out t (by omega)).2) ?_)
              intro A1 c1 w1 HO1 HG1
              have HBx : Hid (Below W.heap.size W w1) := (Below.refl _ _).grown HG1.out (Nat.le_refl _) (fun q hq => by cases hq)
              have HO1' : Hid (OwnL w1 W.heap.size 57 1 x1 (.slice A1 t c1) (S.take t)) := HO1.out
              have HB1 : Hid (Below w.heap.size w w1) := HBW.out.trans (HBx.out.mono hsW)
              have HS1 := Lib.hid (OwnL.below HOW.out HBx.out (Nat.le_refl _))
              have hs1 := HBx.out.size
              clear p0 HO1 HG1 HN0 HR1 HOW HRS
              have p0 := u64_here (HR.out.below HB1.out (Nat.le_refl _)) HX.out
              have HCB : Hid (CellsAt (w1.alloc (.cells #[.int .u64 (x : Nat)] 57)) w1.heap.size #[.int .u64 (x : Nat)] 57) := CellsAt.new _ _ _
              have HRB : Hid (Rd (w1.alloc (.cells #[.int .u64 (x : Nat)] 57)) (some ⟨w1.heap.size, 0, none⟩) 1 ([x].map x1)) := rd_new1 HCB.out rfl
              have HOa : Hid (OwnL (w1.alloc (.cells #[.int .u64 (x : Nat)] 57)) W.heap.size 57 1 x1 (.slice A1 t c1) (S.take t)) := HO1'.out.alloc _
              have HBa : Hid (Below W.heap.size W (w1.alloc (.cells #[.int .u64 (x : Nat)] 57))) := HBx.out.alloc hs1 _
              go_wp2_with (at_builtin; refine wpList_more Tryz.underlying37 _ infoU64 rfl (by decide) x1_len x1_ones rfl (.tmp 50) (.tmp 55) rfl W.heap.size A1 t c1 (S.take t) HL1.out rfl HOa.out [x] (some ⟨w1.heap.size, 0, none⟩) 1 1 rfl rfl HRB.out HBa.out.size (HBW1.out (t + 1) (by omega)).1 (HBW1.out (t + 1) (by omega)).2 ?_)
              intro A2 c2 w2 HO2 HG2
              have hob : ∀ q, (Value.slice A1 t c1).ownBlock = some q → W.heap.size ≤ q ∧ q < (w1.alloc (.cells #[.int .u64 (x : Nat)] 57)).heap.size := fun q hq => OwnM.lt HOa.out q hq
              have HBy : Hid (Below W.heap.size W w2) := HBa.out.grown HG2.out HBa.out.size (fun q hq => (hob q hq).1)
              have HL3 : Hid (t + 1 = (S.take t ++ [x]).length) := by show _ = _; rw [List.length_append, ← HL1.out]; rfl
              have HS2 := Lib.hid (HSO.out _ HBy.out)
              have HRS2 : Hid (Rd w2 (some ⟨b1, o1 + t, none⟩) 1 ((S.drop t).map x1)) := by have h := rd_drop (rd_of x1_len HS2.out).1 t; rwa [Nat.mul_one] at h
              clear p0 HBa HOa HRB HCB HG2 hob HS1 HO1'
              go_wp2_with (at_builtin; refine wpList_more Tryz.underlying37 _ infoU64 rfl (by decide) x1_len x1_ones rfl (.tmp 57) (.tmp 60) rfl W.heap.size A2 (t + 1) c2 (S.take t ++ [x]) HL3.out rfl HO2.out (S.drop t) (some ⟨b1, o1 + t, none⟩) (m - t) (c - t) HL2.out rfl HRS2.out HBy.out.size (HBW1.out (t + 1 + (m - t)) (by omega)).1 (HBW1.out (t + 1 + (m - t)) (by omega)).2 ?_)
              intro A3 c3 w3 HO3 HG3
              have hob : ∀ q, (Value.slice A2 (t + 1) c2).ownBlock = some q → W.heap.size ≤ q ∧ q < w2.heap.size := fun q hq => OwnM.lt HO2.out q hq
              have HBz : Hid (Below W.heap.size W w3) := HBy.out.grown HG3.out HBy.out.size (fun q hq => (hob q hq).1)
              have HFIN : Hid (OwnL w3 w.heap.size 57 1 x1 (.slice A3 (t + 1 + (m - t)) c3) (insAll ltN [] (l.take (k + 1)))) := by
                show OwnL _ _ _ _ _ _ _
                rw [HNEW.out]
                exact OwnM.lower (OwnL.assoc HO3.out) hsW
              have HBF : Hid (Below w.heap.size w w3) := HBW.out.trans (HBz.out.mono hsW)
              clear hob HG3 HO3 HO2 HRS2 HBy HBz HS2 HSO HNEW
              go_wp2_with fail
              exact ⟨⟨k + 1, A3, t + 1 + (m - t), c3, by go_num, rfl, by omega, by omega, HFIN.out, HBF.out⟩, by simp [intOf]; omega⟩
        · obtain rfl : m = t := by omega
          have HNEW : Hid (insAll ltN [] (l.take (k + 1)) = (S.take m ++ [x]) ++ S.drop m) := by
            show _ = _
            rw [HNX.out, insR_at ltN_irrefl S m HLS.out (.inl HM.out), List.getElem?_eq_none (by rw [← HM.out]; exact Nat.le_refl _), if_neg (by simp), List.append_assoc]
            rfl
          clear HNX HLS
          have HAD := own_addr HO.out
          rcases HAD with ⟨rfl, hm00, hc00⟩ | ⟨b1, rfl⟩
          · obtain rfl : m = 0 := hm00
            obtain rfl : c = 0 := hc00
            go_wp2_with fail
            go_quiet (fail)
            go_wp2_with fail
            go_quiet (fail)
            go_upto_region 10 with fail
            refine wp_name fun W hW => ?_
            have HOW : Hid (OwnL W w.heap.size 57 1 x1 (.slice none 0 0) S) := by rw [hW]; exact HO.out
            have HBW : Hid (Below w.heap.size w W) := by rw [hW]; exact below_drewN (below_drewN HB.out _) _
            clear hW HO HB p0
            have p0 := u64_here (HR.out.below HBW.out (Nat.le_refl _)) HX.out
            have hsW := HBW.out.size
            have HSO : Hid (∀ X, Below W.heap.size W X → OwnL X w.heap.size 57 1 x1 (.slice none 0 0) S) := fun X hX => OwnL.below HOW.out hX (Nat.le_refl _)
            have HRS := Lib.hid (rd_of x1_len HOW.out).1
            have HR1 : Hid (Rd W none 1 ((S.take 0).map x1)) := rd_take HRS.out 0
            have HL1 : Hid (0 = (S.take 0).length) := by show _ = _; rw [List.length_take, ← HM.out]; omega
            have HL2 : Hid (0 = (S.drop 0).length) := by show _ = _; rw [List.length_drop]; have := HM.out; omega
            have HBW1 : Hid (∀ j : Nat, j ≤ 1048577 → j ≤ maxLen ∧ j * 8 ≤ 140737488355328) := fun j hj => ⟨by unfold maxLen; omega, by omega⟩
            have HN0 : Hid (OwnL W W.heap.size 57 1 x1 (.slice none 0 0) []) := OwnL.nil _ _ _ _ _
            have htc : (0 : Int) ≤ (0 : Int) := by omega
            have htm2 : (0 : Int) ≤ (0 : Int) := by omega
            go_wp2_with (at_builtin; refine wpList_more Tryz.underlying37 _ infoU64 rfl (by decide) x1_len x1_ones rfl (.tmp 45) (.tmp 48) rfl W.heap.size none 0 0 [] rfl rfl HN0.out (S.take 0) none 0 0 HL1.out rfl HR1.out (Nat.le_refl _) (by rw [Nat.zero_add]; exact (HBW1.out 0 (by omega)).1) (by rw [Nat.zero_add]; exact (HBW1.out 0 (by omega)).2) ?_)
            intro A1 c1 w1 HO1 HG1
            have HBx : Hid (Below W.heap.size W w1) := (Below.refl _ _).grown HG1.out (Nat.le_refl _) (fun q hq => by cases hq)
            have HO1' : Hid (OwnL w1 W.heap.size 57 1 x1 (.slice A1 0 c1) (S.take 0)) := HO1.out
            have HB1 : Hid (Below w.heap.size w w1) := HBW.out.trans (HBx.out.mono hsW)
            have HS1 := Lib.hid (OwnL.below HOW.out HBx.out (Nat.le_refl _))
            have hs1 := HBx.out.size
            clear p0 HO1 HG1 HN0 HR1 HOW HRS
            have p0 := u64_here (HR.out.below HB1.out (Nat.le_refl _)) HX.out
            have HCB : Hid (CellsAt (w1.alloc (.cells #[.int .u64 (x : Nat)] 57)) w1.heap.size #[.int .u64 (x : Nat)] 57) := CellsAt.new _ _ _
            have HRB : Hid (Rd (w1.alloc (.cells #[.int .u64 (x : Nat)] 57)) (some ⟨w1.heap.size, 0, none⟩) 1 ([x].map x1)) := rd_new1 HCB.out rfl
            have HOa : Hid (OwnL (w1.alloc (.cells #[.int .u64 (x : Nat)] 57)) W.heap.size 57 1 x1 (.slice A1 0 c1) (S.take 0)) := HO1'.out.alloc _
            have HBa : Hid (Below W.heap.size W (w1.alloc (.cells #[.int .u64 (x : Nat)] 57))) := HBx.out.alloc hs1 _
            go_wp2_with (at_builtin; refine wpList_more Tryz.underlying37 _ infoU64 rfl (by decide) x1_len x1_ones rfl (.tmp 50) (.tmp 55) rfl W.heap.size A1 0 c1 (S.take 0) HL1.out rfl HOa.out [x] (some ⟨w1.heap.size, 0, none⟩) 1 1 rfl rfl HRB.out HBa.out.size (HBW1.out (0 + 1) (by omega)).1 (HBW1.out (0 + 1) (by omega)).2 ?_)
            intro A2 c2 w2 HO2 HG2
            have hob : ∀ q, (Value.slice A1 0 c1).ownBlock = some q → W.heap.size ≤ q ∧ q < (w1.alloc (.cells #[.int .u64 (x : Nat)] 57)).heap.size := fun q hq => OwnM.lt HOa.out q hq
            have HBy : Hid (Below W.heap.size W w2) := HBa.out.grown HG2.out HBa.out.size (fun q hq => (hob q hq).1)
            have HL3 : Hid (0 + 1 = (S.take 0 ++ [x]).length) := by show _ = _; rw [List.length_append, ← HL1.out]; rfl
            have HS2 := Lib.hid (HSO.out _ HBy.out)
            have HRS2 : Hid (Rd w2 none 1 ((S.drop 0).map x1)) := by have h2 : S.drop 0 = [] := List.drop_eq_nil_of_le (by rw [← HM.out]; exact Nat.le_refl _); rw [h2]; intro h3; exact absurd h3 (by simp)
            clear p0 HBa HOa HRB HCB HG2 hob HS1 HO1'
            go_wp2_with (at_builtin; refine wpList_more Tryz.underlying37 _ infoU64 rfl (by decide) x1_len x1_ones rfl (.tmp 57) (.tmp 60) rfl W.heap.size A2 (0 + 1) c2 (S.take 0 ++ [x]) HL3.out rfl HO2.out (S.drop 0) none (0) (0) HL2.out rfl HRS2.out HBy.out.size (HBW1.out (0 + 1 + (0)) (by omega)).1 (HBW1.out (0 + 1 + (0)) (by omega)).2 ?_)
            intro A3 c3 w3 HO3 HG3
            have hob : ∀ q, (Value.slice A2 (0 + 1) c2).ownBlock = some q → W.heap.size ≤ q ∧ q < w2.heap.size := fun q hq => OwnM.lt HO2.out q hq
            have HBz : Hid (Below W.heap.size W w3) := HBy.out.grown HG3.out HBy.out.size (fun q hq => (hob q hq).1)
            have HFIN : Hid (OwnL w3 w.heap.size 57 1 x1 (.slice A3 (0 + 1 + (0)) c3) (insAll ltN [] (l.take (k + 1)))) := by
              show OwnL _ _ _ _ _ _ _
              rw [HNEW.out]
              exact OwnM.lower (OwnL.assoc HO3.out) hsW
            have HBF : Hid (Below w.heap.size w w3) := HBW.out.trans (HBz.out.mono hsW)
            clear hob HG3 HO3 HO2 HRS2 HBy HBz HS2 HSO HNEW
            go_wp2_with fail
            exact ⟨⟨k + 1, A3, 0 + 1 + (0), c3, by go_num, rfl, by omega, by omega, HFIN.out, HBF.out⟩, by simp [intOf]; omega⟩
          · by_cases hmc2 : m = c
            · obtain rfl : m = c := hmc2
              go_wp2_with fail
              go_quiet (fail)
              go_wp2_with fail
              go_quiet (fail)
              go_upto_region 10 with fail
              refine wp_name fun W hW => ?_
              have HOW : Hid (OwnL W w.heap.size 57 1 x1 (.slice (some ⟨b1, 0, none⟩) m m) S) := by rw [hW]; exact HO.out
              have HBW : Hid (Below w.heap.size w W) := by rw [hW]; exact below_drewN (below_drewN HB.out _) _
              clear hW HO HB p0
              have p0 := u64_here (HR.out.below HBW.out (Nat.le_refl _)) HX.out
              have hsW := HBW.out.size
              have HSO : Hid (∀ X, Below W.heap.size W X → OwnL X w.heap.size 57 1 x1 (.slice (some ⟨b1, 0, none⟩) m m) S) := fun X hX => OwnL.below HOW.out hX (Nat.le_refl _)
              have HRS := Lib.hid (rd_of x1_len HOW.out).1
              have HR1 : Hid (Rd W (some ⟨b1, 0, none⟩) 1 ((S.take m).map x1)) := rd_take HRS.out m
              have HL1 : Hid (m = (S.take m).length) := by show _ = _; rw [List.length_take, ← HM.out]; omega
              have HL2 : Hid (0 = (S.drop m).length) := by show _ = _; rw [List.length_drop]; have := HM.out; omega
              have HBW1 : Hid (∀ j : Nat, j ≤ 1048577 → j ≤ maxLen ∧ j * 8 ≤ 140737488355328) := fun j hj => ⟨by unfold maxLen; omega, by omega⟩
              have HN0 : Hid (OwnL W W.heap.size 57 1 x1 (.slice none 0 0) []) := OwnL.nil _ _ _ _ _
              have htc : (m : Int) ≤ (m : Int) := by omega
              have htm2 : (m : Int) ≤ (m : Int) := by omega
              go_wp2_with (at_builtin; refine wpList_more Tryz.underlying37 _ infoU64 rfl (by decide) x1_len x1_ones rfl (.tmp 45) (.tmp 48) rfl W.heap.size none 0 0 [] rfl rfl HN0.out (S.take m) (some ⟨b1, 0, none⟩) m m HL1.out rfl HR1.out (Nat.le_refl _) (by rw [Nat.zero_add]; exact (HBW1.out m (by omega)).1) (by rw [Nat.zero_add]; exact (HBW1.out m (by omega)).2) ?_)
              intro A1 c1 w1 HO1 HG1
              have HBx : Hid (Below W.heap.size W w1) := (Below.refl _ _).grown HG1.out (Nat.le_refl _) (fun q hq => by cases hq)
              have HO1' : Hid (OwnL w1 W.heap.size 57 1 x1 (.slice A1 m c1) (S.take m)) := HO1.out
              have HB1 : Hid (Below w.heap.size w w1) := HBW.out.trans (HBx.out.mono hsW)
              have HS1 := Lib.hid (OwnL.below HOW.out HBx.out (Nat.le_refl _))
              have hs1 := HBx.out.size
              clear p0 HO1 HG1 HN0 HR1 HOW HRS
              have p0 := u64_here (HR.out.below HB1.out (Nat.le_refl _)) HX.out
              have HCB : Hid (CellsAt (w1.alloc (.cells #[.int .u64 (x : Nat)] 57)) w1.heap.size #[.int .u64 (x : Nat)] 57) := CellsAt.new _ _ _
              have HRB : Hid (Rd (w1.alloc (.cells #[.int .u64 (x : Nat)] 57)) (some ⟨w1.heap.size, 0, none⟩) 1 ([x].map x1)) := rd_new1 HCB.out rfl
              have HOa : Hid (OwnL (w1.alloc (.cells #[.int .u64 (x : Nat)] 57)) W.heap.size 57 1 x1 (.slice A1 m c1) (S.take m)) := HO1'.out.alloc _
              have HBa : Hid (Below W.heap.size W (w1.alloc (.cells #[.int .u64 (x : Nat)] 57))) := HBx.out.alloc hs1 _
              go_wp2_with (at_builtin; refine wpList_more Tryz.underlying37 _ infoU64 rfl (by decide) x1_len x1_ones rfl (.tmp 50) (.tmp 55) rfl W.heap.size A1 m c1 (S.take m) HL1.out rfl HOa.out [x] (some ⟨w1.heap.size, 0, none⟩) 1 1 rfl rfl HRB.out HBa.out.size (HBW1.out (m + 1) (by omega)).1 (HBW1.out (m + 1) (by omega)).2 ?_)
              intro A2 c2 w2 HO2 HG2
              have hob : ∀ q, (Value.slice A1 m c1).ownBlock = some q → W.heap.size ≤ q ∧ q < (w1.alloc (.cells #[.int .u64 (x : Nat)] 57)).heap.size := fun q hq => OwnM.lt HOa.out q hq
              have HBy : Hid (Below W.heap.size W w2) := HBa.out.grown HG2.out HBa.out.size (fun q hq => (hob q hq).1)
              have HL3 : Hid (m + 1 = (S.take m ++ [x]).length) := by show _ = _; rw [List.length_append, ← HL1.out]; rfl
              have HS2 := Lib.hid (HSO.out _ HBy.out)
              have HRS2 : Hid (Rd w2 (some ⟨b1, 0, none⟩) 1 ((S.drop m).map x1)) := by have h2 : S.drop m = [] := List.drop_eq_nil_of_le (by rw [← HM.out]; exact Nat.le_refl _); rw [h2]; intro h3; exact absurd h3 (by simp)
              clear p0 HBa HOa HRB HCB HG2 hob HS1 HO1'
              go_wp2_with (at_builtin; refine wpList_more Tryz.underlying37 _ infoU64 rfl (by decide) x1_len x1_ones rfl (.tmp 57) (.tmp 60) rfl W.heap.size A2 (m + 1) c2 (S.take m ++ [x]) HL3.out rfl HO2.out (S.drop m) (some ⟨b1, 0, none⟩) (0) (0) HL2.out rfl HRS2.out HBy.out.size (HBW1.out (m + 1 + (0)) (by omega)).1 (HBW1.out (m + 1 + (0)) (by omega)).2 ?_)
              intro A3 c3 w3 HO3 HG3
              have hob : ∀ q, (Value.slice A2 (m + 1) c2).ownBlock = some q → W.heap.size ≤ q ∧ q < w2.heap.size := fun q hq => OwnM.lt HO2.out q hq
              have HBz : Hid (Below W.heap.size W w3) := HBy.out.grown HG3.out HBy.out.size (fun q hq => (hob q hq).1)
              have HFIN : Hid (OwnL w3 w.heap.size 57 1 x1 (.slice A3 (m + 1 + (0)) c3) (insAll ltN [] (l.take (k + 1)))) := by
                show OwnL _ _ _ _ _ _ _
                rw [HNEW.out]
                exact OwnM.lower (OwnL.assoc HO3.out) hsW
              have HBF : Hid (Below w.heap.size w w3) := HBW.out.trans (HBz.out.mono hsW)
              clear hob HG3 HO3 HO2 HRS2 HBy HBz HS2 HSO HNEW
              go_wp2_with fail
              exact ⟨⟨k + 1, A3, m + 1 + (0), c3, by go_num, rfl, by omega, by omega, HFIN.out, HBF.out⟩, by simp [intOf]; omega⟩
            · have hmc3 : m < c := by omega
              clear hmc2
              go_wp2_with fail
              go_quiet (fail)
              go_wp2_with fail
              go_quiet (fail)
              go_upto_region 10 with fail
              refine wp_name fun W hW => ?_
              have HOW : Hid (OwnL W w.heap.size 57 1 x1 (.slice (some ⟨b1, 0, none⟩) m c) S) := by rw [hW]; exact HO.out
              have HBW : Hid (Below w.heap.size w W) := by rw [hW]; exact below_drewN (below_drewN HB.out _) _
              clear hW HO HB p0
              have p0 := u64_here (HR.out.below HBW.out (Nat.le_refl _)) HX.out
              have hsW := HBW.out.size
              have HSO : Hid (∀ X, Below W.heap.size W X → OwnL X w.heap.size 57 1 x1 (.slice (some ⟨b1, 0, none⟩) m c) S) := fun X hX => OwnL.below HOW.out hX (Nat.le_refl _)
              have HRS := Lib.hid (rd_of x1_len HOW.out).1
              have HR1 : Hid (Rd W (some ⟨b1, 0, none⟩) 1 ((S.take m).map x1)) := rd_take HRS.out m
              have HL1 : Hid (m = (S.take m).length) := by show _ = _; rw [List.length_take, ← HM.out]; omega
              have HL2 : Hid (0 = (S.drop m).length) := by show _ = _; rw [List.length_drop]; have := HM.out; omega
              have HBW1 : Hid (∀ j : Nat, j ≤ 1048577 → j ≤ maxLen ∧ j * 8 ≤ 140737488355328) := fun j hj => ⟨by unfold maxLen; omega, by omega⟩
              have HN0 : Hid (OwnL W W.heap.size 57 1 x1 (.slice none 0 0) []) := OwnL.nil _ _ _ _ _
              have htc : (m : Int) ≤ (c : Int) := by omega
              have htm2 : (m : Int) ≤ (m : Int) := by omega
              go_wp2_with (at_builtin; refine wpList_more Tryz.underlying37 _ infoU64 rfl (by decide) x1_len x1_ones rfl (.tmp 45) (.tmp 48) rfl W.heap.size none 0 0 [] rfl rfl HN0.out (S.take m) (some ⟨b1, 0, none⟩) m c HL1.out rfl HR1.out (Nat.le_refl _) (by rw [Nat.zero_add]; exact (HBW1.out m (by omega)).1) (by rw [Nat.zero_add]; exact (HBW1.out m (by omega)).2) ?_)
              intro A1 c1 w1 HO1 HG1
              have HBx : Hid (Below W.heap.size W w1) := (Below.refl _ _).grown HG1.out (Nat.le_refl _) (fun q hq => by cases hq)
              have HO1' : Hid (OwnL w1 W.heap.size 57 1 x1 (.slice A1 m c1) (S.take m)) := HO1.out
              have HB1 : Hid (Below w.heap.size w w1) := HBW.out.trans (HBx.out.mono hsW)
              have HS1 := Lib.hid (OwnL.below HOW.out HBx.out (Nat.le_refl _))
              have hs1 := HBx.out.size
              clear p0 HO1 HG1 HN0 HR1 HOW HRS
              have p0 := u64_here (HR.out.below HB1.out (Nat.le_refl _)) HX.out
              have HCB : Hid (CellsAt (w1.alloc (.cells #[.int .u64 (x : Nat)] 57)) w1.heap.size #[.int .u64 (x : Nat)] 57) := CellsAt.new _ _ _
              have HRB : Hid (Rd (w1.alloc (.cells #[.int .u64 (x : Nat)] 57)) (some ⟨w1.heap.size, 0, none⟩) 1 ([x].map x1)) := rd_new1 HCB.out rfl
              have HOa : Hid (OwnL (w1.alloc (.cells #[.int .u64 (x : Nat)] 57)) W.heap.size 57 1 x1 (.slice A1 m c1) (S.take m)) := HO1'.out.alloc _
              have HBa : Hid (Below W.heap.size W (w1.alloc (.cells #[.int .u64 (x : Nat)] 57))) := HBx.out.alloc hs1 _
              go_wp2_with (at_builtin; refine wpList_more Tryz.underlying37 _ infoU64 rfl (by decide) x1_len x1_ones rfl (.tmp 50) (.tmp 55) rfl W.heap.size A1 m c1 (S.take m) HL1.out rfl HOa.out [x] (some ⟨w1.heap.size, 0, none⟩) 1 1 rfl rfl HRB.out HBa.out.size (HBW1.out (m + 1) (by omega)).1 (HBW1.out (m + 1) (by omega)).2 ?_)
              intro A2 c2 w2 HO2 HG2
              have hob : ∀ q, (Value.slice A1 m c1).ownBlock = some q → W.heap.size ≤ q ∧ q < (w1.alloc (.cells #[.int .u64 (x : Nat)] 57)).heap.size := fun q hq => OwnM.lt HOa.out q hq
              have HBy : Hid (Below W.heap.size W w2) := HBa.out.grown HG2.out HBa.out.size (fun q hq => (hob q hq).1)
              have HL3 : Hid (m + 1 = (S.take m ++ [x]).length) := by show _ = _; rw [List.length_append, ← HL1.out]; rfl
              have HS2 := Lib.hid (HSO.out _ HBy.out)
              have HRS2 : Hid (Rd w2 (some ⟨b1, m, none⟩) 1 ((S.drop m).map x1)) := by have h2 : S.drop m = [] := List.drop_eq_nil_of_le (by rw [← HM.out]; exact Nat.le_refl _); rw [h2]; intro h3; exact absurd h3 (by simp)
              clear p0 HBa HOa HRB HCB HG2 hob HS1 HO1'
              go_wp2_with (at_builtin; refine wpList_more Tryz.underlying37 _ infoU64 rfl (by decide) x1_len x1_ones rfl (.tmp 57) (.tmp 60) rfl W.heap.size A2 (m + 1) c2 (S.take m ++ [x]) HL3.out rfl HO2.out (S.drop m) (some ⟨b1, m, none⟩) (0) (c - m) HL2.out rfl HRS2.out HBy.out.size (HBW1.out (m + 1 + (0)) (by omega)).1 (HBW1.out (m + 1 + (0)) (by omega)).2 ?_)
              intro A3 c3 w3 HO3 HG3
              have hob : ∀ q, (Value.slice A2 (m + 1) c2).ownBlock = some q → W.heap.size ≤ q ∧ q < w2.heap.size := fun q hq => OwnM.lt HO2.out q hq
              have HBz : Hid (Below W.heap.size W w3) := HBy.out.grown HG3.out HBy.out.size (fun q hq => (hob q hq).1)
              have HFIN : Hid (OwnL w3 w.heap.size 57 1 x1 (.slice A3 (m + 1 + (0)) c3) (insAll ltN [] (l.take (k + 1)))) := by
                show OwnL _ _ _ _ _ _ _
                rw [HNEW.out]
                exact OwnM.lower (OwnL.assoc HO3.out) hsW
              have HBF : Hid (Below w.heap.size w w3) := HBW.out.trans (HBz.out.mono hsW)
              clear hob HG3 HO3 HO2 HRS2 HBy HBz HS2 HSO HNEW
              go_wp2_with fail
              exact ⟨⟨k + 1, A3, m + 1 + (0), c3, by go_num, rfl, by omega, by omega, HFIN.out, HBF.out⟩, by simp [intOf]; omega⟩
    · have HE : Hid (OwnL wr w.heap.size 57 1 x1 (.slice B m c) (insAll ltN [] l)) := by
        have h2 := HO.out
        rwa [List.take_of_length_le (by rw [← HN.out]; omega)] at h2
      clear HO
      go_wp2_with fail
      go_ret
      exact ⟨⟨_, rfl, HE.out⟩, HB.out⟩
end Go.Proofs.YtkcojblflebomaaGreat
