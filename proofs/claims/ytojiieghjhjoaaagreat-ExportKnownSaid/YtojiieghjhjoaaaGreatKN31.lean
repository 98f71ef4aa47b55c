/-
  Several texts in one.
-/
import Derived.Test.YtojiieghjhjoaaaGreatKN30
set_option linter.unusedVariables false
set_option linter.unusedSimpArgs false
namespace Go.Proofs.YtojiieghjhjoaaaGreat
open Go.RowKit Go.MapKept Go.Shelf
open Go.Lib hiding intOf

def ncF (s : Sg) : Bool := !conF s.kind
/-- the first one of the confederation -/
def IdxP (l : List Sg) (e : Ending) : Prop := (e = .returned (.int .i64 (-1)) ∧ l.filter ncF = l) ∨ ∃ i : Nat, i < l.length ∧ (l.take (i + 1)).filter ncF = l.take i ∧ e = .returned (.int .i64 i)
theorem filt_all {l : List Sg} {k : Nat} {s : Sg} (h : (l.take k).filter ncF = l.take k) (hs : l[k]? = some s) (hc : ncF s = true) : (l.take (k + 1)).filter ncF = l.take (k + 1) := by
  rw [take_snoc hs, List.filter_append, h]
  simp [hc]
theorem filt_stop {l : List Sg} {k : Nat} {s : Sg} (h : (l.take k).filter ncF = l.take k) (hs : l[k]? = some s) (hc : ncF s = false) : (l.take (k + 1)).filter ncF = l.take k := by
  rw [take_snoc hs, List.filter_append, h]
  simp [hc]
set_option maxHeartbeats 4000000 in
theorem idxseg_any (A : Option Addr) (cap : Nat) (l : List Sg) (w : World) (h : SegsOk w A cap l) :
    Calls Tryz.prog 85 #[.slice A l.length cap, .func (.func 62) #[] #[]] w fun e w' => IdxP l e ∧ Below w.heap.size w w' := by
  have HR := Lib.hid h
  have hl : l.length ≤ cap := h.len
  have hc : cap ≤ 9223372036854775807 := h.cap
  have HCF := Lib.hid confed_any
  clear h
  go_enter Tryz.func85, Tryz.ntmps85
  go_wp2_with fail
  go_loopw [8] (fun i wr => ∃ k : Nat, k ≤ l.length ∧ i = .int .i64 k ∧ Hid ((l.take k).filter ncF = l.take k) ∧ Hid (Below w.heap.size w wr)) (fun i _ => l.length + 1 - (intOf i).toNat)
  case atStart => exact ⟨0, by omega, rfl, by show _ = _; simp, Below.refl _ _⟩
  case round =>
    obtain ⟨k, hk, rfl, HF, HB⟩ := hrel
    by_cases hlt : k < l.length
    · obtain ⟨s, hs⟩ : ∃ s, l[k]? = some s := ⟨l[k], List.getElem?_eq_getElem hlt⟩
      obtain ⟨b1, o1, rfl, hb1, q0, q1⟩ := sg_cells (HR.out.below HB.out (Nat.le_refl _)).rd hs
      have HS := Lib.hid hs
      clear hs
      go_wp2_with fail
      refine (HCF.out s.kind (.slice s.A s.as_.length s.cap) rfl _).mono ?_
      rintro e w2 ⟨rfl, hw2⟩
      have HB2 : Hid (Below w.heap.size w w2) := HB.out.trans (hw2.mono HB.out.size)
      clear hw2 q0 q1 HB
      cases hq : conF s.kind with
      | true =>
        have HX : Hid ((l.take (k + 1)).filter ncF = l.take k) := filt_stop HF.out HS.out (by unfold ncF; rw [hq]; rfl)
        clear hq
        go_wp2_with fail
        go_ret
        exact ⟨.inr ⟨k, hlt, HX.out, rfl⟩, HB2.out⟩
      | false =>
        have HX : Hid ((l.take (k + 1)).filter ncF = l.take (k + 1)) := filt_all HF.out HS.out (by unfold ncF; rw [hq]; rfl)
        clear hq
        go_wp2_with fail
        exact ⟨⟨k + 1, by omega, by go_num, HX.out, HB2.out⟩, by simp [intOf]; omega⟩
    · obtain rfl : k = l.length := by omega
      rw [List.take_length] at HF
      go_wp2_with fail
      go_ret
      exact ⟨.inl ⟨rfl, HF.out⟩, HB.out⟩
theorem zero_seg : ∀ w, (zeroValue 67).run Tryz.prog w = .ok (.agg #[.int .i64 0, .slice none 0 0]) w := Tryz.zeroValue67
theorem clear_S {w : World} {base g n cap k : Nat} {xs : List Value} (h : OwnM w base 67 2 (.slice (some ⟨g, 0, none⟩) n cap) n xs) (hk : k < n) (c : Nat) (ty : TypeId) :
    ∃ w', (Builtin.clear_ #[28] ty #[.slice (some ⟨g, k * 2, none⟩) (n - k) c]).run Tryz.prog w = .ok (.tuple #[]) w' ∧ OwnM w' base 67 2 (.slice (some ⟨g, 0, none⟩) k cap) k (xs.take (k * 2)) ∧ w.grownBy w' (some g) := by
  obtain ⟨hc, hf⟩ := h.there'
  refine ⟨_, run_clear_k (P := Tryz.prog) w 28 67 ty (.agg #[.int .i64 0, .slice none 0 0]) Tryz.underlying28 zero_seg (by simp [Value.cells, Value.oneCell']) (by decide) g (k * 2) (n - k) c (by omega) (fun j hj => ?_) (fun j hj => ?_), ?_, grown_setCells g _ _ w⟩
  · exact hc (k * 2 + j) (by simp [Value.cells] at hj; omega)
  · exact hf (k * 2 + j) (by simp [Value.cells] at hj; omega)
  · have h1 := OwnM.setMany (Builtin.zeroCells (Value.agg #[.int .i64 0, .slice none 0 0]).cells (n - k)).toList (k * 2) w xs h (by simp [Builtin.zeroCells, Value.cells]; omega)
    have h2 := h1.cut (m := k) (by omega)
    rwa [setL_take _ _ _ _ (Nat.le_refl _)] at h2
/-- how far it has come: i stay, of j -/
structure DelS (l cur : List Sg) (i j : Nat) : Prop where
  len : cur.length = l.length
  head : cur.take i = (l.take j).filter ncF
  tail : cur.drop j = l.drop j
  lt : i < j
  le : j ≤ l.length
  mem : ∀ s ∈ cur, s ∈ l
theorem DelS.at_ {l cur : List Sg} {i j : Nat} (h : DelS l cur i j) (hj : j < l.length) : cur[j]? = l[j]? := by
  have := congrArg (·[0]?) h.tail
  simpa [List.getElem?_drop] using this
theorem DelS.skip {l cur : List Sg} {i j : Nat} {s : Sg} (h : DelS l cur i j) (hs : l[j]? = some s) (hc : ncF s = false) : DelS l cur i (j + 1) := by
  have hj := (List.getElem?_eq_some_iff.1 hs).1
  refine ⟨h.len, ?_, ?_, by have := h.lt; omega, hj, h.mem⟩
  · rw [h.head, take_snoc hs, List.filter_append]
    simp [hc]
  · have := congrArg (List.drop 1) h.tail
    rwa [List.drop_drop, List.drop_drop] at this
theorem DelS.keep {l cur : List Sg} {i j : Nat} {s : Sg} (h : DelS l cur i j) (hs : l[j]? = some s) (hc : ncF s = true) : DelS l (cur.set i s) (i + 1) (j + 1) := by
  have hj := (List.getElem?_eq_some_iff.1 hs).1
  have hi := h.lt
  have hl := h.len
  refine ⟨by rw [List.length_set, h.len], ?_, ?_, by omega, hj, fun t ht => ?_⟩
  · rw [take_snoc hs, List.filter_append, ← h.head]
    have e : (cur.set i s)[i]? = some s := by rw [List.getElem?_set_self (by omega)]
    rw [take_snoc e, List.take_set_of_le (Nat.le_refl i)]
    simp [hc]
  · have := congrArg (List.drop 1) h.tail
    rw [List.drop_drop, List.drop_drop] at this
    rw [List.drop_set_of_lt (by omega)]
    exact this
  · rcases List.mem_or_eq_of_mem_set ht with h1 | h1
    · exact h.mem t h1
    · rw [h1]; exact List.mem_of_getElem? hs
theorem DelS.fin {l cur : List Sg} {i : Nat} (h : DelS l cur i l.length) : cur.take i = l.filter ncF ∧ (l.filter ncF).length = i := by
  have h1 := h.head
  rw [List.take_length] at h1
  refine ⟨h1, ?_⟩
  rw [← h1, List.length_take, h.len]
  have := h.lt
  omega
theorem SegsO.sub {w w' : World} {base : Nat} {l cur : List Sg} {v v' : Value} (h : SegsO w base v l) (ho : OwnL w' base 67 2 Sg.cs v' cur) (hm : ∀ s ∈ cur, s ∈ l) (hk : ∀ s ∈ l, OwnL w base 22 1 u1 (.slice s.A s.as_.length s.cap) s.as_ → OwnL w' base 22 1 u1 (.slice s.A s.as_.length s.cap) s.as_) : SegsO w' base v' cur :=
  ⟨ho, fun s hs => ⟨hk s (hm s hs) (h.as_ s (hm s hs)).1, (h.as_ s (hm s hs)).2⟩⟩
/-- what stays -/
def DelP (w : World) (base : Nat) (l : List Sg) (e : Ending) (w' : World) : Prop := ∃ A c, e = .returned (.slice A (l.filter ncF).length c) ∧ SegsO w' base (.slice A (l.filter ncF).length c) (l.filter ncF) ∧ Below base w w'
set_option maxRecDepth 100000 in
set_option maxHeartbeats 16000000 in
theorem delseg_any (A : Option Addr) (cap : Nat) (l : List Sg) (base : Nat) (w : World) (h : SegsO w base (.slice A l.length cap) l) (hb : base ≤ w.heap.size) :
    Calls Tryz.prog 63 #[.slice A l.length cap, .func (.func 62) #[] #[]] w (DelP w base l) := by
  have HI := Lib.hid (idxseg_any A cap l w h.ok)
  have HCF := Lib.hid confed_any
  have HO0 := Lib.hid h
  have HBB := Lib.hid hb
  have hlc : l.length ≤ cap := h.ok.len
  have hcm : cap ≤ 9223372036854775807 := h.ok.cap
  have HRET0 : Hid (∀ W, l.filter ncF = l → Below w.heap.size w W → DelP w base l (.returned (.slice A l.length cap)) W) := fun W e hW => by
    unfold DelP
    rw [e]
    exact ⟨A, cap, rfl, HO0.out.keep (fun i _ hi => hW.block i hi), hW.mono hb⟩
  have HRET1 : Hid (∀ (i g : Nat) W, A = some ⟨g, 0, none⟩ → i ≤ l.length → Hid (∃ cur : List Sg, DelS l cur i l.length ∧ OwnM W base 67 2 (.slice (some ⟨g, 0, none⟩) i cap) i ((cur.flatMap Sg.cs).take (i * 2)) ∧ Below base w W ∧ (∀ s ∈ l, OwnL W base 22 1 u1 (.slice s.A s.as_.length s.cap) s.as_)) → DelP w base l (.returned (.slice (some ⟨g, 0, none⟩) i cap)) W) := fun i g W hA hi hx => by
    obtain ⟨cur, h1, h2, h3, h4⟩ := hx.out
    obtain ⟨f1, f2⟩ := h1.fin
    unfold DelP
    rw [f2]
    refine ⟨_, cap, rfl, ?_, h3⟩
    refine HO0.out.sub ?_ (fun s hs => (List.mem_filter.1 hs).1) (fun s hs _ => h4 s hs)
    unfold OwnL
    rw [f2, ← f1, ← flat_take Sg.cs_len]
    exact h2
  clear h hb
  generalize DelP w base l = POST at HRET0 HRET1 ⊢
  go_enter Tryz.func63, Tryz.ntmps63
  go_wp2_with fail
  refine HI.out.mono ?_
  rintro e w1 ⟨hip, hb1⟩
  have HB1 := Lib.hid hb1
  clear HI hb1
  rcases hip with ⟨rfl, hall⟩ | ⟨i0, hi0, hf0, rfl⟩
  · have HALL := Lib.hid hall
    clear hall
    go_wp2_with fail
    exact HRET0.out _ HALL.out HB1.out
  · obtain ⟨g, cap2, hv, hgb, hgl, hn, hc, _, _⟩ := OwnM.cells HO0.out.own (show 0 < l.length by omega)
    simp only [Value.slice.injEq, true_and] at hv
    obtain ⟨rfl, rfl⟩ := hv
    have HG : Hid (base ≤ g ∧ g < w.heap.size) := ⟨hgb, hgl⟩
    have HR1 : Hid (∀ (i : Nat) W, i ≤ l.length → Hid (∃ cur : List Sg, DelS l cur i l.length ∧ OwnM W base 67 2 (.slice (some ⟨g, 0, none⟩) i cap) i ((cur.flatMap Sg.cs).take (i * 2)) ∧ Below base w W ∧ (∀ s ∈ l, OwnL W base 22 1 u1 (.slice s.A s.as_.length s.cap) s.as_)) → POST (.returned (.slice (some ⟨g, 0, none⟩) i cap)) W) := fun i W hi hx => HRET1.out i g W rfl hi hx
    have HS1 : Hid (SegsO w1 base (.slice (some ⟨g, 0, none⟩) l.length cap) l) := HO0.out.keep (fun i _ hi => HB1.out.block i hi)
    have HBW : Hid (Below base w w1) := HB1.out.mono HBB.out
    have HD0 : Hid (DelS l l i0 (i0 + 1)) := ⟨rfl, hf0.symm, rfl, by omega, hi0, fun s hs => hs⟩
    have hq1 : ((i0 : Int) == -1) = false := beq_eq_false_iff_ne.2 (by omega)
    have hq2 : ¬ (i0 : Int) = -1 := by omega
    obtain ⟨n, hnn⟩ : ∃ n, n = l.length := ⟨_, rfl⟩
    rw [← hnn] at hlc hi0 hn ⊢
    have HN := Lib.hid hnn
    clear hf0 hgb hgl HRET0 HRET1 HB1 hnn
    go_wp2_with fail
    go_loopw [5, 6] (fun i1 j1 wr => ∃ (i j : Nat), i1 = .int .i64 i ∧ j1 = .int .i64 j ∧ i < j ∧ j ≤ n ∧ Hid (∃ cur : List Sg, DelS l cur i j ∧ OwnL wr base 67 2 Sg.cs (.slice (some ⟨g, 0, none⟩) n cap) cur ∧ Below base w wr ∧ (∀ s ∈ l, OwnL wr base 22 1 u1 (.slice s.A s.as_.length s.cap) s.as_))) (fun _ j1 _ => n + 2 - (intOf j1).toNat)
    case atStart => exact ⟨i0, i0 + 1, rfl, by go_num, by omega, by omega, l, HD0.out, by have h := HS1.out.own; rwa [← HN.out] at h, HBW.out, fun s hs => (HS1.out.as_ s hs).1⟩
    case round =>
      clear HS1 HBW HD0 hq1 hq2
      obtain ⟨i, j, rfl, rfl, hij, hjn, HST⟩ := hrel
      by_cases hlt : j < n
      · obtain ⟨s, hs⟩ : ∃ s, l[j]? = some s := ⟨l[j]'(by have := HN.out; omega), List.getElem?_eq_getElem _⟩
        have HSS := Lib.hid hs
        have hcell : wr.cell? ⟨g, j * 2, none⟩ = some (.int .i64 s.kind) ∧ wr.cell? ⟨g, j * 2 + 1, none⟩ = some (.slice s.A s.as_.length s.cap) := by
          obtain ⟨cur, h1, h2, _, _⟩ := HST.out
          have h3 : cur[j]? = some s := (h1.at_ (by have := HN.out; omega)).trans hs
          obtain ⟨g2, cap3, hv, _, _, _, _, hc, _⟩ := OwnM.cells (show OwnM _ _ _ _ _ cur.length _ from h2) (by have := (List.getElem?_eq_some_iff.1 h3).1; omega)
          simp only [Value.slice.injEq, Option.some.injEq, Addr.mk.injEq] at hv
          obtain ⟨⟨rfl, _⟩, _, rfl⟩ := hv
          exact ⟨hc _ _ (flat_at Sg.cs_len cur j s 0 _ h3 rfl), hc _ _ (flat_at Sg.cs_len cur j s 1 _ h3 rfl)⟩
        obtain ⟨q0, q1⟩ := hcell
        clear hs
        go_upto_region 8 with fail
        refine rb_name fun V hV => ?_
        obtain ⟨q, hq⟩ : ∃ q, q = wr.heap.size := ⟨_, rfl⟩
        have HQ : Hid (CellsAt V q #[.int .i64 s.kind, .slice s.A s.as_.length s.cap] 67) := by rw [hV, hq]; exact CellsAt.new _ _ _
        have HBV : Hid (Below wr.heap.size wr V) := by rw [hV]; exact below1 _ _
        have HQS : Hid (q = wr.heap.size) := hq
        rw [← hq]
        clear hV hq q0 q1
        obtain ⟨q0, q1⟩ := HQ.out.c2
        go_wp2_with fail
        refine (HCF.out s.kind (.slice s.A s.as_.length s.cap) rfl _).mono ?_
        rintro e w2 ⟨rfl, hw2⟩
        have HB2 : Hid (Below wr.heap.size wr w2) := HBV.out.trans (hw2.mono HBV.out.size)
        have HQ2 : Hid (CellsAt w2 q #[.int .i64 s.kind, .slice s.A s.as_.length s.cap] 67) := HQ.out.below hw2 HQ.out.lt
        have HST2 : Hid (∃ cur : List Sg, DelS l cur i j ∧ OwnL w2 base 67 2 Sg.cs (.slice (some ⟨g, 0, none⟩) n cap) cur ∧ Below base w w2 ∧ base ≤ wr.heap.size ∧ (∀ s ∈ l, OwnL w2 base 22 1 u1 (.slice s.A s.as_.length s.cap) s.as_)) := by
          obtain ⟨cur, h1, h2, h3, h4⟩ := HST.out
          have hbw : base ≤ wr.heap.size := Nat.le_trans HBB.out (show w.heap.size ≤ wr.heap.size from h3.size)
          exact ⟨cur, h1, OwnL.below h2 HB2.out (Nat.le_refl _), h3.trans (HB2.out.mono hbw), hbw, fun s hs => OwnL.below (h4 s hs) HB2.out (Nat.le_refl _)⟩
        clear hw2 q0 q1 HST HQ HBV HB2
        obtain ⟨q0, q1⟩ := HQ2.out.c2
        cases hcf : conF s.kind with
        | true =>
          have HST3 : Hid (∃ cur : List Sg, DelS l cur i (j + 1) ∧ OwnL w2 base 67 2 Sg.cs (.slice (some ⟨g, 0, none⟩) n cap) cur ∧ Below base w w2 ∧ (∀ s ∈ l, OwnL w2 base 22 1 u1 (.slice s.A s.as_.length s.cap) s.as_)) := by
            obtain ⟨cur, h1, h2, h3, _, h4⟩ := HST2.out
            exact ⟨cur, h1.skip HSS.out (by unfold ncF; rw [hcf]; rfl), h2, h3, h4⟩
          clear hcf HST2
          go_wp2_with fail
          exact ⟨⟨i, j + 1, rfl, by go_num, by omega, by omega, HST3.out⟩, by simp [intOf]; omega⟩
        | false =>
          have HST3 : Hid (∃ cur : List Sg, DelS l cur (i + 1) (j + 1) ∧ OwnL (w2.setCells g (i * 2) [.int .i64 s.kind, .slice s.A s.as_.length s.cap]) base 67 2 Sg.cs (.slice (some ⟨g, 0, none⟩) n cap) cur ∧ Below base w (w2.setCells g (i * 2) [.int .i64 s.kind, .slice s.A s.as_.length s.cap]) ∧ (∀ s2 ∈ l, OwnL (w2.setCells g (i * 2) [.int .i64 s.kind, .slice s.A s.as_.length s.cap]) base 22 1 u1 (.slice s2.A s2.as_.length s2.cap) s2.as_)) := by
            obtain ⟨cur, h1, h2, h3, h5, h4⟩ := HST2.out
            have hlen : cur.length = n := h1.len.trans HN.out.symm
            have h2' : OwnM w2 base 67 2 (.slice (some ⟨g, 0, none⟩) n cap) n (cur.flatMap Sg.cs) := by rw [← hlen]; rw [← hlen] at h2; exact h2
            have hgr : w2.grownBy (w2.setCells g (i * 2) [.int .i64 s.kind, .slice s.A s.as_.length s.cap]) (some g) := grown_setCells g _ _ _
            refine ⟨cur.set i s, h1.keep HSS.out (by unfold ncF; rw [hcf]; rfl), ?_, ?_, fun s2 hs2 => ?_⟩
            · have h6 := OwnM.setMany [.int .i64 s.kind, .slice s.A s.as_.length s.cap] (i * 2) w2 _ h2' (by simp; omega)
              have h7 := flat_setL (F := Sg.cs) (C := 2) (by decide) Sg.cs_len cur i s (by omega)
              rw [show Sg.cs s = [.int .i64 s.kind, .slice s.A s.as_.length s.cap] from rfl] at h7
              rw [h7] at h6
              unfold OwnL
              rw [List.length_set, hlen]
              exact h6
            · exact h3.grown hgr (Nat.le_trans HBB.out (show w.heap.size ≤ w2.heap.size from h3.size)) (fun k hk => by injection hk with hk; have := HG.out.1; omega)
            · exact OwnM.grown (h4 s2 hs2) hgr (fun k hk e => own_ne (h4 s2 hs2) h2' (by decide) k hk (by rw [e]; rfl))
          have HTH : Hid (w2.there g (i * 2) (#[Value.int .i64 s.kind, .slice s.A s.as_.length s.cap] : Array Value).size) := by
            obtain ⟨cur, h1, h2, _, _, _⟩ := HST2.out
            have hlen : cur.length = n := h1.len.trans HN.out.symm
            obtain ⟨t1, t2⟩ := OwnM.there' (show OwnM w2 base 67 2 (.slice (some ⟨g, 0, none⟩) n cap) n (cur.flatMap Sg.cs) by rw [← hlen]; rw [← hlen] at h2; exact h2)
            intro k hk
            have hk2 : k < 2 := hk
            exact ⟨t1 _ (by omega), t2 _ (by omega)⟩
          clear hcf HST2
          go_wp2_with (with_reducible show wpList _ _ _ (_ :: _) _ _; refine wpList_store_mid rfl 67 (.tmp 33) (.tmp 32) rfl g (i * 2) #[.int .i64 s.kind, .slice s.A s.as_.length s.cap] rfl rfl HTH.out (by kernel_rfl) (by simp [Value.oneCell']) ?_)
          exact ⟨⟨i + 1, j + 1, by go_num, by go_num, by omega, by omega, HST3.out⟩, by simp [intOf]; omega⟩
      · obtain rfl : j = n := by omega
        have hcl : ∃ w9, Hid ((Builtin.clear_ #[28] 0 #[.slice (some ⟨g, i * 2, none⟩) (j - i) (cap - i)]).run Tryz.prog wr = .ok (.tuple #[]) w9) ∧ Hid (∃ cur : List Sg, DelS l cur i l.length ∧ OwnM w9 base 67 2 (.slice (some ⟨g, 0, none⟩) i cap) i ((cur.flatMap Sg.cs).take (i * 2)) ∧ Below base w w9 ∧ (∀ s ∈ l, OwnL w9 base 22 1 u1 (.slice s.A s.as_.length s.cap) s.as_)) := by
          obtain ⟨cur, h1, h2, h3, h4⟩ := HST.out
          have hlen : cur.length = j := h1.len.trans HN.out.symm
          have h2' : OwnM wr base 67 2 (.slice (some ⟨g, 0, none⟩) j cap) j (cur.flatMap Sg.cs) := by rw [← hlen]; rw [← hlen] at h2; exact h2
          obtain ⟨w9, e9, o9, g9⟩ := clear_S h2' hij (cap - i) 0
          refine ⟨w9, e9, cur, by rw [← HN.out]; exact h1, o9, ?_, fun s2 hs2 => ?_⟩
          · exact h3.grown g9 (Nat.le_trans HBB.out (show w.heap.size ≤ wr.heap.size from h3.size)) (fun k hk => by injection hk with hk; have := HG.out.1; omega)
          · exact OwnM.grown (h4 s2 hs2) g9 (fun k hk e => own_ne (h4 s2 hs2) h2' (by decide) k hk (by rw [e]; rfl))
        obtain ⟨w9, HE9, HF9⟩ := hcl
        have hE9 := HE9.out
        have hs1 : ∀ W, (Instr.sliceAt 28 (.slice (some ⟨g, 0, none⟩) j cap) (some (.int .i64 (i : Nat))) none none).run Tryz.prog W = .ok (.slice (some ⟨g, i * 2, none⟩) (j - i) (cap - i)) W := fun W => by
          have hc0 : ¬ cap = i := by omega
          have hc1 : i ≤ cap := by omega
          have hc2 : i ≤ j := by omega
          have hc3 : ¬ ((j : Int) < (i : Int)) := by omega
          simp [go_sem, hc0, hc1, hc2, hlc, Tryz.sizeOf67]
        have hs2 : ∀ W, (Instr.sliceAt 28 (.slice (some ⟨g, 0, none⟩) j cap) none (some (.int .i64 (i : Nat))) none).run Tryz.prog W = .ok (.slice (some ⟨g, 0, none⟩) i cap) W := fun W => by
          have hc1 : i ≤ cap := by omega
          simp [go_sem, hc1]
        clear HST HE9
        go_wp2_with fail
        exact HR1.out i _ (by have := HN.out; omega) HF9.out
end Go.Proofs.YtojiieghjhjoaaaGreat
