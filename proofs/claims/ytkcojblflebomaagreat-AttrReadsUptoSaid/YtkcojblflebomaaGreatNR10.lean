/-
  Several texts in one.
-/
import Derived.Test.YtkcojblflebomaaGreatNR9
import Derived.Deep.DeepCutAuto
set_option linter.unusedVariables false
set_option linter.unusedSimpArgs false
namespace Go.Proofs.YtkcojblflebomaaGreat
open Go.RowKit Go.MapKept Go.Shelf
open Go.Lib hiding intOf

/-- segments that a call made, as they lie -/
structure SegsO (w : World) (base : Nat) (v : Value) (segs : List Sg) : Prop where
  own : OwnL w base 61 2 Sg.cs v segs
  as_ : ∀ s ∈ segs, OwnL w base 35 1 u1 (.slice s.A s.as_.length s.cap) s.as_ ∧ (∀ n ∈ s.as_, n < 4294967296) ∧ -9223372036854775808 ≤ s.kind ∧ s.kind ≤ 9223372036854775807
theorem SegsO.nil (w : World) (base : Nat) : SegsO w base (.slice none 0 0) [] := ⟨OwnL.nil _ _ _ _ _, fun s h => by cases h⟩
theorem SegsO.segs {w : World} {base : Nat} {v : Value} {segs : List Sg} (h : SegsO w base v segs) : SegsOwn w base v (segs.map Sg.c) := ⟨segs, h.own, rfl, h.as_⟩
theorem SegsO.keep {w w' : World} {base : Nat} {v : Value} {segs : List Sg} (h : SegsO w base v segs) (hk : ∀ i, base ≤ i → i < w.heap.size → w'.heap[i]? = w.heap[i]?) : SegsO w' base v segs :=
  ⟨OwnM.keep h.own (fun k e => hk k (OwnM.lt h.own k e).1 (OwnM.lt h.own k e).2), fun s hs => ⟨OwnM.keep (h.as_ s hs).1 (fun k e => hk k (OwnM.lt (h.as_ s hs).1 k e).1 (OwnM.lt (h.as_ s hs).1 k e).2), (h.as_ s hs).2⟩⟩
/-- nothing below g has turned but the block rb -/
structure Kp (V w : World) (rb g : Nat) : Prop where
  k : ∀ i, i < g → i ≠ rb → w.heap[i]? = V.heap[i]?
  s : g < w.heap.size
theorem Kp.grown {V w w' : World} {rb g : Nat} {row : Option Nat} (h : Kp V w rb g) (hg : w.grownBy w' row) (hr : ∀ k, row = some k → k = rb ∨ g ≤ k) : Kp V w' rb g :=
  ⟨fun i hi hn => (hg.block i (Nat.lt_trans hi h.s) (fun e => by
    rcases hr i e.symm with h1 | h1
    · exact hn h1
    · omega)).trans (h.k i hi hn), Nat.lt_of_lt_of_le h.s hg.size⟩
theorem Kp.below {V w w' : World} {rb g : Nat} (h : Kp V w rb g) (hg : Below w.heap.size w w') : Kp V w' rb g :=
  ⟨fun i hi hn => (hg.block i (Nat.lt_trans hi h.s)).trans (h.k i hi hn), Nat.lt_of_lt_of_le h.s hg.size⟩
theorem CellsAt.set2 {w : World} {b : Nat} {x y u : Value} {T : TypeId} (h : CellsAt w b #[x, y] T) : CellsAt (w.setCell ⟨b, 1, none⟩ u) b #[x, u] T := by
  have h2 : w.heap[b]? = some (.cells #[x, y] T (0, 0)) := h
  unfold CellsAt
  rw [setCell_eq_setRow w b 1 _ _ _ _ h2]
  exact setRow_heap w b _ _ _ _ h2
theorem CellsAt.unfrz {w : World} {b : Nat} {cs : Array Value} {T : TypeId} (h : CellsAt w b cs T) (i : Nat) : w.frozen? ⟨b, i, none⟩ = false := by
  have h2 : w.heap[b]? = some (.cells cs T (0, 0)) := h
  simp only [World.frozen?, h2]
  exact Bool.and_eq_false_iff.2 (.inr (by simp))
/-- how far the numbers of a segment have been read -/
def InSt (wz : World) (rb sz j : Nat) (t2 : ByteArray) (ok : Bool) (al : List Nat) : Prop :=
  (ok = true ∧ al = asN sz j t2 ∧ RdAt wz rb (nxN sz j t2) ∧ j * sz ≤ t2.size) ∨ (ok = false ∧ t2.size < (j) * sz ∧ ∃ u, RdAt wz rb u ∧ u.size < sz)
theorem js1 {j sz T U : Nat} (h : j * sz ≤ T) (hU : U = T - j * sz) (h2 : sz ≤ U) : (j + 1) * sz ≤ T := by
  rw [Nat.succ_mul]
  generalize j * sz = p at *
  omega
theorem js2 {j sz T U : Nat} (h : j * sz ≤ T) (hU : U = T - j * sz) (h2 : U < sz) : T < (j + 1) * sz := by
  rw [Nat.succ_mul]
  generalize j * sz = p at *
  omega
theorem js3 {j sz T : Nat} (h : T < j * sz) : T < (j + 1) * sz := by
  rw [Nat.succ_mul]
  exact Nat.lt_of_lt_of_le h (Nat.le_add_right _ _)
theorem own_ne {w : World} {b b' : Nat} {e e' : TypeId} {s s' n n' : Nat} {v v' : Value} {xs xs' : List Value} (h : OwnM w b e s v n xs) (h' : OwnM w b' e' s' v' n' xs') (he : e ≠ e') : ∀ k, v.ownBlock = some k → some k ≠ v'.ownBlock := fun k hk hk' => by
  rcases h.2 with ⟨rfl, _⟩ | ⟨g, cap, cur, fr, rfl, _, hg, _⟩
  · simp [Value.ownBlock] at hk
  · rcases h'.2 with ⟨rfl, _⟩ | ⟨g', cap', cur', fr', rfl, _, hg', _⟩
    · simp [Value.ownBlock] at hk'
    · simp [Value.ownBlock] at hk hk'
      subst hk
      subst hk'
      rw [hg] at hg'
      injection hg' with hq
      injection hq with _ hq2
      exact he hq2
theorem RdAt.setOther {w : World} {b g i : Nat} {s : ByteArray} {u : Value} (h : RdAt w b s) (hn : b ≠ g) : RdAt (w.setCell ⟨g, i, none⟩ u) b s := (Below.heap_setCell w _ _ b hn).trans h
theorem fit_snoc {al : List Nat} {v : Nat} (h : ∀ x ∈ al, x < 4294967296) (hv : v < 4294967296) : ∀ x ∈ al ++ [v], x < 4294967296 := fun x hx => by
  rcases List.mem_append.1 hx with hx | hx
  · exact h x hx
  · rw [List.mem_singleton.1 hx]; exact hv
set_option maxRecDepth 100000 in
set_option maxHeartbeats 16000000 in
theorem decode_any (s : ByteArray) (four : Bool) (w : World) (hm : (s.size : Int) ≤ 140737488351232) :
    Calls Tryz.prog 75 #[.string s, .bool four] w fun e w' => PathPost (w.heap.size + 1) (decP four s) w' e ∧ Below w.heap.size w w' := by
  have HNO := Lib.hid number_nx
  have HNS := Lib.hid number_short
  have HCK := Lib.hid pcheck_any
  obtain ⟨i0, hi, hz0, hz1, hz2⟩ := info_parts infoU32
  have HI := Lib.hid hi
  have HZ0 := Lib.hid hz0
  have HZ1 := Lib.hid hz1
  have HZ2 := Lib.hid hz2
  obtain ⟨i1, hi', hz0', hz1', hz2'⟩ := info_parts infoSeg
  have GI := Lib.hid hi'
  have GZ0 := Lib.hid hz0'
  have GZ1 := Lib.hid hz1'
  have GZ2 := Lib.hid hz2'
  clear hi hz0 hz1 hz2 hi' hz0' hz1' hz2'
  have HNOb : Hid (∀ (L : List (Int × List Nat)) (t : ByteArray), pdA (sizeOf4 four) s = (pdA (sizeOf4 four) t).map (L ++ ·) → 0 < t.size → pdStep (sizeOf4 four) t = none → decP four s = none) := fun L t h1 h2 h3 => decP_no h1 h2 h3
  have HMANY : Hid (∀ (L : List (Int × List Nat)) (t : ByteArray), pdA (sizeOf4 four) s = (pdA (sizeOf4 four) t).map (L ++ ·) → 0 < t.size → L.length = 16 → decP four s = none) := fun L t h1 h2 h3 => decP_many h1 h2 h3
  have HEND : Hid (∀ (L : List (Int × List Nat)) (t : ByteArray), pdA (sizeOf4 four) s = (pdA (sizeOf4 four) t).map (L ++ ·) → t.size = 0 → decP four s = if pathOk L = true then some L else none) := fun L t h1 h2 => decP_end h1 h2
  generalize decP four s = res at HNOb HMANY HEND ⊢
  go_enter Tryz.func75, Tryz.ntmps75
  go_upto_if 16 with fail
  go_cut [6] (fun v wx => v = .int .i64 (sizeOf4 four : Nat) ∧ wx = w)
  case first =>
    cases four with
    | true =>
      go_wp2_with fail
      go_meet
      exact ⟨rfl, rfl⟩
    | false =>
      go_wp2_with fail
      go_meet
      exact ⟨rfl, rfl⟩
  case rest =>
  obtain ⟨rfl, rfl⟩ := hcut
  have hz1 : 1 ≤ sizeOf4 four ∧ sizeOf4 four ≤ 4 := by cases four <;> decide
  have HZ32 : Hid (256 ^ sizeOf4 four ≤ 4294967296) := by cases four <;> exact Lib.hid (by decide)
  generalize sizeOf4 four = sz at hz1 HZ32 HNOb HMANY HEND ⊢
  obtain ⟨hsz1, hsz4⟩ := hz1
  go_wp2_with fail
  refine (new_any s _).mono ?_
  rintro e w' ⟨rfl, rfl⟩
  have HR0 : Hid (RdAt (wc.alloc (.cells #[.bool true, .string s] 110)) wc.heap.size s) := heap_alloc_new wc _
  have HB0 : Hid (Below wc.heap.size wc (wc.alloc (.cells #[.bool true, .string s] 110))) := (Below.refl _ _).alloc (Nat.le_refl _) _
  have hs0 : wc.heap.size + 1 ≤ (wc.alloc (.cells #[.bool true, .string s] 110)).heap.size := by simp
  generalize wc.alloc (.cells #[.bool true, .string s] 110) = W0 at HR0 HB0 hs0 ⊢
  go_wp2_with fail
  go_loopw [8] (fun ov wr => ∃ (segs : List Sg) (t : ByteArray), Hid (SegsO wr (wc.heap.size + 1) ov segs) ∧ Hid (RdAt wr wc.heap.size t) ∧ Hid (Below wc.heap.size wc wr) ∧ Hid (pdA sz s = (pdA sz t).map (segs.map Sg.c ++ ·)) ∧ t.size ≤ s.size ∧ segs.length ≤ 16 ∧ wc.heap.size + 1 ≤ wr.heap.size) (fun o _ => 17 - lenV o)
  case atStart => exact ⟨[], s, SegsO.nil _ _, HR0.out, HB0.out, by show _ = _; simp, Nat.le_refl _, by simp, hs0⟩
  case round =>
    clear HR0 HB0 hs0
    obtain ⟨segs, t, HO, HRd, HB, HSP, hts, hl16, hbase⟩ := hrel
    obtain ⟨A, c, rfl⟩ := HO.out.own.form
    by_cases h0 : t.size = 0
    case pos =>
      have HF := Lib.hid (HEND.out _ _ HSP.out h0)
      have h0' : ¬ 0 < (t.size : Int) := by omega
      have HSO : Hid (SegsOk wr A c segs) := by
        obtain ⟨r1, r2, r3⟩ := HO.out.own.slice Sg.cs_len
        exact ⟨r1, fun s hs => by
          obtain ⟨q1, q2, q3⟩ := HO.out.as_ s hs
          obtain ⟨p1, p2, p3⟩ := q1.slice u1_len
          exact ⟨p1, p2, p3, q2, q3⟩, r2, r3⟩
      clear h0 HSP
      go_wp2_with fail
      refine (left_any _ t _ HRd.out).mono ?_
      rintro e w1 ⟨rfl, rfl⟩
      have HCK2 := Lib.hid (HCK.out A c segs _ HSO.out)
      cases hp : pathOk (segs.map Sg.c) with
      | true =>
        rw [hp, show okN true = 0 from rfl] at HCK2
        rw [hp, if_pos rfl] at HF
        clear hp
        go_wp2_with fail
        refine HCK2.out.mono ?_
        rintro e w2 ⟨rfl, hb⟩
        have HO2 : Hid (SegsO w2 (wc.heap.size + 1) (.slice A segs.length c) segs) := HO.out.keep (fun i _ hi => hb.block i hi)
        have HB2 : Hid (Below wc.heap.size wc w2) := HB.out.trans (hb.mono HB.out.size)
        clear hb
        go_wp2_with fail
        go_ret2
        exact ⟨by rw [HF.out]; exact ⟨_, rfl, HO2.out.segs⟩, HB2.out⟩
      | false =>
        rw [hp, show okN false = 2 from rfl] at HCK2
        rw [hp, if_neg (by simp)] at HF
        clear hp
        go_wp2_with fail
        refine HCK2.out.mono ?_
        rintro e w2 ⟨rfl, hb⟩
        have HB2 : Hid (Below wc.heap.size wc w2) := HB.out.trans (hb.mono HB.out.size)
        clear hb
        go_wp2_with fail
        go_ret2
        exact ⟨by rw [HF.out]; rfl, HB2.out⟩
    have h0' : 0 < (t.size : Int) := by omega
    have h0n : 0 < t.size := by omega
    have hmt : (t.size : Int) ≤ 140737488351232 := by omega
    clear h0
    go_wp2_with fail
    refine (left_any _ t _ HRd.out).mono ?_
    rintro e w1 ⟨rfl, rfl⟩
    go_wp2_with fail
    refine (HNO.out _ t 1 _ HRd.out (by omega) (by omega) (by omega) hmt).mono ?_
    rintro e v1 ⟨rfl, hr, hg⟩
    have HO1 : Hid (SegsO v1 (wc.heap.size + 1) (.slice A segs.length c) segs) := HO.out.keep (fun i h1 h2 => hg.block i h2 (fun e => by injection e with e; omega))
    have HB1 : Hid (Below wc.heap.size wc v1) := HB.out.grown hg HB.out.size (fun k hk => by cases hk; exact Nat.le_refl _)
    have hbase1 : wc.heap.size + 1 ≤ v1.heap.size := Nat.le_trans hbase hg.size
    have HST : Hid (pdStep sz t = if t.size < 2 then none else if (nx (nx t 1) 1).size < hd (nx t 1) 1 * sz then none else some ((((hd t 1 : Nat) : Int), asN sz (hd (nx t 1) 1) (nx (nx t 1) 1)), nxN sz (hd (nx t 1) 1) (nx (nx t 1) 1))) := rfl
    obtain ⟨t1, et1⟩ : ∃ u, u = nx t 1 := ⟨_, rfl⟩
    obtain ⟨kd, ekd⟩ : ∃ u, u = hd t 1 := ⟨_, rfl⟩
    have hkd : kd < 256 := by rw [ekd]; exact hd_one _
    have hst1 : t1.size = t.size - 1 := by rw [et1, nx_size]
    rw [← et1] at hr
    rw [← ekd]
    rw [← et1, ← ekd] at HST
    have HR1 : Hid (RdAt v1 wc.heap.size t1) := hr
    have hmt1 : (t1.size : Int) ≤ 140737488351232 := by omega
    have HZT1 := Lib.hid hst1
    clear et1 ekd hr hg hst1 HO HB HRd hbase
    by_cases h2 : t1.size = 0
    case pos =>
      have h2' : t1.size < 1 := by omega
      have HN : Hid (res = none) := HNOb.out _ _ HSP.out h0n (by rw [HST.out, if_pos (by have := HZT1.out; omega)])
      clear h2
      go_wp2_with fail
      refine (HNS.out _ t1 1 _ HR1.out (by omega) (by omega) (by omega) (by omega)).mono ?_
      rintro e v2 ⟨rfl, hr, hg⟩
      have HB2 : Hid (Below wc.heap.size wc v2) := HB1.out.grown hg HB1.out.size (fun k hk => by cases hk; exact Nat.le_refl _)
      have hs2 := HB2.out.size
      clear hr hg
      go_wp2_with fail
      refine wp_loop_rounds 1 ?_
      rw [rounds_succ]
      go_wp2_with fail
      go_ret2
      exact ⟨by rw [HN.out]; rfl, HB2.out.alloc hs2 _⟩
    have h2n : 1 ≤ t1.size := by omega
    clear h2
    go_wp2_with fail
    refine (HNO.out _ t1 1 _ HR1.out (by omega) (by omega) (by omega) hmt1).mono ?_
    rintro e v2 ⟨rfl, hr, hg⟩
    have HO2 : Hid (SegsO v2 (wc.heap.size + 1) (.slice A segs.length c) segs) := HO1.out.keep (fun i h1 h2 => hg.block i h2 (fun e => by injection e with e; omega))
    have HB2 : Hid (Below wc.heap.size wc v2) := HB1.out.grown hg HB1.out.size (fun k hk => by cases hk; exact Nat.le_refl _)
    have hbase2 : wc.heap.size + 1 ≤ v2.heap.size := Nat.le_trans hbase1 hg.size
    obtain ⟨t2, et2⟩ : ∃ u, u = nx t1 1 := ⟨_, rfl⟩
    obtain ⟨n, en⟩ : ∃ u, u = hd t1 1 := ⟨_, rfl⟩
    have hn : n < 256 := by rw [en]; exact hd_one _
    have hst2 : t2.size = t1.size - 1 := by rw [et2, nx_size]
    rw [← et2] at hr
    rw [← en]
    rw [← et2, ← en, if_neg (by have := HZT1.out; omega)] at HST
    have HR2 : Hid (RdAt v2 wc.heap.size t2) := hr
    have HNE : Hid (wc.heap.size ≠ v2.heap.size) := by show _ ≠ _; omega
    have hmt2 : (t2.size : Int) ≤ 140737488351232 := by have := HZT1.out; omega
    have htt : t2.size < t.size := by have := HZT1.out; omega
    clear et2 en hr hg hst2 HO1 HB1 HR1 hbase1
    have HC0 : Hid (CellsAt (v2.alloc (.cells #[.int .i64 (kd : Nat), .slice none 0 0] 61)) v2.heap.size #[.int .i64 (kd : Nat), .slice none 0 0] 61) := CellsAt.new _ _ _
    have HK0 : Hid (Kp v2 (v2.alloc (.cells #[.int .i64 (kd : Nat), .slice none 0 0] 61)) wc.heap.size v2.heap.size) := ⟨fun i h1 _ => Below.heap_alloc _ _ _ h1, by simp⟩
    have HBx : Hid (Below wc.heap.size wc (v2.alloc (.cells #[.int .i64 (kd : Nat), .slice none 0 0] 61))) := HB2.out.alloc HB2.out.size _
    have HRx : Hid (RdAt (v2.alloc (.cells #[.int .i64 (kd : Nat), .slice none 0 0] 61)) wc.heap.size t2) := (Below.heap_alloc _ _ _ HR2.out.lt).trans HR2.out
    go_wp2_with fail
    go_loopw [12, 36] (fun isv i wz => ∃ (ok : Bool) (j : Nat) (A3 : Option Addr) (c3 : Nat) (al : List Nat), CellsAt wz v2.heap.size #[.int .i64 (kd : Nat), .slice A3 al.length c3] 61 ∧ OwnL wz (v2.heap.size + 1) 35 1 u1 (.slice A3 al.length c3) al ∧ al.length = j ∧ (InSt wz wc.heap.size sz j t2 ok al ∧ (∀ x ∈ al, x < 4294967296) ∧ j ≤ n ∧ i = .int .u64 (j : Nat) ∧ isv = .bool ok) ∧ Kp v2 wz wc.heap.size v2.heap.size ∧ Below wc.heap.size wc wz) (fun _ i _ => n + 1 - (intOf i).toNat)
    case atStart => exact ⟨true, 0, none, 0, [], HC0.out, OwnL.nil _ _ _ _ _, rfl, ⟨.inl ⟨rfl, rfl, HRx.out, by omega⟩, (fun x hx => by cases hx), Nat.zero_le _, rfl, rfl⟩, HK0.out, HBx.out⟩
    case round =>
      clear HC0 HK0 HBx HRx
      obtain ⟨ok, j, A3, c3, al, hcx, hal', hal, ⟨hin, hfit, hjn, rfl, rfl⟩, hk, hbz⟩ := hrel
      have HCx := Lib.hid hcx
      have HAl := Lib.hid hal'
      have HK := Lib.hid hk
      have HBz := Lib.hid hbz
      have HFIT := Lib.hid hfit
      have HIN := Lib.hid hin
      have HALN := Lib.hid hal
      have hale : al.length ≤ n := by omega
      clear hcx hal' hk hbz hfit hin hal
      by_cases hlt : j < n
      · rcases HIN.out with ⟨rfl, hasn, hrd, hjs⟩ | ⟨rfl, hsh, u, hrd, hus⟩
        · have HRD := Lib.hid hrd
          have HAS := Lib.hid hasn
          have hns := nxN_size sz j t2
          have HNSZ := Lib.hid hns
          have HNXS := Lib.hid (nxN_succ sz j t2)
          have HASS := Lib.hid (asN_succ sz j t2)
          have HJS0 := Lib.hid hjs
          generalize nxN sz j t2 = u at HRD hns HNSZ HNXS HASS
          have hmu : (u.size : Int) ≤ 140737488351232 := by rw [hns]; generalize j * sz = p; omega
          clear hrd hasn HIN hns hjs
          by_cases hsu : sz ≤ u.size
          · go_wp2_with fail
            refine (HNO.out _ u sz _ HRD.out hsz1 (by omega) hsu hmu).mono ?_
            rintro e v4 ⟨rfl, hr, hg⟩
            obtain ⟨val, eval⟩ : ∃ v, v = hd u sz := ⟨_, rfl⟩
            have hval : val < 4294967296 := by rw [eval]; exact Nat.lt_of_lt_of_le (hd_lt u sz) HZ32.out
            have HVAL := Lib.hid eval
            rw [← eval]
            have HRn : Hid (RdAt v4 wc.heap.size (nx u sz)) := hr
            clear eval hr
            have HCn : Hid (CellsAt v4 v2.heap.size #[.int .i64 (kd : Nat), .slice A3 al.length c3] 61) := HCx.out.own hg (fun e => by injection e with e; omega)
            have HAn : Hid (OwnL v4 (v2.heap.size + 1) 35 1 u1 (.slice A3 al.length c3) al) := HAl.out.grown hg (fun k hk => by cases hk; omega)
            have HKn : Hid (Kp v2 v4 wc.heap.size v2.heap.size) := HK.out.grown hg (fun k hk => by cases hk; exact .inl rfl)
            have HBn : Hid (Below wc.heap.size wc v4) := HBz.out.grown hg HBz.out.size (fun k hk => by cases hk; exact Nat.le_refl _)
            clear hg HCx HAl HK HBz
            obtain ⟨d0, d1⟩ := HCn.out.c2
            have hs4 := HKn.out.s
            have HCB : Hid (CellsAt (v4.alloc (.cells #[.int .u32 (val : Nat)] 35)) v4.heap.size #[.int .u32 (val : Nat)] 35) := CellsAt.new _ _ _
            have HS := Lib.hid (Src.block (P := Tryz.prog) (t2 := 36) (size := 1) (m := 1) (c := 1) Tryz.underlying36 HCB.out rfl (by simp [Value.oneCell']))
            have HOa := Lib.hid (HAn.out.alloc (.cells #[.int .u32 (val : Nat)] 35))
            have HCa := Lib.hid (HCn.out.alloc (.cells #[.int .u32 (val : Nat)] 35))
            have HKa : Hid (Kp v2 (v4.alloc (.cells #[.int .u32 (val : Nat)] 35)) wc.heap.size v2.heap.size) := HKn.out.below ((Below.refl _ _).alloc (Nat.le_refl _) _)
            have HBa : Hid (Below wc.heap.size wc (v4.alloc (.cells #[.int .u32 (val : Nat)] 35))) := HBn.out.alloc HBn.out.size _
            have HRa := Lib.hid (fun u (h : RdAt v4 wc.heap.size u) => (show RdAt (v4.alloc (.cells #[.int .u32 (val : Nat)] 35)) wc.heap.size u from (Below.heap_alloc _ _ _ h.lt).trans h))
            have HBS : Hid (v2.heap.size + 1 ≤ (v4.alloc (.cells #[.int .u32 (val : Nat)] 35)).heap.size) := by show _ ≤ _; simp; omega
            have HM : Hid (al.length + 1 ≤ maxLen) := by show _ ≤ _; unfold maxLen; omega
            have HY : Hid ((al.length + 1) * 4 ≤ 140737488355328) := by show _ ≤ _; omega
            go_wp2_with (at_builtin; refine wpList_append_m rfl (.tmp 49) (.tmp 52) 36 36 rfl (v2.heap.size + 1) 35 i0 _ 1 4 Tryz.underlying36 HI.out HZ0.out HZ1.out HZ2.out rfl (by decide) (.slice A3 al.length c3) al.length (al.flatMap u1) rfl HOa.out _ 1 _ rfl HS.out HM.out HY.out HBS.out ?_)
            intro v' w5 hown hgr hat
            obtain ⟨A6, c6, rfl⟩ := hown.form
            have HN5 : Hid (OwnL w5 (v2.heap.size + 1) 35 1 u1 (.slice A6 (al.length + 1) c6) (al ++ [val])) := OwnL.snoc hown
            have hob : ∀ k, (Value.slice A3 al.length c3).ownBlock = some k → v2.heap.size + 1 ≤ k := fun k hk => (OwnM.lt HOa.out k hk).1
            have HB5 : Hid (Below wc.heap.size wc w5) := OwnM.below_grown HOa.out hgr HBa.out (by have := HBa.out.size; exact this) (by omega)
            have HC5 : Hid (CellsAt w5 v2.heap.size #[.int .i64 (kd : Nat), .slice A3 al.length c3] 61) := HCa.out.own hgr (fun e => by have := hob _ e.symm; omega)
            have HK5 : Hid (Kp v2 w5 wc.heap.size v2.heap.size) := HKa.out.grown hgr (fun k hk => .inr (by have := hob k hk; omega))
            have HR5 := Lib.hid (fun u (h : RdAt v4 wc.heap.size u) => (HRa.out u h).own hgr (fun e => by have := hob _ e.symm; omega))
            obtain ⟨e0, e1⟩ := HC5.out.c2
            have ef := HC5.out.unfrz 1
            have hs5 := HK5.out.s
            clear hown hgr hat hob d0 d1 HCB HS HOa HCa HKa HBa HRa HBS HM HY
            go_wp2_with fail
            have hfin : Hid (CellsAt (w5.setCell ⟨v2.heap.size, 1, none⟩ (.slice A6 (al.length + 1) c6)) v2.heap.size #[.int .i64 (kd : Nat), .slice A6 (al ++ [val]).length c6] 61 ∧ OwnL (w5.setCell ⟨v2.heap.size, 1, none⟩ (.slice A6 (al.length + 1) c6)) (v2.heap.size + 1) 35 1 u1 (.slice A6 (al ++ [val]).length c6) (al ++ [val])) := by
              show _ ∧ _
              rw [show (al ++ [(val : Nat)]).length = al.length + 1 from by simp]
              exact ⟨HC5.out.set2, OwnM.setCell HN5.out (p := ⟨v2.heap.size, 1, none⟩) (fun k hk => by
                have := (OwnM.lt HN5.out k hk).1
                show k ≠ v2.heap.size
                omega) _⟩
            have hkf : Hid (Kp v2 (w5.setCell ⟨v2.heap.size, 1, none⟩ (.slice A6 (al.length + 1) c6)) wc.heap.size v2.heap.size) := ⟨fun i h1 h2 => (Below.heap_setCell w5 _ _ i (by show i ≠ v2.heap.size; omega)).trans (HK5.out.k i h1 h2), by simpa [World.setCell] using hs5⟩
            have hbf : Hid (Below wc.heap.size wc (w5.setCell ⟨v2.heap.size, 1, none⟩ (.slice A6 (al.length + 1) c6))) := Below.setCell HB5.out (Nat.le_of_lt (Nat.lt_of_succ_le hbase2)) _
            have hinf : Hid (InSt (w5.setCell ⟨v2.heap.size, 1, none⟩ (.slice A6 (al.length + 1) c6)) wc.heap.size sz (j + 1) t2 true (al ++ [val])) := .inl ⟨rfl, by rw [HASS.out, HAS.out, HVAL.out], by rw [HNXS.out]; exact (HR5.out _ HRn.out).setOther HNE.out, js1 HJS0.out HNSZ.out hsu⟩
            exact ⟨⟨true, j + 1, A6, c6, al ++ [val], hfin.out.1, hfin.out.2, by rw [List.length_append, HALN.out]; rfl, ⟨hinf.out, fit_snoc HFIT.out hval, hlt, by go_num, rfl⟩, hkf.out, hbf.out⟩, by simp [intOf]; omega⟩
          · have hsu' : u.size < sz := by omega
            go_wp2_with fail
            refine (HNS.out _ u sz _ HRD.out hsz1 (by omega) hsu' (by omega)).mono ?_
            rintro e v4 ⟨rfl, hr, hg⟩
            have HRn : Hid (RdAt v4 wc.heap.size u) := hr
            clear hr
            have HCn : Hid (CellsAt v4 v2.heap.size #[.int .i64 (kd : Nat), .slice A3 al.length c3] 61) := HCx.out.own hg (fun e => by injection e with e; omega)
            have HAn : Hid (OwnL v4 (v2.heap.size + 1) 35 1 u1 (.slice A3 al.length c3) al) := HAl.out.grown hg (fun k hk => by cases hk; omega)
            have HKn : Hid (Kp v2 v4 wc.heap.size v2.heap.size) := HK.out.grown hg (fun k hk => by cases hk; exact .inl rfl)
            have HBn : Hid (Below wc.heap.size wc v4) := HBz.out.grown hg HBz.out.size (fun k hk => by cases hk; exact Nat.le_refl _)
            clear hg HCx HAl HK HBz
            obtain ⟨d0, d1⟩ := HCn.out.c2
            have hs4 := HKn.out.s
            have HCB : Hid (CellsAt (v4.alloc (.cells #[.int .u32 (0 : Nat)] 35)) v4.heap.size #[.int .u32 (0 : Nat)] 35) := CellsAt.new _ _ _
            have HS := Lib.hid (Src.block (P := Tryz.prog) (t2 := 36) (size := 1) (m := 1) (c := 1) Tryz.underlying36 HCB.out rfl (by simp [Value.oneCell']))
            have HOa := Lib.hid (HAn.out.alloc (.cells #[.int .u32 (0 : Nat)] 35))
            have HCa := Lib.hid (HCn.out.alloc (.cells #[.int .u32 (0 : Nat)] 35))
            have HKa : Hid (Kp v2 (v4.alloc (.cells #[.int .u32 (0 : Nat)] 35)) wc.heap.size v2.heap.size) := HKn.out.below ((Below.refl _ _).alloc (Nat.le_refl _) _)
            have HBa : Hid (Below wc.heap.size wc (v4.alloc (.cells #[.int .u32 (0 : Nat)] 35))) := HBn.out.alloc HBn.out.size _
            have HRa := Lib.hid (fun u (h : RdAt v4 wc.heap.size u) => (show RdAt (v4.alloc (.cells #[.int .u32 (0 : Nat)] 35)) wc.heap.size u from (Below.heap_alloc _ _ _ h.lt).trans h))
            have HBS : Hid (v2.heap.size + 1 ≤ (v4.alloc (.cells #[.int .u32 (0 : Nat)] 35)).heap.size) := by show _ ≤ _; simp; omega
            have HM : Hid (al.length + 1 ≤ maxLen) := by show _ ≤ _; unfold maxLen; omega
            have HY : Hid ((al.length + 1) * 4 ≤ 140737488355328) := by show _ ≤ _; omega
            go_wp2_with (at_builtin; refine wpList_append_m rfl (.tmp 49) (.tmp 52) 36 36 rfl (v2.heap.size + 1) 35 i0 _ 1 4 Tryz.underlying36 HI.out HZ0.out HZ1.out HZ2.out rfl (by decide) (.slice A3 al.length c3) al.length (al.flatMap u1) rfl HOa.out _ 1 _ rfl HS.out HM.out HY.out HBS.out ?_)
            intro v' w5 hown hgr hat
            obtain ⟨A6, c6, rfl⟩ := hown.form
            have HN5 : Hid (OwnL w5 (v2.heap.size + 1) 35 1 u1 (.slice A6 (al.length + 1) c6) (al ++ [0])) := OwnL.snoc hown
            have hob : ∀ k, (Value.slice A3 al.length c3).ownBlock = some k → v2.heap.size + 1 ≤ k := fun k hk => (OwnM.lt HOa.out k hk).1
            have HB5 : Hid (Below wc.heap.size wc w5) := OwnM.below_grown HOa.out hgr HBa.out (by have := HBa.out.size; exact this) (by omega)
            have HC5 : Hid (CellsAt w5 v2.heap.size #[.int .i64 (kd : Nat), .slice A3 al.length c3] 61) := HCa.out.own hgr (fun e => by have := hob _ e.symm; omega)
            have HK5 : Hid (Kp v2 w5 wc.heap.size v2.heap.size) := HKa.out.grown hgr (fun k hk => .inr (by have := hob k hk; omega))
            have HR5 := Lib.hid (fun u (h : RdAt v4 wc.heap.size u) => (HRa.out u h).own hgr (fun e => by have := hob _ e.symm; omega))
            obtain ⟨e0, e1⟩ := HC5.out.c2
            have ef := HC5.out.unfrz 1
            have hs5 := HK5.out.s
            clear hown hgr hat hob d0 d1 HCB HS HOa HCa HKa HBa HRa HBS HM HY
            go_wp2_with fail
            have hfin : Hid (CellsAt (w5.setCell ⟨v2.heap.size, 1, none⟩ (.slice A6 (al.length + 1) c6)) v2.heap.size #[.int .i64 (kd : Nat), .slice A6 (al ++ [0]).length c6] 61 ∧ OwnL (w5.setCell ⟨v2.heap.size, 1, none⟩ (.slice A6 (al.length + 1) c6)) (v2.heap.size + 1) 35 1 u1 (.slice A6 (al ++ [0]).length c6) (al ++ [0])) := by
              show _ ∧ _
              rw [show (al ++ [(0 : Nat)]).length = al.length + 1 from by simp]
              exact ⟨HC5.out.set2, OwnM.setCell HN5.out (p := ⟨v2.heap.size, 1, none⟩) (fun k hk => by
                have := (OwnM.lt HN5.out k hk).1
                show k ≠ v2.heap.size
                omega) _⟩
            have hkf : Hid (Kp v2 (w5.setCell ⟨v2.heap.size, 1, none⟩ (.slice A6 (al.length + 1) c6)) wc.heap.size v2.heap.size) := ⟨fun i h1 h2 => (Below.heap_setCell w5 _ _ i (by show i ≠ v2.heap.size; omega)).trans (HK5.out.k i h1 h2), by simpa [World.setCell] using hs5⟩
            have hbf : Hid (Below wc.heap.size wc (w5.setCell ⟨v2.heap.size, 1, none⟩ (.slice A6 (al.length + 1) c6))) := Below.setCell HB5.out (Nat.le_of_lt (Nat.lt_of_succ_le hbase2)) _
            have hinf : Hid (InSt (w5.setCell ⟨v2.heap.size, 1, none⟩ (.slice A6 (al.length + 1) c6)) wc.heap.size sz (j + 1) t2 false (al ++ [0])) := .inr ⟨rfl, js2 HJS0.out HNSZ.out hsu', u, (HR5.out _ HRn.out).setOther HNE.out, hsu'⟩
            exact ⟨⟨false, j + 1, A6, c6, al ++ [0], hfin.out.1, hfin.out.2, by rw [List.length_append, HALN.out]; rfl, ⟨hinf.out, fit_snoc HFIT.out (by decide), hlt, by go_num, rfl⟩, hkf.out, hbf.out⟩, by simp [intOf]; omega⟩
        · have HRD := Lib.hid hrd
          have HSH := Lib.hid hsh
          clear hrd HIN hsh
          go_wp2_with fail
          refine (HNS.out _ u sz _ HRD.out hsz1 (by omega) hus (by omega)).mono ?_
          rintro e v4 ⟨rfl, hr, hg⟩
          have HRn : Hid (RdAt v4 wc.heap.size u) := hr
          clear hr
          have HCn : Hid (CellsAt v4 v2.heap.size #[.int .i64 (kd : Nat), .slice A3 al.length c3] 61) := HCx.out.own hg (fun e => by injection e with e; omega)
          have HAn : Hid (OwnL v4 (v2.heap.size + 1) 35 1 u1 (.slice A3 al.length c3) al) := HAl.out.grown hg (fun k hk => by cases hk; omega)
          have HKn : Hid (Kp v2 v4 wc.heap.size v2.heap.size) := HK.out.grown hg (fun k hk => by cases hk; exact .inl rfl)
          have HBn : Hid (Below wc.heap.size wc v4) := HBz.out.grown hg HBz.out.size (fun k hk => by cases hk; exact Nat.le_refl _)
          clear hg HCx HAl HK HBz
          obtain ⟨d0, d1⟩ := HCn.out.c2
          have hs4 := HKn.out.s
          have HCB : Hid (CellsAt (v4.alloc (.cells #[.int .u32 (0 : Nat)] 35)) v4.heap.size #[.int .u32 (0 : Nat)] 35) := CellsAt.new _ _ _
          have HS := Lib.hid (Src.block (P := Tryz.prog) (t2 := 36) (size := 1) (m := 1) (c := 1) Tryz.underlying36 HCB.out rfl (by simp [Value.oneCell']))
          have HOa := Lib.hid (HAn.out.alloc (.cells #[.int .u32 (0 : Nat)] 35))
          have HCa := Lib.hid (HCn.out.alloc (.cells #[.int .u32 (0 : Nat)] 35))
          have HKa : Hid (Kp v2 (v4.alloc (.cells #[.int .u32 (0 : Nat)] 35)) wc.heap.size v2.heap.size) := HKn.out.below ((Below.refl _ _).alloc (Nat.le_refl _) _)
          have HBa : Hid (Below wc.heap.size wc (v4.alloc (.cells #[.int .u32 (0 : Nat)] 35))) := HBn.out.alloc HBn.out.size _
          have HRa := Lib.hid (fun u (h : RdAt v4 wc.heap.size u) => (show RdAt (v4.alloc (.cells #[.int .u32 (0 : Nat)] 35)) wc.heap.size u from (Below.heap_alloc _ _ _ h.lt).trans h))
          have HBS : Hid (v2.heap.size + 1 ≤ (v4.alloc (.cells #[.int .u32 (0 : Nat)] 35)).heap.size) := by show _ ≤ _; simp; omega
          have HM : Hid (al.length + 1 ≤ maxLen) := by show _ ≤ _; unfold maxLen; omega
          have HY : Hid ((al.length + 1) * 4 ≤ 140737488355328) := by show _ ≤ _; omega
          go_wp2_with (at_builtin; refine wpList_append_m rfl (.tmp 49) (.tmp 52) 36 36 rfl (v2.heap.size + 1) 35 i0 _ 1 4 Tryz.underlying36 HI.out HZ0.out HZ1.out HZ2.out rfl (by decide) (.slice A3 al.length c3) al.length (al.flatMap u1) rfl HOa.out _ 1 _ rfl HS.out HM.out HY.out HBS.out ?_)
          intro v' w5 hown hgr hat
          obtain ⟨A6, c6, rfl⟩ := hown.form
          have HN5 : Hid (OwnL w5 (v2.heap.size + 1) 35 1 u1 (.slice A6 (al.length + 1) c6) (al ++ [0])) := OwnL.snoc hown
          have hob : ∀ k, (Value.slice A3 al.length c3).ownBlock = some k → v2.heap.size + 1 ≤ k := fun k hk => (OwnM.lt HOa.out k hk).1
          have HB5 : Hid (Below wc.heap.size wc w5) := OwnM.below_grown HOa.out hgr HBa.out (by have := HBa.out.size; exact this) (by omega)
          have HC5 : Hid (CellsAt w5 v2.heap.size #[.int .i64 (kd : Nat), .slice A3 al.length c3] 61) := HCa.out.own hgr (fun e => by have := hob _ e.symm; omega)
          have HK5 : Hid (Kp v2 w5 wc.heap.size v2.heap.size) := HKa.out.grown hgr (fun k hk => .inr (by have := hob k hk; omega))
          have HR5 := Lib.hid (fun u (h : RdAt v4 wc.heap.size u) => (HRa.out u h).own hgr (fun e => by have := hob _ e.symm; omega))
          obtain ⟨e0, e1⟩ := HC5.out.c2
          have ef := HC5.out.unfrz 1
          have hs5 := HK5.out.s
          clear hown hgr hat hob d0 d1 HCB HS HOa HCa HKa HBa HRa HBS HM HY
          go_wp2_with fail
          have hfin : Hid (CellsAt (w5.setCell ⟨v2.heap.size, 1, none⟩ (.slice A6 (al.length + 1) c6)) v2.heap.size #[.int .i64 (kd : Nat), .slice A6 (al ++ [0]).length c6] 61 ∧ OwnL (w5.setCell ⟨v2.heap.size, 1, none⟩ (.slice A6 (al.length + 1) c6)) (v2.heap.size + 1) 35 1 u1 (.slice A6 (al ++ [0]).length c6) (al ++ [0])) := by
            show _ ∧ _
            rw [show (al ++ [(0 : Nat)]).length = al.length + 1 from by simp]
            exact ⟨HC5.out.set2, OwnM.setCell HN5.out (p := ⟨v2.heap.size, 1, none⟩) (fun k hk => by
              have := (OwnM.lt HN5.out k hk).1
              show k ≠ v2.heap.size
              omega) _⟩
          have hkf : Hid (Kp v2 (w5.setCell ⟨v2.heap.size, 1, none⟩ (.slice A6 (al.length + 1) c6)) wc.heap.size v2.heap.size) := ⟨fun i h1 h2 => (Below.heap_setCell w5 _ _ i (by show i ≠ v2.heap.size; omega)).trans (HK5.out.k i h1 h2), by simpa [World.setCell] using hs5⟩
          have hbf : Hid (Below wc.heap.size wc (w5.setCell ⟨v2.heap.size, 1, none⟩ (.slice A6 (al.length + 1) c6))) := Below.setCell HB5.out (Nat.le_of_lt (Nat.lt_of_succ_le hbase2)) _
          have hinf : Hid (InSt (w5.setCell ⟨v2.heap.size, 1, none⟩ (.slice A6 (al.length + 1) c6)) wc.heap.size sz (j + 1) t2 false (al ++ [0])) := .inr ⟨rfl, js3 HSH.out, u, (HR5.out _ HRn.out).setOther HNE.out, hus⟩
          exact ⟨⟨false, j + 1, A6, c6, al ++ [0], hfin.out.1, hfin.out.2, by rw [List.length_append, HALN.out]; rfl, ⟨hinf.out, fit_snoc HFIT.out (by decide), hlt, by go_num, rfl⟩, hkf.out, hbf.out⟩, by simp [intOf]; omega⟩
      · obtain rfl : j = n := by omega
        rcases HIN.out with ⟨rfl, hasn, hrd, hjs⟩ | ⟨rfl, hsh, u, hrd, hus⟩
        · have HS2 : Hid (pdStep sz t = some ((((kd : Nat) : Int), al), nxN sz j t2)) := by
            show _ = _
            rw [HST.out, if_neg (by omega), ← hasn]
          have HRD := Lib.hid hrd
          have htn : (nxN sz j t2).size ≤ t2.size := by rw [nxN_size]; omega
          clear hasn hrd hjs HIN
          by_cases hs16 : segs.length = 16
          · have HN : Hid (res = none) := HMANY.out _ _ HSP.out h0n (by rw [List.length_map]; exact hs16)
            have z16 : ((segs.length : Int) == 16) = true := by rw [hs16]; rfl
            have HS16 := Lib.hid hs16
            clear hs16
            go_wp2_with fail
            go_ret2
            exact ⟨by rw [HN.out]; rfl, HBz.out⟩
          · have z16 : ((segs.length : Int) == 16) = false := beq_eq_false_iff_ne.2 (by omega)
            have HGO := Lib.hid (pd_go HSP.out h0n HS2.out)
            generalize nxN sz j t2 = t3 at HRD htn HGO
            have hl17 : segs.length + 1 ≤ 16 := by omega
            obtain ⟨d0, d1⟩ := HCx.out.c2
            have hsz2 := HK.out.s
            have HOz : Hid (SegsO wr (wc.heap.size + 1) (.slice A segs.length c) segs) := HO2.out.keep (fun i h1 h2 => HK.out.k i h2 (by omega))
            have HOa : Hid (SegsO (wr.alloc (.cells #[.int .i64 (kd : Nat), .slice A3 al.length c3] 61)) (wc.heap.size + 1) (.slice A segs.length c) segs) := HOz.out.keep (fun i h1 h2 => Below.heap_alloc _ _ _ h2)
            have HAa := Lib.hid (HAl.out.alloc (.cells #[.int .i64 (kd : Nat), .slice A3 al.length c3] 61))
            have HRa : Hid (RdAt (wr.alloc (.cells #[.int .i64 (kd : Nat), .slice A3 al.length c3] 61)) wc.heap.size t3) := (Below.heap_alloc _ _ _ HRD.out.lt).trans HRD.out
            have HBa : Hid (Below wc.heap.size wc (wr.alloc (.cells #[.int .i64 (kd : Nat), .slice A3 al.length c3] 61))) := HBz.out.alloc HBz.out.size _
            have HCB : Hid (CellsAt (wr.alloc (.cells #[.int .i64 (kd : Nat), .slice A3 al.length c3] 61)) wr.heap.size #[.int .i64 (kd : Nat), .slice A3 al.length c3] 61) := CellsAt.new _ _ _
            have HS := Lib.hid (Src.block (P := Tryz.prog) (t2 := 34) (size := 2) (m := 1) (c := 1) Tryz.underlying34 HCB.out rfl (by simp [Value.oneCell']))
            have HBS : Hid (wc.heap.size + 1 ≤ (wr.alloc (.cells #[.int .i64 (kd : Nat), .slice A3 al.length c3] 61)).heap.size) := by show _ ≤ _; simp; omega
            have HM : Hid (segs.length + 1 ≤ maxLen) := by show _ ≤ _; unfold maxLen; omega
            have HY : Hid ((segs.length + 1) * 32 ≤ 140737488355328) := by show _ ≤ _; omega
            clear hs16 HS2 HSP
            go_wp2_with (at_builtin; refine wpList_append_m rfl (.tmp 63) (.tmp 65) 34 34 rfl (wc.heap.size + 1) 61 i1 _ 2 32 Tryz.underlying34 GI.out GZ0.out GZ1.out GZ2.out rfl (by decide) (.slice A segs.length c) segs.length (segs.flatMap Sg.cs) rfl HOa.out.own _ 1 _ rfl HS.out HM.out HY.out HBS.out ?_)
            intro v' w5 hown hgr hat
            obtain ⟨A6, c6, rfl⟩ := hown.form
            have HN5 : Hid (SegsO w5 (wc.heap.size + 1) (.slice A6 (segs.length + 1) c6) (segs ++ [(⟨((kd : Nat) : Int), A3, al, c3⟩ : Sg)])) := ⟨OwnL.snoc hown, fun s hs => by
              rcases List.mem_append.1 hs with hs | hs
              · obtain ⟨q1, q2⟩ := HOa.out.as_ s hs
                exact ⟨OwnM.grown q1 hgr (own_ne q1 HOa.out.own (by decide)), q2⟩
              · obtain rfl := List.mem_singleton.1 hs
                exact ⟨OwnM.lower (OwnM.grown HAa.out hgr (own_ne HAa.out HOa.out.own (by decide))) (by omega), HFIT.out, by show (-9223372036854775808 : Int) ≤ (kd : Nat); omega, by show ((kd : Nat) : Int) ≤ 9223372036854775807; omega⟩⟩
            have HB5 : Hid (Below wc.heap.size wc w5) := OwnM.below_grown HOa.out.own hgr HBa.out (by have := HBa.out.size; exact this) (by omega)
            have HR5 : Hid (RdAt w5 wc.heap.size t3) := HRa.out.own hgr (fun e => by
              have := (OwnM.lt HOa.out.own wc.heap.size e.symm).1
              omega)
            have hb5 : wc.heap.size + 1 ≤ w5.heap.size := Nat.le_trans HBS.out hgr.size
            clear hown hgr hat d0 d1
            go_wp2_with fail
            exact ⟨⟨segs ++ [(⟨((kd : Nat) : Int), A3, al, c3⟩ : Sg)], t3, HN5.out, HR5.out, HB5.out, by rw [List.map_append]; exact HGO.out, by omega, by simp; omega, hb5⟩, by simp [lenV]; omega⟩
        · have HN : Hid (res = none) := HNOb.out _ _ HSP.out h0n (by rw [HST.out, if_pos hsh])
          have HSH := Lib.hid hsh
          clear hsh hrd HIN
          go_wp2_with fail
          go_ret2
          exact ⟨by rw [HN.out]; rfl, HBz.out⟩
end Go.Proofs.YtkcojblflebomaaGreat
