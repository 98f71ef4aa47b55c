/-
  RibNewest: for all lists and bits the law answers true. Conditions: none of its own.
-/
import Derived.Test.YtldpcliahfiloaaNW54
set_option linter.unusedVariables false
set_option linter.unusedSimpArgs false
namespace Go.Proofs.Ytldpcliahfiloaa
open Go.RowKit Go.MapKept Go.Shelf
open Go.ChangeShapes Go.WideShapes Go.ChangeAt
open Go.ChangeMaps (open_string shut_string)
open Go.Lib hiding intOf
open Go.Sort hiding Below

theorem sA {α : Type} {l : List α} {i : Nat} {a : α} : l.toArray.setIfInBounds i a = (l.set i a).toArray := List.setIfInBounds_toArray ..
theorem sZ {α : Type} {a b : α} {l : List α} : (a :: l).set 0 b = b :: l := rfl
theorem sS {α : Type} {a b : α} {l : List α} {i : Nat} : (a :: l).set (i + 1) b = a :: l.set i b := rfl
theorem RibM.drew_ {w : World} {base b m : Nat} {most : Int} {M : List TdC} (h : RibM w base b m most M) : RibM w.drew base b m most M := by
  obtain ⟨S, h1, h2⟩ := h
  exact ⟨S, h1.drew 1, h2⟩
theorem GrownX.new_ {X Y : Nat → Prop} {w a c : World} (h : GrownX X w a) (k : GrownX Y a c) (hY : ∀ i, Y i → w.heap.size ≤ i) : GrownX X w c :=
  ⟨k.os.trans h.os, k.tape.trans h.tape, k.output.trans h.output, Nat.le_trans h.size k.size, fun i hi hx => (k.block i (Nat.lt_of_lt_of_le hi h.size) (fun hy => absurd (hY i hy) (by omega))).trans (h.block i hi hx)⟩
theorem sum_le (M : List TdC) : ∀ f, sumC M f ≤ f * M.length
  | 0 => by simp [sumC]
  | f + 1 => by
    have h1 := sum_le M f
    have h2 : cntC M (f + 1 : Nat) ≤ M.length := List.length_filter_le ..
    show sumC M f + cntC M (f + 1 : Nat) ≤ _
    rw [Nat.succ_mul]
    omega
theorem AtO.off2 {w w' : World} {base g : Nat} {a : Atr} {T : TypeId} {cs : Array Value} (h : AtO w base a) (hg : w.grownBy w' (some g)) (hc : CellsAt w g cs T) (h1 : 97 ≠ T) (h2 : 30 ≠ T) (h3 : 23 ≠ T) (h4 : 82 ≠ T) : AtO w' base a :=
  { h with path := h.path.off hg hc h1 h2, comms := h.comms.off hg hc h2, exts := h.exts.off hg hc h3, larges := h.larges.off hg hc h4, clus := h.clus.off hg hc h2 }
theorem RibM.off {w w' : World} {base b m g : Nat} {most : Int} {M : List TdC} {cs : Array Value} (h : RibM w base b m most M) (hg : w.grownBy w' (some g)) (hc : CellsAt w g cs 47) (hb : b ≠ g) (hm : m ≠ g) : RibM w' base b m most M := by
  obtain ⟨S, h1, h2⟩ := h
  exact ⟨S, { h1 with blk := h1.blk.row hg hb, map := h1.map.grownBy hg (fun e => hm (by injection e)), own := fun p hp => AtO.off2 (h1.own p hp) hg hc (by decide) (by decide) (by decide) (by decide) }, h2⟩
theorem NrsOk.below {w w' : World} {A : Option Addr} {c : Nat} {L : List Nr} (h : NrsOk w A c L) (hb : Below w.heap.size w w') : NrsOk w' A c L := ⟨h.rd.below hb (Nat.le_refl _), h.len, h.cap, h.ok⟩
/-- the list as plain told prefixes -/
def nlL (L : List Nr) : List Nl := L.map fun x => nlk x.k x.label
def goneB (g : Int) (i : Nat) : Bool := decide (g / 2 ^ i % 2 = 1)
theorem gone_one {g : Int} (h0 : 0 ≤ g) (h1 : g < 18446744073709551616) {i : Nat} (h : goneB g i = true) : bits BinOp.and IntKind.u64 (g / 2 ^ i) 1 = 1 := by
  have hp : (0 : Int) < 2 ^ i := Int.pow_pos (by decide)
  rw [and_one_u64 _ (Int.ediv_nonneg h0 (Int.le_of_lt hp)) (Int.le_trans (Int.ediv_le_self _ h0) (by omega))]
  exact of_decide_eq_true h
theorem gone_zero {g : Int} (h0 : 0 ≤ g) (h1 : g < 18446744073709551616) {i : Nat} (h : goneB g i = false) : bits BinOp.and IntKind.u64 (g / 2 ^ i) 1 = 0 := by
  have hp : (0 : Int) < 2 ^ i := Int.pow_pos (by decide)
  rw [and_one_u64 _ (Int.ediv_nonneg h0 (Int.le_of_lt hp)) (Int.le_trans (Int.ediv_le_self _ h0) (by omega))]
  have h2 : ¬ g / 2 ^ i % 2 = 1 := of_decide_eq_false h
  omega
theorem run_step {g : Int} {L : List Nr} {n : Nat} {x : Nr} (hx : L[n]? = some x) : runN (goneB g) (nlL L) (n + 1) = stepN (goneB g) n (nlk x.k x.label) (runN (goneB g) (nlL L) n) := by
  have h : (nlL L)[n]? = some (nlk x.k x.label) := by unfold nlL; rw [List.getElem?_map, hx]; rfl
  show (match (nlL L)[n]? with | some n' => stepN (goneB g) n n' (runN (goneB g) (nlL L) n) | none => runN (goneB g) (nlL L) n) = _
  rw [h]
/-- a put that no bound stops -/
theorem put_free {M : List TdC} {k : Pk} {label n : Nat} : putC 0 M (nlk k label) (medC n) = (false, nlC (nlk k label), if nlMay (nlk k label) then setC M ⟨k, label, medC n, false⟩ else M) := by
  unfold nlC
  by_cases hm : nlMay (nlk k label)
  · rw [if_pos hm, if_pos hm, putC_set ⟨hm, medC_ok n⟩ (fun h => absurd h.2.1 (by decide))]
    rfl
  · rw [if_neg hm, if_neg hm, putC_bad (fun h => hm h.1)]
theorem NrsOk.rowAt {w : World} {b off c i : Nat} {L : List Nr} {x : Nr} (h : NrsOk w (some ⟨b, off, none⟩) c L) (hx : L[i]? = some x) : ∀ W, Below w.heap.size w W → W.cell? ⟨b, off + i * 6, none⟩ = some (.int .i64 x.k.fam) ∧ W.cell? ⟨b, off + i * 6 + 1, none⟩ = some (.int .u64 x.k.rd) ∧ W.cell? ⟨b, off + i * 6 + 2, none⟩ = some (.string x.k.addr) ∧ W.cell? ⟨b, off + i * 6 + 3, none⟩ = some (.int .i64 x.k.len) ∧ W.cell? ⟨b, off + i * 6 + 4, none⟩ = some (.int .u32 (x.k.id : Nat)) ∧ W.cell? ⟨b, off + i * 6 + 5, none⟩ = some (.int .u32 (x.label : Nat)) := by
  obtain ⟨b2, off2, e, _, h2⟩ := h.row hx (Nat.le_refl _)
  injection e with e
  injection e with e1 e2 _
  subst e1
  subst e2
  exact h2
theorem pk_no {x y : Pk} (h : ¬ (x.fam = y.fam ∧ x.rd = y.rd ∧ x.addr = y.addr ∧ x.len = y.len)) : x.fam = y.fam → x.rd = y.rd → x.addr.toList = y.addr.toList → ¬ x.len = y.len := fun h1 h2 h3 h4 => by
  have h5 : x.addr = y.addr := by
    rw [ByteArray.toList_eq, ByteArray.toList_eq] at h3
    exact ByteArray.ext (Array.ext' h3)
  exact h ⟨h1, h2, h5, h4⟩
/-- does the place stand among the first? -/
def BefQ (L : List Nr) (k : Nat) (P : Pk) (bf : Bool) : Prop := bf = true ↔ ∃ j y, j < k ∧ L[j]? = some y ∧ y.k = P
theorem BefQ.start {L : List Nr} {P : Pk} : BefQ L 0 P false := Iff.intro (fun h => by cases h) (fun ⟨j, _, h, _⟩ => absurd h (by omega))
theorem BefQ.stay {L : List Nr} {k : Nat} {P : Pk} (h : BefQ L k P true) : BefQ L (k + 1) P true := Iff.intro (fun _ => by
  obtain ⟨j, y, h1, h2⟩ := h.1 rfl
  exact ⟨j, y, by omega, h2⟩) (fun _ => rfl)
theorem BefQ.yes {L : List Nr} {k : Nat} {P : Pk} {y : Nr} (hy : L[k]? = some y) (he : y.k = P) : BefQ L (k + 1) P true := Iff.intro (fun _ => ⟨k, y, by omega, hy, he⟩) (fun _ => rfl)
theorem BefQ.no {L : List Nr} {k : Nat} {P : Pk} {y : Nr} (h : BefQ L k P false) (hy : L[k]? = some y) (he : y.k ≠ P) : BefQ L (k + 1) P false := Iff.intro (fun h => by cases h) (fun ⟨j, z, h1, h2, h3⟩ => by
  by_cases hj : j = k
  · subst hj
    rw [hy] at h2
    injection h2 with h2
    subst h2
    exact absurd h3 he
  · exact h.2 ⟨j, z, by omega, h2, h3⟩)
theorem path_three {w : World} {b : Nat} {T : TypeId} {k : Pk} {l : Nat} {a : Atr} {s : Bool} (h : CellsAt w b (pathAr k l a s) T) : w.cell? ⟨b, 5, none⟩ = some (.int .u32 (l : Nat)) ∧ w.cell? ⟨b, 10, none⟩ = some (.int .u32 (a.med : Nat)) ∧ w.cell? ⟨b, 28, none⟩ = some (.bool s) := by
  refine ⟨?_, ?_, ?_⟩ <;> (rw [h.c]; rfl)
/-- is this place's last step that counts the n-th? -/
def LastQ (g : Int) (L : List Nr) (n k : Nat) (P : Pk) (la : Nat) : Prop := la = n ↔ ∀ j y, n < j → j < k → L[j]? = some y → ¬ (y.k = P ∧ effN (goneB g) j (nlk y.k y.label))
theorem LastQ.start {g : Int} {L : List Nr} {n : Nat} {P : Pk} : LastQ g L n (n + 1) P n := Iff.intro (fun _ j y h1 h2 => absurd h2 (by omega)) (fun _ => rfl)
theorem LastQ.no {g : Int} {L : List Nr} {n k : Nat} {P : Pk} {la : Nat} {y : Nr} (h : LastQ g L n k P la) (hy : L[k]? = some y) (hn : ¬ (y.k = P ∧ effN (goneB g) k (nlk y.k y.label))) : LastQ g L n (k + 1) P la :=
  Iff.intro (fun e j z h1 h2 hz => by
    by_cases hj : j = k
    · subst hj
      rw [hy] at hz
      injection hz with hz
      subst hz
      exact hn
    · exact h.1 e j z h1 (by omega) hz) (fun h2 => h.2 fun j z h3 h4 hz => h2 j z h3 (by omega) hz)
theorem LastQ.yes {g : Int} {L : List Nr} {n k : Nat} {P : Pk} {y : Nr} (hk : n < k) (hy : L[k]? = some y) (hn : y.k = P ∧ effN (goneB g) k (nlk y.k y.label)) : LastQ g L n (k + 1) P k :=
  Iff.intro (fun e => absurd e (by omega)) (fun h => absurd hn (h k y hk (by omega) hy))
/-- the places counted -/
def CntQ (g : Int) (L : List Nr) (M : List TdC) (N n : Nat) (D : List Pk) : Prop := D.Nodup ∧ (∀ d ∈ D, d ∈ M.map (·.k)) ∧ ∀ d ∈ D, ∃ j, j < n ∧ ∀ i y, j < i → i < N → L[i]? = some y → ¬ (y.k = d ∧ effN (goneB g) i (nlk y.k y.label))
theorem CntQ.next {g : Int} {L : List Nr} {M : List TdC} {N n : Nat} {D : List Pk} (h : CntQ g L M N n D) : CntQ g L M N (n + 1) D :=
  ⟨h.1, h.2.1, fun d hd => by obtain ⟨j, h1, h2⟩ := h.2.2 d hd; exact ⟨j, by omega, h2⟩⟩
theorem CntQ.add {g : Int} {L : List Nr} {M : List TdC} {N n : Nat} {D : List Pk} {x : Nr} (h : CntQ g L M N n D) (hx : L[n]? = some x) (hn : n < N) (hm : x.k ∈ M.map (·.k)) (he : effN (goneB g) n (nlk x.k x.label)) (hl : LastQ g L n N x.k n) : CntQ g L M N (n + 1) (x.k :: D) := by
  refine ⟨List.nodup_cons.2 ⟨fun hd => ?_, h.1⟩, fun d hd => ?_, fun d hd => ?_⟩
  · obtain ⟨j, h1, h2⟩ := h.2.2 _ hd
    exact h2 n x h1 hn hx ⟨rfl, he⟩
  · rcases List.mem_cons.1 hd with rfl | hd
    · exact hm
    · exact h.2.1 d hd
  · rcases List.mem_cons.1 hd with rfl | hd
    · exact ⟨n, by omega, fun i y h1 h2 hy => hl.1 rfl i y h1 h2 hy⟩
    · obtain ⟨j, h1, h2⟩ := h.2.2 d hd
      exact ⟨j, by omega, h2⟩
theorem CntQ.le {g : Int} {L : List Nr} {M : List TdC} {N n : Nat} {D : List Pk} (h : CntQ g L M N n D) : D.length ≤ M.length := by
  have := nodup_sub D (M.map (·.k)) h.1 h.2.1
  rwa [List.length_map] at this
/-- what Get finds at the end at a place whose last step this was -/
def EndQ (g : Int) (L : List Nr) (M : List TdC) (n : Nat) (x : Nr) : Prop := (goneB g n = true → getC M x.k = none) ∧ (goneB g n = false → nlMay (nlk x.k x.label) → getC M x.k = some ⟨x.k, x.label, medC n, false⟩) ∧ (goneB g n = false → ¬ nlMay (nlk x.k x.label) → (∀ j y, j < n → L[j]? = some y → y.k ≠ x.k) → getC M x.k = none)
theorem end_of {g : Int} {L : List Nr} {N n : Nat} {x : Nr} (hN : L.length = N) (hx : L[n]? = some x) (hl : LastQ g L n N x.k n) : EndQ g L (runN (goneB g) (nlL L) N) n x := by
  have hm : ∀ {j : Nat} {m : Nl}, (nlL L)[j]? = some m → ∃ y, L[j]? = some y ∧ nlk y.k y.label = m := fun {j m} h => by
    unfold nlL at h
    rw [List.getElem?_map] at h
    cases hy : L[j]? with
    | none => rw [hy] at h; cases h
    | some y => rw [hy] at h; injection h with h; exact ⟨y, rfl, h⟩
  have hx2 : (nlL L)[n]? = some (nlk x.k x.label) := by unfold nlL; rw [List.getElem?_map, hx]; rfl
  have hlen : (nlL L).length = N := by unfold nlL; rw [List.length_map, hN]
  have h := run_last (gone := goneB g) hx2 (fun j m h1 h2 h3 => by
    obtain ⟨y, hy, rfl⟩ := hm h2
    have hjl : j < N := by rw [← hN]; exact (List.getElem?_eq_some_iff.1 hy).1
    exact hl.1 rfl j y h1 hjl hy ⟨h3.1, h3.2⟩)
  rw [hlen] at h
  refine ⟨h.1, h.2.1, fun h1 h2 h3 => h.2.2 h1 h2 fun j m h4 h5 h6 => ?_⟩
  obtain ⟨y, hy, rfl⟩ := hm h5
  exact h3 j y h4 hy h6
set_option maxRecDepth 100000 in
set_option maxHeartbeats 16000000 in
theorem newest_walk (A : Option Addr) (L0 : List Nr) (cap : Nat) (g : Int) (hg0 : 0 ≤ g) (hg1 : g < 18446744073709551616) (w : World) (h : NrsOk w A cap L0) :
  Calls Try.prog 3 #[.slice A L0.length cap, .int .u64 g] w fun e w' => e = .returned (.bool true) ∧ Below w.heap.size w w' := by
 have hm1 := h.len
 have hm2 := h.cap
 obtain ⟨N, hN, hN1, hN2⟩ : ∃ N : Nat, min (L0.length : Int) 60 = (N : Int) ∧ N ≤ L0.length ∧ N ≤ 60 := ⟨min L0.length 60, by omega, by omega, by omega⟩
 have HL := Lib.hid (h.take hN1)
 have hln : (L0.take N).length = N := by rw [List.length_take]; omega
 have hcapN : N ≤ cap := by omega
 generalize L0.take N = L at HL hln
 clear h
 have HWK := Lib.hid rworks_any
 have HNEW := Lib.hid (fun w => rnewM_any 0 w)
 go_enter Try.func3, Try.ntmps3
 go_wp2_with fail
 refine (HWK.out _).mono ?_
 rintro e w1 ⟨rfl, hb1⟩
 have HB1 : Hid (Below w.heap.size w w1) := hb1
 clear hb1
 go_wp2_with fail
 refine (HNEW.out _).mono ?_
 rintro e w2 ⟨b, m, rfl, hr, hb, hm, hbb⟩
 obtain ⟨bs, hbs⟩ : ∃ bs, bs = w1.heap.size := ⟨_, rfl⟩
 rw [← hbs] at hr
 have HM : Hid (w.heap.size ≤ m) := Nat.le_trans HB1.out.size hm
 have HR0 : Hid (RibM w2 bs b m 0 []) := hr
 have HB0 : Hid (Below w.heap.size w w2) := HB1.out.trans (hb.mono HB1.out.size)
 clear hbs hr hb hm hbb HB1 hN HNEW
 go_wp2_with fail
 go_loopw [6] (fun i wr => ∃ (n : Nat), i = .int .i64 n ∧ n ≤ N ∧ Hid (RibM wr bs b m 0 (runN (goneB g) (nlL L) n)) ∧ Hid (Below w.heap.size w wr)) (fun i _ => N + 1 - (intOf i).toNat)
 case atStart => exact ⟨0, rfl, by omega, HR0.out, HB0.out⟩
 case round =>
  clear HR0 HB0
  obtain ⟨n, rfl, hn, HRwr, HBwr⟩ := hrel
  by_cases hlt : n < N
  ·
   as_aux_lemma =>
   obtain ⟨x, hx⟩ : ∃ x, L[n]? = some x := ⟨L[n]'(by rw [hln]; exact hlt), List.getElem?_eq_getElem _⟩
   have HXOK := Lib.hid (HL.out.ok x (List.mem_of_getElem? hx))
   obtain ⟨b0, off, rfl, hb0, hrow⟩ := HL.out.row hx (Nat.le_refl _)
   obtain ⟨k, label⟩ := x
   dsimp only at hrow
   have HROWW := Lib.hid hrow
   have HX : Hid (L[n]? = some ⟨k, label⟩) := hx
   have HKO : Hid k.Ok := HXOK.out.k
   have HLA : Hid (label < 4294967296) := HXOK.out.label
   have HMED : Hid (n < 4294967296) := by show _ < _; omega
   have hcv : IntKind.u32.wrap (n : Int) = n := by rw [IntKind.wrap_u32]; omega
   clear hx hrow HXOK
   have HROW : Hid (∀ W, GrownX (fun i => i = m) wr W → W.cell? ⟨b0, off + n * 6, none⟩ = some (.int .i64 k.fam) ∧ W.cell? ⟨b0, off + n * 6 + 1, none⟩ = some (.int .u64 k.rd) ∧ W.cell? ⟨b0, off + n * 6 + 2, none⟩ = some (.string k.addr) ∧ W.cell? ⟨b0, off + n * 6 + 3, none⟩ = some (.int .i64 k.len) ∧ W.cell? ⟨b0, off + n * 6 + 4, none⟩ = some (.int .u32 (k.id : Nat)) ∧ W.cell? ⟨b0, off + n * 6 + 5, none⟩ = some (.int .u32 (label : Nat))) := fun W hW => HROWW.out W (hW.below HBwr.out (fun i hi => by rw [hi]; exact HM.out) HBwr.out.size)
   have HSTEP : Hid (runN (goneB g) (nlL L) (n + 1) = stepN (goneB g) n (nlk k label) (runN (goneB g) (nlL L) n)) := run_step HX.out
   have HML : Hid ((runN (goneB g) (nlL L) n).length ≤ n) := run_len _ _ _
   generalize runN (goneB g) (nlL L) n = M at HRwr HSTEP HML
   obtain ⟨c0, c1, c2, c3, c4, c5⟩ := HROW.out wr (GrownX.refl _ _)
   cases hg : goneB g n with
   | true =>
    have HE : Hid (runN (goneB g) (nlL L) (n + 1) = delC M k) := by
     show _ = _
     rw [HSTEP.out]
     unfold stepN
     rw [if_pos hg]
     rfl
    have hb := gone_one hg0 hg1 hg
    have HGO := Lib.hid (rgoneM_any HRwr.out k label HKO.out)
    clear hg HSTEP HML hg0 hg1
    go_wp2_with fail
    refine HGO.out.mono ?_
    rintro e w5 ⟨rfl, h5, g5⟩
    have HR5 : Hid (RibM w5 bs b m 0 (runN (goneB g) (nlL L) (n + 1))) := by rw [HE.out]; exact h5
    have HB5 : Hid (Below w.heap.size w w5) := g5.below HBwr.out (fun i hi => by rw [hi]; exact HM.out) HBwr.out.size
    clear h5 g5 HE HGO
    go_wp2_with fail
    exact ⟨⟨n + 1, by go_num, by omega, HR5.out, HB5.out⟩, by simp [intOf]; omega⟩
   | false =>
    have hb := gone_zero hg0 hg1 hg
    have HE : Hid (runN (goneB g) (nlL L) (n + 1) = if nlMay (nlk k label) then setC M ⟨k, label, medC n, false⟩ else M) := by
     show _ = _
     rw [HSTEP.out]
     unfold stepN
     rw [if_neg (by rw [hg]; simp)]
     rfl
    clear hg HSTEP hg0 hg1
    have HNC : Hid (∀ W, Calls Try.prog 12 #[.agg #[.int .i64 k.fam, .int .u64 k.rd, .string k.addr, .int .i64 k.len, .int .u32 (k.id : Nat), .int .u32 (label : Nat)]] W fun e w' => e = .returned (.int .i64 (nlC (nlk k label))) ∧ Below W.heap.size W w') := fun W => ncheck_any (nlk k label) (nlk_ok HKO.out HLA.out) W
    have HPUT : Hid (∀ W, RibM W bs b m 0 M → Calls Try.prog 10 #[.pointer (some ⟨b, 0, none⟩), .agg #[.int .i64 k.fam, .int .u64 k.rd, .string k.addr, .int .i64 k.len, .int .u32 (k.id : Nat), .int .u32 (label : Nat)], .agg (medA n).ar] W fun e w' => (e = .returned (.tuple #[.bool false, .int .i64 (nlC (nlk k label))]) ∧ RibM w' bs b m 0 (runN (goneB g) (nlL L) (n + 1))) ∧ GrownX (fun i => i = m) W w') := fun W h => (rputM_any h k label HKO.out HLA.out (medA n) (medA_own W 0 HMED.out).ok (medC_sz n) (by have := HML.out; omega)).mono fun e w' h2 => by
     have h3 := h2.1
     unfold PutPost at h3
     rw [medA_c, put_free] at h3
     rw [HE.out]
     exact ⟨h3, h2.2⟩
    have hc : nlC (nlk k label) = 0 ∨ nlC (nlk k label) = 2 := by unfold nlC; split <;> simp
    generalize nlC (nlk k label) = c at HNC HPUT hc
    clear HE HML
    go_upto_region 10 with fail
    refine wp_region_held_drew (S := fun w' => GrownX (fun i => i = m) wr w') (by kernel_rfl) ((GrownX.refl _ _).drew 1) (fun hHeld => ?_)
    refine wpAnyH_take (i := 0) (oi := { dst := some 46, op := Op.move (Operand.tmp 5), type := 25, pos := "outright.go:46", after := #[], guard := none }) (v := ?_) rfl (by kernel_rfl) (by kernel_rfl) (by kernel_rfl) (fun _ _ _ h => h) (Or.inl ⟨by rfl, ?_⟩) hHeld ?_
    rotate_left
    ·
     intro w hSw
     clear hSw
     go_simp
     try with_reducible rfl
    try simp only [Act.put, sA, sZ, sS]
    refine wpAnyH_take (i := 1) (oi := { dst := some 47, op := Op.move (Operand.tmp 0), type := 22, pos := "outright.go:46", after := #[], guard := none }) (v := ?_) rfl (by kernel_rfl) (by kernel_rfl) (by kernel_rfl) (fun _ _ _ h => h) (Or.inl ⟨by rfl, ?_⟩) hHeld ?_
    rotate_left
    ·
     intro w hSw
     clear hSw
     go_simp
     try with_reducible rfl
    try simp only [Act.put, sA, sZ, sS]
    refine wpAnyH_take (i := 2) (oi := { dst := some 48, op := Op.move (Operand.tmp 6), type := 3, pos := "outright.go:46", after := #[], guard := none }) (v := ?_) rfl (by kernel_rfl) (by kernel_rfl) (by kernel_rfl) (fun _ _ _ h => h) (Or.inl ⟨by rfl, ?_⟩) hHeld ?_
    rotate_left
    ·
     intro w hSw
     clear hSw
     go_simp
     try with_reducible rfl
    try simp only [Act.put, sA, sZ, sS]
    refine wpAnyH_take (i := 3) (oi := { dst := some 49, op := Op.indexAddr 22 (Operand.tmp 47) (Operand.tmp 48), type := 0, pos := "outright.go:46", after := #[{ on := 1, ground := Ground.data }, { on := 2, ground := Ground.data }], guard := none }) (v := ?_) rfl (by kernel_rfl) (by kernel_rfl) (by kernel_rfl) (fun _ _ _ h => h) (Or.inl ⟨by rfl, ?_⟩) hHeld ?_
    rotate_left
    ·
     intro w hSw
     clear hSw
     go_simp
     try with_reducible rfl
    try simp only [Act.put, sA, sZ, sS]
    refine wpAnyH_take (i := 4) (oi := { dst := some 50, op := Op.load 32 (Operand.tmp 49), type := 32, pos := "outright.go:46", after := #[{ on := 3, ground := Ground.data }], guard := none }) (v := ?_) rfl (by kernel_rfl) (by kernel_rfl) (by kernel_rfl) (fun _ _ _ h => h) (Or.inl ⟨by rfl, ?_⟩) hHeld ?_
    rotate_left
    ·
     intro w hSw
     obtain ⟨c0, c1, c2, c3, c4, c5⟩ := HROW.out w hSw
     go_simp
     try with_reducible rfl
    try simp only [Act.put, sA, sZ, sS]
    refine wpAnyH_take (i := 5) (oi := { dst := some 51, op := Op.move (Operand.tmp 6), type := 3, pos := "outright.go:46", after := #[], guard := none }) (v := ?_) rfl (by kernel_rfl) (by kernel_rfl) (by kernel_rfl) (fun _ _ _ h => h) (Or.inl ⟨by rfl, ?_⟩) hHeld ?_
    rotate_left
    ·
     intro w hSw
     clear hSw
     go_simp
     try with_reducible rfl
    try simp only [Act.put, sA, sZ, sS]
    refine wpAnyH_take (i := 6) (oi := { dst := some 52, op := Op.convert 3 30 (Operand.tmp 51), type := 30, pos := "outright.go:46", after := #[{ on := 5, ground := Ground.data }], guard := none }) (v := ?_) rfl (by kernel_rfl) (by kernel_rfl) (by kernel_rfl) (fun _ _ _ h => h) (Or.inl ⟨by rfl, ?_⟩) hHeld ?_
    rotate_left
    ·
     intro w hSw
     clear hSw
     go_simp
     try with_reducible rfl
    try simp only [Act.put, sA, sZ, sS]
    refine wpAnyH_ready (rs := [7]) (by kernel_rfl) (by simp) ?_
    refine AllReadyH.cons (o := { dst := some 53, op := Op.call { callee := Callee.value (Operand.func 11), args := #[Operand.tmp 52], argTypes := #[30] }, type := 41, pos := "outright.go:46", after := #[{ on := 6, ground := Ground.data }], guard := none }) rfl (fun K hK => ?_) AllReadyH.nil
    go_simp
    refine (of_any n _).mono ?_
    rintro e w5 ⟨rfl, hw5⟩
    have HR5 := Lib.hid (HRwr.out.drew_.below hw5)
    refine hK.out _ _ (hHeld.trans (GrownX.of_below hw5)) (fun hHeld => ?_)
    clear hK K
    try simp only [Act.put, sA, sZ, sS]
    refine wpAnyH_ready (rs := [8]) (by kernel_rfl) (by simp) ?_
    refine AllReadyH.cons (o := { dst := some 54, op := Op.call { callee := Callee.value (Operand.func 10), args := #[Operand.tmp 46, Operand.tmp 50, Operand.tmp 53], argTypes := #[25, 32, 41] }, type := 34, pos := "outright.go:46", after := #[{ on := 0, ground := Ground.data }, { on := 4, ground := Ground.data }, { on := 7, ground := Ground.data }, { on := 7, ground := Ground.chain }], guard := none }) rfl (fun K hK => ?_) AllReadyH.nil
    go_simp
    refine (HPUT.out _ HR5.out).mono ?_
    rintro e w6 ⟨⟨rfl, hr6⟩, hg6⟩
    refine hK.out _ _ (hHeld.trans hg6) (fun hHeld => ?_)
    clear hK K
    try simp only [Act.put, sA, sZ, sS]
    refine wpAnyH_take (i := 9) (oi := { dst := some 45, op := Op.move (Operand.tmp 54), type := 34, pos := "outright.go:46", after := #[{ on := 8, ground := Ground.data }], guard := none }) (v := ?_) rfl (by kernel_rfl) (by kernel_rfl) (by kernel_rfl) (fun _ _ _ h => h) (Or.inl ⟨by rfl, ?_⟩) hHeld ?_
    rotate_left
    ·
     intro w hSw
     clear hSw
     go_simp
     try with_reducible rfl
    try simp only [Act.put, sA, sZ, sS]
    refine wpAnyH_take (i := 10) (oi := { dst := some 55, op := Op.extract (Operand.tmp 45) 0, type := 4, pos := "outright.go:46", after := #[{ on := 9, ground := Ground.data }], guard := none }) (v := ?_) rfl (by kernel_rfl) (by kernel_rfl) (by kernel_rfl) (fun _ _ _ h => h) (Or.inl ⟨by rfl, ?_⟩) hHeld ?_
    rotate_left
    ·
     intro w hSw
     clear hSw
     go_simp
     try with_reducible rfl
    try simp only [Act.put, sA, sZ, sS]
    refine wpAnyH_take (i := 11) (oi := { dst := some 56, op := Op.extract (Operand.tmp 45) 1, type := 33, pos := "outright.go:46", after := #[{ on := 9, ground := Ground.data }, { on := 12, ground := Ground.gcOnly Departure.lateStores }], guard := none }) (v := ?_) rfl (by kernel_rfl) (by kernel_rfl) (by kernel_rfl) (fun _ _ _ h => h) (Or.inl ⟨by rfl, ?_⟩) hHeld ?_
    rotate_left
    ·
     intro w hSw
     clear hSw
     go_simp
     try with_reducible rfl
    try simp only [Act.put, sA, sZ, sS]
    refine wpAnyH_take (i := 12) (oi := { dst := some 7, op := Op.assign (Operand.tmp 55), type := 4, pos := "outright.go:46", after := #[{ on := 10, ground := Ground.data }, { on := 8, ground := Ground.chain }, { on := 0, ground := Ground.phase }, { on := 1, ground := Ground.phase }, { on := 2, ground := Ground.phase }, { on := 3, ground := Ground.phase }, { on := 4, ground := Ground.phase }, { on := 5, ground := Ground.phase }, { on := 6, ground := Ground.phase }, { on := 7, ground := Ground.phase }, { on := 8, ground := Ground.phase }, { on := 9, ground := Ground.phase }, { on := 10, ground := Ground.phase }, { on := 11, ground := Ground.textOnly Departure.lateStores }], guard := none }) (v := ?_) rfl (by kernel_rfl) (by kernel_rfl) (by kernel_rfl) (fun _ _ _ h => h) (Or.inl ⟨by rfl, ?_⟩) hHeld ?_
    rotate_left
    ·
     intro w hSw
     clear hSw
     go_simp
     try with_reducible rfl
    try simp only [Act.put, sA, sZ, sS]
    refine wpAnyH_take (i := 13) (oi := { dst := some 8, op := Op.assign (Operand.tmp 56), type := 33, pos := "outright.go:46", after := #[{ on := 11, ground := Ground.data }, { on := 12, ground := Ground.chain }, { on := 0, ground := Ground.phase }, { on := 1, ground := Ground.phase }, { on := 2, ground := Ground.phase }, { on := 3, ground := Ground.phase }, { on := 4, ground := Ground.phase }, { on := 5, ground := Ground.phase }, { on := 6, ground := Ground.phase }, { on := 7, ground := Ground.phase }, { on := 8, ground := Ground.phase }, { on := 9, ground := Ground.phase }, { on := 10, ground := Ground.phase }, { on := 11, ground := Ground.phase }, { on := 12, ground := Ground.phase }], guard := none }) (v := ?_) rfl (by kernel_rfl) (by kernel_rfl) (by kernel_rfl) (fun _ _ _ h => h) (Or.inl ⟨by rfl, ?_⟩) hHeld ?_
    rotate_left
    ·
     intro w hSw
     clear hSw
     go_simp
     try with_reducible rfl
    try simp only [Act.put, sA, sZ, sS]
    refine wpAnyH_done (by kernel_rfl) ?_ _
    go_upto_region 11 with fail
    refine rb_name fun Z2 hZ2 => ?_
    have HRZ2 : Hid (RibM Z2 bs b m 0 (runN (goneB g) (nlL L) (n + 1))) := by rw [hZ2]; exact hr6
    have HBZ2 : Hid (Below w.heap.size w Z2) := by rw [hZ2]; exact hHeld.below HBwr.out (fun i hi => by rw [hi]; exact HM.out) HBwr.out.size
    clear c0 c1 c2 c3 c4 c5
    obtain ⟨c0, c1, c2, c3, c4, c5⟩ := HROWW.out Z2 HBZ2.out
    clear hZ2 hHeld hr6 hg6 HR5 hw5 HPUT HRwr HBwr
    rcases hc with rfl | rfl
    ·
     go_wp2_with fail
     refine (HNC.out _).mono ?_
     rintro e w7 ⟨rfl, hw7⟩
     have HR7 := Lib.hid (HRZ2.out.below hw7)
     have HB7 : Hid (Below w.heap.size w w7) := HBZ2.out.trans (hw7.mono HBZ2.out.size)
     clear hw7
     go_wp2_with fail
     exact ⟨⟨n + 1, by go_num, by omega, HR7.out, HB7.out⟩, by simp [intOf]; omega⟩
    ·
     go_wp2_with fail
     refine (HNC.out _).mono ?_
     rintro e w7 ⟨rfl, hw7⟩
     have HR7 := Lib.hid (HRZ2.out.below hw7)
     have HB7 : Hid (Below w.heap.size w w7) := HBZ2.out.trans (hw7.mono HBZ2.out.size)
     clear hw7
     go_wp2_with fail
     exact ⟨⟨n + 1, by go_num, by omega, HR7.out, HB7.out⟩, by simp [intOf]; omega⟩
  ·
   have hnN : N = n := by omega
   subst hnN
   go_wp2_with fail
   go_loopw [9, 10] (fun cv i wz => ∃ (n : Nat) (D : List Pk), cv = .int .i64 D.length ∧ i = .int .i64 n ∧ n ≤ N ∧ D.length ≤ n ∧ Hid (CntQ g L (runN (goneB g) (nlL L) N) N n D) ∧ Hid (RibM wz bs b m 0 (runN (goneB g) (nlL L) N)) ∧ Hid (Below w.heap.size w wz)) (fun _ i _ => N + 1 - (intOf i).toNat)
   case atStart => exact ⟨0, [], rfl, rfl, by omega, Nat.le_refl _, ⟨List.nodup_nil, (fun d hd => by cases hd), (fun d hd => by cases hd)⟩, HRwr.out, HBwr.out⟩
   case round =>
    clear HRwr HBwr
    obtain ⟨wz, hwz⟩ : ∃ x, x = wr := ⟨_, rfl⟩
    subst hwz
    obtain ⟨n, D, rfl, rfl, hn, hDn, HCQ, HRz, HBz⟩ := hrel
    by_cases hlt : n < N
    ·
     obtain ⟨x0, hx⟩ : ∃ x, L[n]? = some x := ⟨L[n]'(by rw [hln]; exact hlt), List.getElem?_eq_getElem _⟩
     have HXOK := Lib.hid (HL.out.ok x0 (List.mem_of_getElem? hx))
     obtain ⟨b0, off, rfl, hb0, hrow⟩ := HL.out.row hx (Nat.le_refl _)
     obtain ⟨x, xl⟩ := x0
     dsimp only at hrow
     have HROWI : Hid (∀ W, Below w.heap.size w W → W.cell? ⟨b0, off + n * 6, none⟩ = some (.int .i64 x.fam) ∧ W.cell? ⟨b0, off + n * 6 + 1, none⟩ = some (.int .u64 x.rd) ∧ W.cell? ⟨b0, off + n * 6 + 2, none⟩ = some (.string x.addr) ∧ W.cell? ⟨b0, off + n * 6 + 3, none⟩ = some (.int .i64 x.len) ∧ W.cell? ⟨b0, off + n * 6 + 4, none⟩ = some (.int .u32 (x.id : Nat)) ∧ W.cell? ⟨b0, off + n * 6 + 5, none⟩ = some (.int .u32 (xl : Nat))) := hrow
     have HX : Hid (L[n]? = some ⟨x, xl⟩) := hx
     have HKO : Hid x.Ok := HXOK.out.k
     have HLA : Hid (xl < 4294967296) := HXOK.out.label
     clear hx hrow HXOK
     go_wp2_with fail
     go_loopw [11, 12] (fun lv kv wy => ∃ (la k : Nat), lv = .int .i64 la ∧ kv = .int .i64 k ∧ n + 1 ≤ k ∧ k ≤ N ∧ (la = n ∨ n < la) ∧ Hid (LastQ g L n k x la) ∧ Hid (RibM wy bs b m 0 (runN (goneB g) (nlL L) N)) ∧ Hid (Below w.heap.size w wy)) (fun _ kv _ => N + 1 - (intOf kv).toNat)
     case atStart => exact ⟨n, n + 1, rfl, by go_num, by omega, by omega, by omega, LastQ.start, HRz.out, HBz.out⟩
     case round =>
      clear HRz HBz
      obtain ⟨wy, hwy⟩ : ∃ x, x = wr := ⟨_, rfl⟩
      subst hwy
      obtain ⟨la, k, rfl, rfl, hk1, hk2, hla, HLQ, HRy, HBy⟩ := hrel
      by_cases hlk : k < N
      ·
       as_aux_lemma =>
       obtain ⟨y0, hy⟩ : ∃ y, L[k]? = some y := ⟨L[k]'(by rw [hln]; exact hlk), List.getElem?_eq_getElem _⟩
       have HYOK := Lib.hid (HL.out.ok y0 (List.mem_of_getElem? hy))
       have hrow2 := HL.out.rowAt hy
       obtain ⟨y, yl⟩ := y0
       dsimp only at hrow2
       have HROWK : Hid (∀ W, Below w.heap.size w W → W.cell? ⟨b0, off + k * 6, none⟩ = some (.int .i64 y.fam) ∧ W.cell? ⟨b0, off + k * 6 + 1, none⟩ = some (.int .u64 y.rd) ∧ W.cell? ⟨b0, off + k * 6 + 2, none⟩ = some (.string y.addr) ∧ W.cell? ⟨b0, off + k * 6 + 3, none⟩ = some (.int .i64 y.len) ∧ W.cell? ⟨b0, off + k * 6 + 4, none⟩ = some (.int .u32 (y.id : Nat)) ∧ W.cell? ⟨b0, off + k * 6 + 5, none⟩ = some (.int .u32 (yl : Nat))) := hrow2
       have HY : Hid (L[k]? = some ⟨y, yl⟩) := hy
       clear hy hrow2
       by_cases hpf : y.fam = x.fam ∧ y.rd = x.rd ∧ y.addr = x.addr ∧ y.len = x.len
       ·
        have HPF := Lib.hid hpf
        by_cases hid : y.id = x.id
        ·
         have HID := Lib.hid hid
         have HYX : Hid (y = x) := by
          show _ = _
          obtain ⟨h1, h2, h3, h4⟩ := hpf
          cases y
          cases x
          simp only at h1 h2 h3 h4 hid
          rw [h1, h2, h3, h4, hid]
         clear hpf hid
         cases hg : goneB g k with
         | true =>
          have hb := gone_one hg0 hg1 hg
          have HG := Lib.hid hg
          clear hg
          go_upto_region 21 with fail
          refine wp_region_held_drew (S := fun w' => Below wy.heap.size wy w') (by kernel_rfl) (below_drewN (Below.refl _ _) 1) (fun hHeld => ?_)
          refine wpAnyH_take (i := 0) (oi := { dst := some 84, op := Op.move (Operand.tmp 0), type := 22, pos := "outright.go:55", after := #[], guard := none }) (v := ?_) rfl (by kernel_rfl) (by kernel_rfl) (by kernel_rfl) (fun _ _ _ h => h) (Or.inl ⟨by rfl, ?_⟩) hHeld ?_
          rotate_left
          ·
           intro w hSw
           clear hSw
           go_simp
           try with_reducible rfl
          try simp only [Act.put, sA, sZ, sS]
          refine wpAnyH_take (i := 1) (oi := { dst := some 85, op := Op.move (Operand.tmp 12), type := 3, pos := "outright.go:55", after := #[], guard := none }) (v := ?_) rfl (by kernel_rfl) (by kernel_rfl) (by kernel_rfl) (fun _ _ _ h => h) (Or.inl ⟨by rfl, ?_⟩) hHeld ?_
          rotate_left
          ·
           intro w hSw
           clear hSw
           go_simp
           try with_reducible rfl
          try simp only [Act.put, sA, sZ, sS]
          refine wpAnyH_take (i := 2) (oi := { dst := some 86, op := Op.indexAddr 22 (Operand.tmp 84) (Operand.tmp 85), type := 0, pos := "outright.go:55", after := #[{ on := 0, ground := Ground.data }, { on := 1, ground := Ground.data }], guard := none }) (v := ?_) rfl (by kernel_rfl) (by kernel_rfl) (by kernel_rfl) (fun _ _ _ h => h) (Or.inl ⟨by rfl, ?_⟩) hHeld ?_
          rotate_left
          ·
           intro w hSw
           clear hSw
           go_simp
           try with_reducible rfl
          try simp only [Act.put, sA, sZ, sS]
          refine wpAnyH_take (i := 3) (oi := { dst := some 87, op := Op.fieldAddr 32 (Operand.tmp 86) 0, type := 0, pos := "outright.go:55", after := #[{ on := 2, ground := Ground.data }], guard := none }) (v := ?_) rfl (by kernel_rfl) (by kernel_rfl) (by kernel_rfl) (fun _ _ _ h => h) (Or.inl ⟨by rfl, ?_⟩) hHeld ?_
          rotate_left
          ·
           intro w hSw
           clear hSw
           go_simp
           try with_reducible rfl
          try simp only [Act.put, sA, sZ, sS]
          refine wpAnyH_take (i := 4) (oi := { dst := some 88, op := Op.load 29 (Operand.tmp 87), type := 29, pos := "outright.go:55", after := #[{ on := 3, ground := Ground.data }], guard := none }) (v := ?_) rfl (by kernel_rfl) (by kernel_rfl) (by kernel_rfl) (fun _ _ _ h => h) (Or.inl ⟨by rfl, ?_⟩) hHeld ?_
          rotate_left
          ·
           intro w hSw
           obtain ⟨c0, c1, c2, c3, c4, c5⟩ := HROWI.out w (HBy.out.trans (hSw.mono HBy.out.size))
           obtain ⟨d0, d1, d2, d3, d4, d5⟩ := HROWK.out w (HBy.out.trans (hSw.mono HBy.out.size))
           go_simp
           try with_reducible rfl
          try simp only [Act.put, sA, sZ, sS]
          refine wpAnyH_take (i := 5) (oi := { dst := some 89, op := Op.move (Operand.tmp 0), type := 22, pos := "outright.go:55", after := #[], guard := none }) (v := ?_) rfl (by kernel_rfl) (by kernel_rfl) (by kernel_rfl) (fun _ _ _ h => h) (Or.inl ⟨by rfl, ?_⟩) hHeld ?_
          rotate_left
          ·
           intro w hSw
           clear hSw
           go_simp
           try with_reducible rfl
          try simp only [Act.put, sA, sZ, sS]
          refine wpAnyH_take (i := 6) (oi := { dst := some 90, op := Op.move (Operand.tmp 10), type := 3, pos := "outright.go:55", after := #[], guard := none }) (v := ?_) rfl (by kernel_rfl) (by kernel_rfl) (by kernel_rfl) (fun _ _ _ h => h) (Or.inl ⟨by rfl, ?_⟩) hHeld ?_
          rotate_left
          ·
           intro w hSw
           clear hSw
           go_simp
           try with_reducible rfl
          try simp only [Act.put, sA, sZ, sS]
          refine wpAnyH_take (i := 7) (oi := { dst := some 91, op := Op.indexAddr 22 (Operand.tmp 89) (Operand.tmp 90), type := 0, pos := "outright.go:55", after := #[{ on := 5, ground := Ground.data }, { on := 6, ground := Ground.data }], guard := none }) (v := ?_) rfl (by kernel_rfl) (by kernel_rfl) (by kernel_rfl) (fun _ _ _ h => h) (Or.inl ⟨by rfl, ?_⟩) hHeld ?_
          rotate_left
          ·
           intro w hSw
           clear hSw
           go_simp
           try with_reducible rfl
          try simp only [Act.put, sA, sZ, sS]
          refine wpAnyH_take (i := 8) (oi := { dst := some 92, op := Op.fieldAddr 32 (Operand.tmp 91) 0, type := 0, pos := "outright.go:55", after := #[{ on := 7, ground := Ground.data }], guard := none }) (v := ?_) rfl (by kernel_rfl) (by kernel_rfl) (by kernel_rfl) (fun _ _ _ h => h) (Or.inl ⟨by rfl, ?_⟩) hHeld ?_
          rotate_left
          ·
           intro w hSw
           clear hSw
           go_simp
           try with_reducible rfl
          try simp only [Act.put, sA, sZ, sS]
          refine wpAnyH_take (i := 9) (oi := { dst := some 93, op := Op.load 29 (Operand.tmp 92), type := 29, pos := "outright.go:55", after := #[{ on := 8, ground := Ground.data }], guard := none }) (v := ?_) rfl (by kernel_rfl) (by kernel_rfl) (by kernel_rfl) (fun _ _ _ h => h) (Or.inl ⟨by rfl, ?_⟩) hHeld ?_
          rotate_left
          ·
           intro w hSw
           obtain ⟨c0, c1, c2, c3, c4, c5⟩ := HROWI.out w (HBy.out.trans (hSw.mono HBy.out.size))
           obtain ⟨d0, d1, d2, d3, d4, d5⟩ := HROWK.out w (HBy.out.trans (hSw.mono HBy.out.size))
           go_simp
           try with_reducible rfl
          try simp only [Act.put, sA, sZ, sS]
          refine wpAnyH_take (i := 10) (oi := { dst := some 94, op := Op.binOp BinOp.eql 29 (Operand.tmp 88) (Operand.tmp 93) 29, type := 4, pos := "outright.go:55", after := #[{ on := 4, ground := Ground.data }, { on := 9, ground := Ground.data }], guard := none }) (v := .bool true) rfl (by kernel_rfl) (by kernel_rfl) (by kernel_rfl) (fun _ _ _ h => h) (Or.inl ⟨by rfl, ?_⟩) hHeld ?_
          ·
           intro w hSw
           clear hSw
           go_simp
           all_goals first | exact ⟨HPF.out.1, HPF.out.2.1, by rw [HPF.out.2.2.1], HPF.out.2.2.2⟩ | (rw [HPF.out.1, HPF.out.2.1, HPF.out.2.2.1, HPF.out.2.2.2]; simp) | simp [HPF.out.1, HPF.out.2.1, HPF.out.2.2.1, HPF.out.2.2.2]
          try simp only [Act.put, sA, sZ, sS]
          refine wpAnyH_take (i := 11) (oi := { dst := some 95, op := Op.move (Operand.tmp 94), type := 4, pos := "outright.go:55", after := #[{ on := 10, ground := Ground.data }], guard := none }) (v := ?_) rfl (by kernel_rfl) (by kernel_rfl) (by kernel_rfl) (fun _ _ _ h => h) (Or.inl ⟨by rfl, ?_⟩) hHeld ?_
          rotate_left
          ·
           intro w hSw
           clear hSw
           go_simp
           try with_reducible rfl
          try simp only [Act.put, sA, sZ, sS]
          refine wpAnyH_take (i := 12) (oi := { dst := some 96, op := Op.move (Operand.tmp 0), type := 22, pos := "outright.go:55", after := #[{ on := 11, ground := Ground.guard }], guard := some (11, true) }) (v := ?_) rfl (by kernel_rfl) (by kernel_rfl) (by kernel_rfl) (fun _ _ _ h => h) (Or.inl ⟨by rfl, ?_⟩) hHeld ?_
          rotate_left
          ·
           intro w hSw
           clear hSw
           go_simp
           try with_reducible rfl
          try simp only [Act.put, sA, sZ, sS]
          refine wpAnyH_take (i := 13) (oi := { dst := some 97, op := Op.move (Operand.tmp 12), type := 3, pos := "outright.go:55", after := #[{ on := 11, ground := Ground.guard }], guard := some (11, true) }) (v := ?_) rfl (by kernel_rfl) (by kernel_rfl) (by kernel_rfl) (fun _ _ _ h => h) (Or.inl ⟨by rfl, ?_⟩) hHeld ?_
          rotate_left
          ·
           intro w hSw
           clear hSw
           go_simp
           try with_reducible rfl
          try simp only [Act.put, sA, sZ, sS]
          refine wpAnyH_take (i := 14) (oi := { dst := some 98, op := Op.indexAddr 22 (Operand.tmp 96) (Operand.tmp 97), type := 0, pos := "outright.go:55", after := #[{ on := 12, ground := Ground.data }, { on := 13, ground := Ground.data }, { on := 11, ground := Ground.guard }], guard := some (11, true) }) (v := ?_) rfl (by kernel_rfl) (by kernel_rfl) (by kernel_rfl) (fun _ _ _ h => h) (Or.inl ⟨by rfl, ?_⟩) hHeld ?_
          rotate_left
          ·
           intro w hSw
           clear hSw
           go_simp
           try with_reducible rfl
          try simp only [Act.put, sA, sZ, sS]
          refine wpAnyH_take (i := 15) (oi := { dst := some 99, op := Op.fieldAddr 32 (Operand.tmp 98) 1, type := 0, pos := "outright.go:55", after := #[{ on := 14, ground := Ground.data }, { on := 11, ground := Ground.guard }], guard := some (11, true) }) (v := ?_) rfl (by kernel_rfl) (by kernel_rfl) (by kernel_rfl) (fun _ _ _ h => h) (Or.inl ⟨by rfl, ?_⟩) hHeld ?_
          rotate_left
          ·
           intro w hSw
           clear hSw
           go_simp
           try with_reducible rfl
          try simp only [Act.put, sA, sZ, sS]
          refine wpAnyH_take (i := 16) (oi := { dst := some 100, op := Op.load 30 (Operand.tmp 99), type := 30, pos := "outright.go:55", after := #[{ on := 15, ground := Ground.data }, { on := 11, ground := Ground.guard }], guard := some (11, true) }) (v := ?_) rfl (by kernel_rfl) (by kernel_rfl) (by kernel_rfl) (fun _ _ _ h => h) (Or.inl ⟨by rfl, ?_⟩) hHeld ?_
          rotate_left
          ·
           intro w hSw
           obtain ⟨c0, c1, c2, c3, c4, c5⟩ := HROWI.out w (HBy.out.trans (hSw.mono HBy.out.size))
           obtain ⟨d0, d1, d2, d3, d4, d5⟩ := HROWK.out w (HBy.out.trans (hSw.mono HBy.out.size))
           go_simp
           try with_reducible rfl
          try simp only [Act.put, sA, sZ, sS]
          refine wpAnyH_take (i := 17) (oi := { dst := some 101, op := Op.move (Operand.tmp 0), type := 22, pos := "outright.go:55", after := #[{ on := 11, ground := Ground.guard }], guard := some (11, true) }) (v := ?_) rfl (by kernel_rfl) (by kernel_rfl) (by kernel_rfl) (fun _ _ _ h => h) (Or.inl ⟨by rfl, ?_⟩) hHeld ?_
          rotate_left
          ·
           intro w hSw
           clear hSw
           go_simp
           try with_reducible rfl
          try simp only [Act.put, sA, sZ, sS]
          refine wpAnyH_take (i := 18) (oi := { dst := some 102, op := Op.move (Operand.tmp 10), type := 3, pos := "outright.go:55", after := #[{ on := 11, ground := Ground.guard }], guard := some (11, true) }) (v := ?_) rfl (by kernel_rfl) (by kernel_rfl) (by kernel_rfl) (fun _ _ _ h => h) (Or.inl ⟨by rfl, ?_⟩) hHeld ?_
          rotate_left
          ·
           intro w hSw
           clear hSw
           go_simp
           try with_reducible rfl
          try simp only [Act.put, sA, sZ, sS]
          refine wpAnyH_take (i := 19) (oi := { dst := some 103, op := Op.indexAddr 22 (Operand.tmp 101) (Operand.tmp 102), type := 0, pos := "outright.go:55", after := #[{ on := 17, ground := Ground.data }, { on := 18, ground := Ground.data }, { on := 11, ground := Ground.guard }], guard := some (11, true) }) (v := ?_) rfl (by kernel_rfl) (by kernel_rfl) (by kernel_rfl) (fun _ _ _ h => h) (Or.inl ⟨by rfl, ?_⟩) hHeld ?_
          rotate_left
          ·
           intro w hSw
           clear hSw
           go_simp
           try with_reducible rfl
          try simp only [Act.put, sA, sZ, sS]
          refine wpAnyH_take (i := 20) (oi := { dst := some 104, op := Op.fieldAddr 32 (Operand.tmp 103) 1, type := 0, pos := "outright.go:55", after := #[{ on := 19, ground := Ground.data }, { on := 11, ground := Ground.guard }], guard := some (11, true) }) (v := ?_) rfl (by kernel_rfl) (by kernel_rfl) (by kernel_rfl) (fun _ _ _ h => h) (Or.inl ⟨by rfl, ?_⟩) hHeld ?_
          rotate_left
          ·
           intro w hSw
           clear hSw
           go_simp
           try with_reducible rfl
          try simp only [Act.put, sA, sZ, sS]
          refine wpAnyH_take (i := 21) (oi := { dst := some 105, op := Op.load 30 (Operand.tmp 104), type := 30, pos := "outright.go:55", after := #[{ on := 20, ground := Ground.data }, { on := 11, ground := Ground.guard }], guard := some (11, true) }) (v := ?_) rfl (by kernel_rfl) (by kernel_rfl) (by kernel_rfl) (fun _ _ _ h => h) (Or.inl ⟨by rfl, ?_⟩) hHeld ?_
          rotate_left
          ·
           intro w hSw
           obtain ⟨c0, c1, c2, c3, c4, c5⟩ := HROWI.out w (HBy.out.trans (hSw.mono HBy.out.size))
           obtain ⟨d0, d1, d2, d3, d4, d5⟩ := HROWK.out w (HBy.out.trans (hSw.mono HBy.out.size))
           go_simp
           try with_reducible rfl
          try simp only [Act.put, sA, sZ, sS]
          refine wpAnyH_take (i := 22) (oi := { dst := some 106, op := Op.binOp BinOp.eql 30 (Operand.tmp 100) (Operand.tmp 105) 30, type := 4, pos := "outright.go:55", after := #[{ on := 16, ground := Ground.data }, { on := 21, ground := Ground.data }, { on := 11, ground := Ground.guard }], guard := some (11, true) }) (v := .bool true) rfl (by kernel_rfl) (by kernel_rfl) (by kernel_rfl) (fun _ _ _ h => h) (Or.inl ⟨by rfl, ?_⟩) hHeld ?_
          ·
           intro w hSw
           clear hSw
           go_simp
           all_goals first | exact HID.out | exact congrArg _ HID.out | simp [HID.out]
          try simp only [Act.put, sA, sZ, sS]
          refine wpAnyH_take (i := 23) (oi := { dst := some 107, op := Op.pick (Operand.tmp 95) (Operand.tmp 106) (Operand.const (Value.bool false)), type := 4, pos := "outright.go:55", after := #[{ on := 11, ground := Ground.data }, { on := 22, ground := Ground.data }], guard := none }) (v := ?_) rfl (by kernel_rfl) (by kernel_rfl) (by kernel_rfl) (fun _ _ _ h => h) (Or.inl ⟨by rfl, ?_⟩) hHeld ?_
          rotate_left
          ·
           intro w hSw
           clear hSw
           go_simp
           try with_reducible rfl
          try simp only [Act.put, sA, sZ, sS]
          refine wpAnyH_take (i := 24) (oi := { dst := some 108, op := Op.move (Operand.tmp 107), type := 4, pos := "outright.go:55", after := #[{ on := 23, ground := Ground.data }, { on := 11, ground := Ground.chain }], guard := none }) (v := ?_) rfl (by kernel_rfl) (by kernel_rfl) (by kernel_rfl) (fun _ _ _ h => h) (Or.inl ⟨by rfl, ?_⟩) hHeld ?_
          rotate_left
          ·
           intro w hSw
           clear hSw
           go_simp
           try with_reducible rfl
          try simp only [Act.put, sA, sZ, sS]
          refine wpAnyH_take (i := 25) (oi := { dst := some 109, op := Op.move (Operand.tmp 1), type := 23, pos := "outright.go:55", after := #[{ on := 24, ground := Ground.guard }], guard := some (24, true) }) (v := ?_) rfl (by kernel_rfl) (by kernel_rfl) (by kernel_rfl) (fun _ _ _ h => h) (Or.inl ⟨by rfl, ?_⟩) hHeld ?_
          rotate_left
          ·
           intro w hSw
           clear hSw
           go_simp
           try with_reducible rfl
          try simp only [Act.put, sA, sZ, sS]
          refine wpAnyH_take (i := 26) (oi := { dst := some 110, op := Op.move (Operand.tmp 12), type := 3, pos := "outright.go:55", after := #[{ on := 24, ground := Ground.guard }], guard := some (24, true) }) (v := ?_) rfl (by kernel_rfl) (by kernel_rfl) (by kernel_rfl) (fun _ _ _ h => h) (Or.inl ⟨by rfl, ?_⟩) hHeld ?_
          rotate_left
          ·
           intro w hSw
           clear hSw
           go_simp
           try with_reducible rfl
          try simp only [Act.put, sA, sZ, sS]
          refine wpAnyH_take (i := 27) (oi := { dst := some 111, op := Op.binOp BinOp.shr 23 (Operand.tmp 109) (Operand.tmp 110) 3, type := 23, pos := "outright.go:55", after := #[{ on := 25, ground := Ground.data }, { on := 26, ground := Ground.data }, { on := 24, ground := Ground.guard }], guard := some (24, true) }) (v := ?_) rfl (by kernel_rfl) (by kernel_rfl) (by kernel_rfl) (fun _ _ _ h => h) (Or.inl ⟨by rfl, ?_⟩) hHeld ?_
          rotate_left
          ·
           intro w hSw
           clear hSw
           go_simp
           try with_reducible rfl
          try simp only [Act.put, sA, sZ, sS]
          refine wpAnyH_take (i := 28) (oi := { dst := some 112, op := Op.binOp BinOp.and 23 (Operand.tmp 111) (Operand.const (Value.int IntKind.u64 1)) 23, type := 23, pos := "outright.go:55", after := #[{ on := 27, ground := Ground.data }, { on := 24, ground := Ground.guard }], guard := some (24, true) }) (v := ?_) rfl (by kernel_rfl) (by kernel_rfl) (by kernel_rfl) (fun _ _ _ h => h) (Or.inl ⟨by rfl, ?_⟩) hHeld ?_
          rotate_left
          ·
           intro w hSw
           clear hSw
           go_simp
           try with_reducible rfl
          try simp only [Act.put, sA, sZ, sS]
          refine wpAnyH_take (i := 29) (oi := { dst := some 113, op := Op.binOp BinOp.eql 23 (Operand.tmp 112) (Operand.const (Value.int IntKind.u64 1)) 23, type := 4, pos := "outright.go:55", after := #[{ on := 28, ground := Ground.data }, { on := 24, ground := Ground.guard }], guard := some (24, true) }) (v := ?_) rfl (by kernel_rfl) (by kernel_rfl) (by kernel_rfl) (fun _ _ _ h => h) (Or.inl ⟨by rfl, ?_⟩) hHeld ?_
          rotate_left
          ·
           intro w hSw
           clear hSw
           go_simp
           try with_reducible rfl
          try simp only [Act.put, sA, sZ, sS]
          refine wpAnyH_take (i := 30) (oi := { dst := some 114, op := Op.move (Operand.tmp 113), type := 4, pos := "outright.go:55", after := #[{ on := 29, ground := Ground.data }, { on := 24, ground := Ground.chain }, { on := 24, ground := Ground.guard }], guard := some (24, true) }) (v := ?_) rfl (by kernel_rfl) (by kernel_rfl) (by kernel_rfl) (fun _ _ _ h => h) (Or.inl ⟨by rfl, ?_⟩) hHeld ?_
          rotate_left
          ·
           intro w hSw
           clear hSw
           go_simp
           try with_reducible rfl
          try simp only [Act.put, sA, sZ, sS]
          refine wpAnyH_take (i := 31) (oi := { dst := some 115, op := Op.move (Operand.tmp 0), type := 22, pos := "outright.go:55", after := #[{ on := 30, ground := Ground.guard }], guard := some (30, false) }) (v := undef) rfl (by kernel_rfl) (by kernel_rfl) (by kernel_rfl) (fun _ _ _ h => h) (Or.inr ⟨by rfl, rfl⟩) hHeld ?_
          try simp only [Act.put, sA, sZ, sS]
          refine wpAnyH_take (i := 32) (oi := { dst := some 116, op := Op.move (Operand.tmp 12), type := 3, pos := "outright.go:55", after := #[{ on := 30, ground := Ground.guard }], guard := some (30, false) }) (v := undef) rfl (by kernel_rfl) (by kernel_rfl) (by kernel_rfl) (fun _ _ _ h => h) (Or.inr ⟨by rfl, rfl⟩) hHeld ?_
          try simp only [Act.put, sA, sZ, sS]
          refine wpAnyH_take (i := 33) (oi := { dst := some 117, op := Op.indexAddr 22 (Operand.tmp 115) (Operand.tmp 116), type := 0, pos := "outright.go:55", after := #[{ on := 31, ground := Ground.data }, { on := 32, ground := Ground.data }, { on := 30, ground := Ground.guard }], guard := some (30, false) }) (v := undef) rfl (by kernel_rfl) (by kernel_rfl) (by kernel_rfl) (fun _ _ _ h => h) (Or.inr ⟨by rfl, rfl⟩) hHeld ?_
          try simp only [Act.put, sA, sZ, sS]
          refine wpAnyH_take (i := 34) (oi := { dst := some 118, op := Op.load 32 (Operand.tmp 117), type := 32, pos := "outright.go:55", after := #[{ on := 33, ground := Ground.data }, { on := 30, ground := Ground.guard }], guard := some (30, false) }) (v := undef) rfl (by kernel_rfl) (by kernel_rfl) (by kernel_rfl) (fun _ _ _ h => h) (Or.inr ⟨by rfl, rfl⟩) hHeld ?_
          try simp only [Act.put, sA, sZ, sS]
          refine wpAnyH_take (i := 35) (oi := { dst := some 119, op := Op.call { callee := Callee.value (Operand.func 12), args := #[Operand.tmp 118], argTypes := #[32] }, type := 33, pos := "outright.go:55", after := #[{ on := 34, ground := Ground.data }, { on := 30, ground := Ground.chain }, { on := 30, ground := Ground.guard }], guard := some (30, false) }) (v := undef) rfl (by kernel_rfl) (by kernel_rfl) (by kernel_rfl) (fun _ _ _ h => h) (Or.inr ⟨by rfl, rfl⟩) hHeld ?_
          try simp only [Act.put, sA, sZ, sS]
          refine wpAnyH_take (i := 36) (oi := { dst := some 120, op := Op.binOp BinOp.eql 33 (Operand.tmp 119) (Operand.const (Value.int IntKind.i64 0)) 33, type := 4, pos := "outright.go:55", after := #[{ on := 35, ground := Ground.data }, { on := 30, ground := Ground.guard }], guard := some (30, false) }) (v := undef) rfl (by kernel_rfl) (by kernel_rfl) (by kernel_rfl) (fun _ _ _ h => h) (Or.inr ⟨by rfl, rfl⟩) hHeld ?_
          try simp only [Act.put, sA, sZ, sS]
          refine wpAnyH_take (i := 37) (oi := { dst := some 121, op := Op.pick (Operand.tmp 114) (Operand.const (Value.bool true)) (Operand.tmp 120), type := 4, pos := "outright.go:55", after := #[{ on := 30, ground := Ground.data }, { on := 36, ground := Ground.data }, { on := 24, ground := Ground.guard }], guard := some (24, true) }) (v := ?_) rfl (by kernel_rfl) (by kernel_rfl) (by kernel_rfl) (fun _ _ _ h => h) (Or.inl ⟨by rfl, ?_⟩) hHeld ?_
          rotate_left
          ·
           intro w hSw
           clear hSw
           go_simp
           try with_reducible rfl
          try simp only [Act.put, sA, sZ, sS]
          refine wpAnyH_take (i := 38) (oi := { dst := some 122, op := Op.pick (Operand.tmp 108) (Operand.tmp 121) (Operand.const (Value.bool false)), type := 4, pos := "outright.go:55", after := #[{ on := 24, ground := Ground.data }, { on := 37, ground := Ground.data }], guard := none }) (v := ?_) rfl (by kernel_rfl) (by kernel_rfl) (by kernel_rfl) (fun _ _ _ h => h) (Or.inl ⟨by rfl, ?_⟩) hHeld ?_
          rotate_left
          ·
           intro w hSw
           clear hSw
           go_simp
           try with_reducible rfl
          try simp only [Act.put, sA, sZ, sS]
          refine wpAnyH_done (by kernel_rfl) ?_ _
          go_upto_region 20 with fail
          refine rb_name fun Z2 hZ2 => ?_
          have hbZ : Below wy.heap.size wy Z2 := by rw [hZ2]; exact hHeld
          have HR2 := Lib.hid (HRy.out.below hbZ)
          have HB2 : Hid (Below w.heap.size w Z2) := HBy.out.trans (hbZ.mono HBy.out.size)
          clear hZ2 hbZ hHeld
          go_wp2_with fail
          exact ⟨⟨k, k + 1, rfl, by go_num, by omega, by omega, by omega, LastQ.yes (by omega) HY.out ⟨HYX.out, .inl HG.out⟩, HR2.out, HB2.out⟩, by simp [intOf]; omega⟩
         | false =>
          have hb := gone_zero hg0 hg1 hg
          have HG := Lib.hid hg
          clear hg
          by_cases hm : nlMay (nlk y yl)
          ·
           have HM2 := Lib.hid hm
           have HNCK : Hid (∀ W, Calls Try.prog 12 #[.agg #[.int .i64 y.fam, .int .u64 y.rd, .string y.addr, .int .i64 y.len, .int .u32 (y.id : Nat), .int .u32 (yl : Nat)]] W fun e w' => e = .returned (.int .i64 0) ∧ Below W.heap.size W w') := fun W => by
            have h := ncheck_any (nlk y yl) (nlk_ok HYOK.out.k HYOK.out.label) W
            unfold nlC at h
            rw [if_pos HM2.out] at h
            exact h
           clear hm
           go_upto_region 21 with fail
           refine wp_region_held_drew (S := fun w' => Below wy.heap.size wy w') (by kernel_rfl) (below_drewN (Below.refl _ _) 1) (fun hHeld => ?_)
           refine wpAnyH_take (i := 0) (oi := { dst := some 84, op := Op.move (Operand.tmp 0), type := 22, pos := "outright.go:55", after := #[], guard := none }) (v := ?_) rfl (by kernel_rfl) (by kernel_rfl) (by kernel_rfl) (fun _ _ _ h => h) (Or.inl ⟨by rfl, ?_⟩) hHeld ?_
           rotate_left
           ·
            intro w hSw
            clear hSw
            go_simp
            try with_reducible rfl
           try simp only [Act.put, sA, sZ, sS]
           refine wpAnyH_take (i := 1) (oi := { dst := some 85, op := Op.move (Operand.tmp 12), type := 3, pos := "outright.go:55", after := #[], guard := none }) (v := ?_) rfl (by kernel_rfl) (by kernel_rfl) (by kernel_rfl) (fun _ _ _ h => h) (Or.inl ⟨by rfl, ?_⟩) hHeld ?_
           rotate_left
           ·
            intro w hSw
            clear hSw
            go_simp
            try with_reducible rfl
           try simp only [Act.put, sA, sZ, sS]
           refine wpAnyH_take (i := 2) (oi := { dst := some 86, op := Op.indexAddr 22 (Operand.tmp 84) (Operand.tmp 85), type := 0, pos := "outright.go:55", after := #[{ on := 0, ground := Ground.data }, { on := 1, ground := Ground.data }], guard := none }) (v := ?_) rfl (by kernel_rfl) (by kernel_rfl) (by kernel_rfl) (fun _ _ _ h => h) (Or.inl ⟨by rfl, ?_⟩) hHeld ?_
           rotate_left
           ·
            intro w hSw
            clear hSw
            go_simp
            try with_reducible rfl
           try simp only [Act.put, sA, sZ, sS]
           refine wpAnyH_take (i := 3) (oi := { dst := some 87, op := Op.fieldAddr 32 (Operand.tmp 86) 0, type := 0, pos := "outright.go:55", after := #[{ on := 2, ground := Ground.data }], guard := none }) (v := ?_) rfl (by kernel_rfl) (by kernel_rfl) (by kernel_rfl) (fun _ _ _ h => h) (Or.inl ⟨by rfl, ?_⟩) hHeld ?_
           rotate_left
           ·
            intro w hSw
            clear hSw
            go_simp
            try with_reducible rfl
           try simp only [Act.put, sA, sZ, sS]
           refine wpAnyH_take (i := 4) (oi := { dst := some 88, op := Op.load 29 (Operand.tmp 87), type := 29, pos := "outright.go:55", after := #[{ on := 3, ground := Ground.data }], guard := none }) (v := ?_) rfl (by kernel_rfl) (by kernel_rfl) (by kernel_rfl) (fun _ _ _ h => h) (Or.inl ⟨by rfl, ?_⟩) hHeld ?_
           rotate_left
           ·
            intro w hSw
            obtain ⟨c0, c1, c2, c3, c4, c5⟩ := HROWI.out w (HBy.out.trans (hSw.mono HBy.out.size))
            obtain ⟨d0, d1, d2, d3, d4, d5⟩ := HROWK.out w (HBy.out.trans (hSw.mono HBy.out.size))
            go_simp
            try with_reducible rfl
           try simp only [Act.put, sA, sZ, sS]
           refine wpAnyH_take (i := 5) (oi := { dst := some 89, op := Op.move (Operand.tmp 0), type := 22, pos := "outright.go:55", after := #[], guard := none }) (v := ?_) rfl (by kernel_rfl) (by kernel_rfl) (by kernel_rfl) (fun _ _ _ h => h) (Or.inl ⟨by rfl, ?_⟩) hHeld ?_
           rotate_left
           ·
            intro w hSw
            clear hSw
            go_simp
            try with_reducible rfl
           try simp only [Act.put, sA, sZ, sS]
           refine wpAnyH_take (i := 6) (oi := { dst := some 90, op := Op.move (Operand.tmp 10), type := 3, pos := "outright.go:55", after := #[], guard := none }) (v := ?_) rfl (by kernel_rfl) (by kernel_rfl) (by kernel_rfl) (fun _ _ _ h => h) (Or.inl ⟨by rfl, ?_⟩) hHeld ?_
           rotate_left
           ·
            intro w hSw
            clear hSw
            go_simp
            try with_reducible rfl
           try simp only [Act.put, sA, sZ, sS]
           refine wpAnyH_take (i := 7) (oi := { dst := some 91, op := Op.indexAddr 22 (Operand.tmp 89) (Operand.tmp 90), type := 0, pos := "outright.go:55", after := #[{ on := 5, ground := Ground.data }, { on := 6, ground := Ground.data }], guard := none }) (v := ?_) rfl (by kernel_rfl) (by kernel_rfl) (by kernel_rfl) (fun _ _ _ h => h) (Or.inl ⟨by rfl, ?_⟩) hHeld ?_
           rotate_left
           ·
            intro w hSw
            clear hSw
            go_simp
            try with_reducible rfl
           try simp only [Act.put, sA, sZ, sS]
           refine wpAnyH_take (i := 8) (oi := { dst := some 92, op := Op.fieldAddr 32 (Operand.tmp 91) 0, type := 0, pos := "outright.go:55", after := #[{ on := 7, ground := Ground.data }], guard := none }) (v := ?_) rfl (by kernel_rfl) (by kernel_rfl) (by kernel_rfl) (fun _ _ _ h => h) (Or.inl ⟨by rfl, ?_⟩) hHeld ?_
           rotate_left
           ·
            intro w hSw
            clear hSw
            go_simp
            try with_reducible rfl
           try simp only [Act.put, sA, sZ, sS]
           refine wpAnyH_take (i := 9) (oi := { dst := some 93, op := Op.load 29 (Operand.tmp 92), type := 29, pos := "outright.go:55", after := #[{ on := 8, ground := Ground.data }], guard := none }) (v := ?_) rfl (by kernel_rfl) (by kernel_rfl) (by kernel_rfl) (fun _ _ _ h => h) (Or.inl ⟨by rfl, ?_⟩) hHeld ?_
           rotate_left
           ·
            intro w hSw
            obtain ⟨c0, c1, c2, c3, c4, c5⟩ := HROWI.out w (HBy.out.trans (hSw.mono HBy.out.size))
            obtain ⟨d0, d1, d2, d3, d4, d5⟩ := HROWK.out w (HBy.out.trans (hSw.mono HBy.out.size))
            go_simp
            try with_reducible rfl
           try simp only [Act.put, sA, sZ, sS]
           refine wpAnyH_take (i := 10) (oi := { dst := some 94, op := Op.binOp BinOp.eql 29 (Operand.tmp 88) (Operand.tmp 93) 29, type := 4, pos := "outright.go:55", after := #[{ on := 4, ground := Ground.data }, { on := 9, ground := Ground.data }], guard := none }) (v := .bool true) rfl (by kernel_rfl) (by kernel_rfl) (by kernel_rfl) (fun _ _ _ h => h) (Or.inl ⟨by rfl, ?_⟩) hHeld ?_
           ·
            intro w hSw
            clear hSw
            go_simp
            all_goals first | exact ⟨HPF.out.1, HPF.out.2.1, by rw [HPF.out.2.2.1], HPF.out.2.2.2⟩ | (rw [HPF.out.1, HPF.out.2.1, HPF.out.2.2.1, HPF.out.2.2.2]; simp) | simp [HPF.out.1, HPF.out.2.1, HPF.out.2.2.1, HPF.out.2.2.2]
           try simp only [Act.put, sA, sZ, sS]
           refine wpAnyH_take (i := 11) (oi := { dst := some 95, op := Op.move (Operand.tmp 94), type := 4, pos := "outright.go:55", after := #[{ on := 10, ground := Ground.data }], guard := none }) (v := ?_) rfl (by kernel_rfl) (by kernel_rfl) (by kernel_rfl) (fun _ _ _ h => h) (Or.inl ⟨by rfl, ?_⟩) hHeld ?_
           rotate_left
           ·
            intro w hSw
            clear hSw
            go_simp
            try with_reducible rfl
           try simp only [Act.put, sA, sZ, sS]
           refine wpAnyH_take (i := 12) (oi := { dst := some 96, op := Op.move (Operand.tmp 0), type := 22, pos := "outright.go:55", after := #[{ on := 11, ground := Ground.guard }], guard := some (11, true) }) (v := ?_) rfl (by kernel_rfl) (by kernel_rfl) (by kernel_rfl) (fun _ _ _ h => h) (Or.inl ⟨by rfl, ?_⟩) hHeld ?_
           rotate_left
           ·
            intro w hSw
            clear hSw
            go_simp
            try with_reducible rfl
           try simp only [Act.put, sA, sZ, sS]
           refine wpAnyH_take (i := 13) (oi := { dst := some 97, op := Op.move (Operand.tmp 12), type := 3, pos := "outright.go:55", after := #[{ on := 11, ground := Ground.guard }], guard := some (11, true) }) (v := ?_) rfl (by kernel_rfl) (by kernel_rfl) (by kernel_rfl) (fun _ _ _ h => h) (Or.inl ⟨by rfl, ?_⟩) hHeld ?_
           rotate_left
           ·
            intro w hSw
            clear hSw
            go_simp
            try with_reducible rfl
           try simp only [Act.put, sA, sZ, sS]
           refine wpAnyH_take (i := 14) (oi := { dst := some 98, op := Op.indexAddr 22 (Operand.tmp 96) (Operand.tmp 97), type := 0, pos := "outright.go:55", after := #[{ on := 12, ground := Ground.data }, { on := 13, ground := Ground.data }, { on := 11, ground := Ground.guard }], guard := some (11, true) }) (v := ?_) rfl (by kernel_rfl) (by kernel_rfl) (by kernel_rfl) (fun _ _ _ h => h) (Or.inl ⟨by rfl, ?_⟩) hHeld ?_
           rotate_left
           ·
            intro w hSw
            clear hSw
            go_simp
            try with_reducible rfl
           try simp only [Act.put, sA, sZ, sS]
           refine wpAnyH_take (i := 15) (oi := { dst := some 99, op := Op.fieldAddr 32 (Operand.tmp 98) 1, type := 0, pos := "outright.go:55", after := #[{ on := 14, ground := Ground.data }, { on := 11, ground := Ground.guard }], guard := some (11, true) }) (v := ?_) rfl (by kernel_rfl) (by kernel_rfl) (by kernel_rfl) (fun _ _ _ h => h) (Or.inl ⟨by rfl, ?_⟩) hHeld ?_
           rotate_left
           ·
            intro w hSw
            clear hSw
            go_simp
            try with_reducible rfl
           try simp only [Act.put, sA, sZ, sS]
           refine wpAnyH_take (i := 16) (oi := { dst := some 100, op := Op.load 30 (Operand.tmp 99), type := 30, pos := "outright.go:55", after := #[{ on := 15, ground := Ground.data }, { on := 11, ground := Ground.guard }], guard := some (11, true) }) (v := ?_) rfl (by kernel_rfl) (by kernel_rfl) (by kernel_rfl) (fun _ _ _ h => h) (Or.inl ⟨by rfl, ?_⟩) hHeld ?_
           rotate_left
           ·
            intro w hSw
            obtain ⟨c0, c1, c2, c3, c4, c5⟩ := HROWI.out w (HBy.out.trans (hSw.mono HBy.out.size))
            obtain ⟨d0, d1, d2, d3, d4, d5⟩ := HROWK.out w (HBy.out.trans (hSw.mono HBy.out.size))
            go_simp
            try with_reducible rfl
           try simp only [Act.put, sA, sZ, sS]
           refine wpAnyH_take (i := 17) (oi := { dst := some 101, op := Op.move (Operand.tmp 0), type := 22, pos := "outright.go:55", after := #[{ on := 11, ground := Ground.guard }], guard := some (11, true) }) (v := ?_) rfl (by kernel_rfl) (by kernel_rfl) (by kernel_rfl) (fun _ _ _ h => h) (Or.inl ⟨by rfl, ?_⟩) hHeld ?_
           rotate_left
           ·
            intro w hSw
            clear hSw
            go_simp
            try with_reducible rfl
           try simp only [Act.put, sA, sZ, sS]
           refine wpAnyH_take (i := 18) (oi := { dst := some 102, op := Op.move (Operand.tmp 10), type := 3, pos := "outright.go:55", after := #[{ on := 11, ground := Ground.guard }], guard := some (11, true) }) (v := ?_) rfl (by kernel_rfl) (by kernel_rfl) (by kernel_rfl) (fun _ _ _ h => h) (Or.inl ⟨by rfl, ?_⟩) hHeld ?_
           rotate_left
           ·
            intro w hSw
            clear hSw
            go_simp
            try with_reducible rfl
           try simp only [Act.put, sA, sZ, sS]
           refine wpAnyH_take (i := 19) (oi := { dst := some 103, op := Op.indexAddr 22 (Operand.tmp 101) (Operand.tmp 102), type := 0, pos := "outright.go:55", after := #[{ on := 17, ground := Ground.data }, { on := 18, ground := Ground.data }, { on := 11, ground := Ground.guard }], guard := some (11, true) }) (v := ?_) rfl (by kernel_rfl) (by kernel_rfl) (by kernel_rfl) (fun _ _ _ h => h) (Or.inl ⟨by rfl, ?_⟩) hHeld ?_
           rotate_left
           ·
            intro w hSw
            clear hSw
            go_simp
            try with_reducible rfl
           try simp only [Act.put, sA, sZ, sS]
           refine wpAnyH_take (i := 20) (oi := { dst := some 104, op := Op.fieldAddr 32 (Operand.tmp 103) 1, type := 0, pos := "outright.go:55", after := #[{ on := 19, ground := Ground.data }, { on := 11, ground := Ground.guard }], guard := some (11, true) }) (v := ?_) rfl (by kernel_rfl) (by kernel_rfl) (by kernel_rfl) (fun _ _ _ h => h) (Or.inl ⟨by rfl, ?_⟩) hHeld ?_
           rotate_left
           ·
            intro w hSw
            clear hSw
            go_simp
            try with_reducible rfl
           try simp only [Act.put, sA, sZ, sS]
           refine wpAnyH_take (i := 21) (oi := { dst := some 105, op := Op.load 30 (Operand.tmp 104), type := 30, pos := "outright.go:55", after := #[{ on := 20, ground := Ground.data }, { on := 11, ground := Ground.guard }], guard := some (11, true) }) (v := ?_) rfl (by kernel_rfl) (by kernel_rfl) (by kernel_rfl) (fun _ _ _ h => h) (Or.inl ⟨by rfl, ?_⟩) hHeld ?_
           rotate_left
           ·
            intro w hSw
            obtain ⟨c0, c1, c2, c3, c4, c5⟩ := HROWI.out w (HBy.out.trans (hSw.mono HBy.out.size))
            obtain ⟨d0, d1, d2, d3, d4, d5⟩ := HROWK.out w (HBy.out.trans (hSw.mono HBy.out.size))
            go_simp
            try with_reducible rfl
           try simp only [Act.put, sA, sZ, sS]
           refine wpAnyH_take (i := 22) (oi := { dst := some 106, op := Op.binOp BinOp.eql 30 (Operand.tmp 100) (Operand.tmp 105) 30, type := 4, pos := "outright.go:55", after := #[{ on := 16, ground := Ground.data }, { on := 21, ground := Ground.data }, { on := 11, ground := Ground.guard }], guard := some (11, true) }) (v := .bool true) rfl (by kernel_rfl) (by kernel_rfl) (by kernel_rfl) (fun _ _ _ h => h) (Or.inl ⟨by rfl, ?_⟩) hHeld ?_
           ·
            intro w hSw
            clear hSw
            go_simp
            all_goals first | exact HID.out | exact congrArg _ HID.out | simp [HID.out]
           try simp only [Act.put, sA, sZ, sS]
           refine wpAnyH_take (i := 23) (oi := { dst := some 107, op := Op.pick (Operand.tmp 95) (Operand.tmp 106) (Operand.const (Value.bool false)), type := 4, pos := "outright.go:55", after := #[{ on := 11, ground := Ground.data }, { on := 22, ground := Ground.data }], guard := none }) (v := ?_) rfl (by kernel_rfl) (by kernel_rfl) (by kernel_rfl) (fun _ _ _ h => h) (Or.inl ⟨by rfl, ?_⟩) hHeld ?_
           rotate_left
           ·
            intro w hSw
            clear hSw
            go_simp
            try with_reducible rfl
           try simp only [Act.put, sA, sZ, sS]
           refine wpAnyH_take (i := 24) (oi := { dst := some 108, op := Op.move (Operand.tmp 107), type := 4, pos := "outright.go:55", after := #[{ on := 23, ground := Ground.data }, { on := 11, ground := Ground.chain }], guard := none }) (v := ?_) rfl (by kernel_rfl) (by kernel_rfl) (by kernel_rfl) (fun _ _ _ h => h) (Or.inl ⟨by rfl, ?_⟩) hHeld ?_
           rotate_left
           ·
            intro w hSw
            clear hSw
            go_simp
            try with_reducible rfl
           try simp only [Act.put, sA, sZ, sS]
           refine wpAnyH_take (i := 25) (oi := { dst := some 109, op := Op.move (Operand.tmp 1), type := 23, pos := "outright.go:55", after := #[{ on := 24, ground := Ground.guard }], guard := some (24, true) }) (v := ?_) rfl (by kernel_rfl) (by kernel_rfl) (by kernel_rfl) (fun _ _ _ h => h) (Or.inl ⟨by rfl, ?_⟩) hHeld ?_
           rotate_left
           ·
            intro w hSw
            clear hSw
            go_simp
            try with_reducible rfl
           try simp only [Act.put, sA, sZ, sS]
           refine wpAnyH_take (i := 26) (oi := { dst := some 110, op := Op.move (Operand.tmp 12), type := 3, pos := "outright.go:55", after := #[{ on := 24, ground := Ground.guard }], guard := some (24, true) }) (v := ?_) rfl (by kernel_rfl) (by kernel_rfl) (by kernel_rfl) (fun _ _ _ h => h) (Or.inl ⟨by rfl, ?_⟩) hHeld ?_
           rotate_left
           ·
            intro w hSw
            clear hSw
            go_simp
            try with_reducible rfl
           try simp only [Act.put, sA, sZ, sS]
           refine wpAnyH_take (i := 27) (oi := { dst := some 111, op := Op.binOp BinOp.shr 23 (Operand.tmp 109) (Operand.tmp 110) 3, type := 23, pos := "outright.go:55", after := #[{ on := 25, ground := Ground.data }, { on := 26, ground := Ground.data }, { on := 24, ground := Ground.guard }], guard := some (24, true) }) (v := ?_) rfl (by kernel_rfl) (by kernel_rfl) (by kernel_rfl) (fun _ _ _ h => h) (Or.inl ⟨by rfl, ?_⟩) hHeld ?_
           rotate_left
           ·
            intro w hSw
            clear hSw
            go_simp
            try with_reducible rfl
           try simp only [Act.put, sA, sZ, sS]
           refine wpAnyH_take (i := 28) (oi := { dst := some 112, op := Op.binOp BinOp.and 23 (Operand.tmp 111) (Operand.const (Value.int IntKind.u64 1)) 23, type := 23, pos := "outright.go:55", after := #[{ on := 27, ground := Ground.data }, { on := 24, ground := Ground.guard }], guard := some (24, true) }) (v := ?_) rfl (by kernel_rfl) (by kernel_rfl) (by kernel_rfl) (fun _ _ _ h => h) (Or.inl ⟨by rfl, ?_⟩) hHeld ?_
           rotate_left
           ·
            intro w hSw
            clear hSw
            go_simp
            try with_reducible rfl
           try simp only [Act.put, sA, sZ, sS]
           refine wpAnyH_take (i := 29) (oi := { dst := some 113, op := Op.binOp BinOp.eql 23 (Operand.tmp 112) (Operand.const (Value.int IntKind.u64 1)) 23, type := 4, pos := "outright.go:55", after := #[{ on := 28, ground := Ground.data }, { on := 24, ground := Ground.guard }], guard := some (24, true) }) (v := ?_) rfl (by kernel_rfl) (by kernel_rfl) (by kernel_rfl) (fun _ _ _ h => h) (Or.inl ⟨by rfl, ?_⟩) hHeld ?_
           rotate_left
           ·
            intro w hSw
            clear hSw
            go_simp
            try with_reducible rfl
           try simp only [Act.put, sA, sZ, sS]
           refine wpAnyH_take (i := 30) (oi := { dst := some 114, op := Op.move (Operand.tmp 113), type := 4, pos := "outright.go:55", after := #[{ on := 29, ground := Ground.data }, { on := 24, ground := Ground.chain }, { on := 24, ground := Ground.guard }], guard := some (24, true) }) (v := ?_) rfl (by kernel_rfl) (by kernel_rfl) (by kernel_rfl) (fun _ _ _ h => h) (Or.inl ⟨by rfl, ?_⟩) hHeld ?_
           rotate_left
           ·
            intro w hSw
            clear hSw
            go_simp
            try with_reducible rfl
           try simp only [Act.put, sA, sZ, sS]
           refine wpAnyH_take (i := 31) (oi := { dst := some 115, op := Op.move (Operand.tmp 0), type := 22, pos := "outright.go:55", after := #[{ on := 30, ground := Ground.guard }], guard := some (30, false) }) (v := ?_) rfl (by kernel_rfl) (by kernel_rfl) (by kernel_rfl) (fun _ _ _ h => h) (Or.inl ⟨by rfl, ?_⟩) hHeld ?_
           rotate_left
           ·
            intro w hSw
            clear hSw
            go_simp
            try with_reducible rfl
           try simp only [Act.put, sA, sZ, sS]
           refine wpAnyH_take (i := 32) (oi := { dst := some 116, op := Op.move (Operand.tmp 12), type := 3, pos := "outright.go:55", after := #[{ on := 30, ground := Ground.guard }], guard := some (30, false) }) (v := ?_) rfl (by kernel_rfl) (by kernel_rfl) (by kernel_rfl) (fun _ _ _ h => h) (Or.inl ⟨by rfl, ?_⟩) hHeld ?_
           rotate_left
           ·
            intro w hSw
            clear hSw
            go_simp
            try with_reducible rfl
           try simp only [Act.put, sA, sZ, sS]
           refine wpAnyH_take (i := 33) (oi := { dst := some 117, op := Op.indexAddr 22 (Operand.tmp 115) (Operand.tmp 116), type := 0, pos := "outright.go:55", after := #[{ on := 31, ground := Ground.data }, { on := 32, ground := Ground.data }, { on := 30, ground := Ground.guard }], guard := some (30, false) }) (v := ?_) rfl (by kernel_rfl) (by kernel_rfl) (by kernel_rfl) (fun _ _ _ h => h) (Or.inl ⟨by rfl, ?_⟩) hHeld ?_
           rotate_left
           ·
            intro w hSw
            clear hSw
            go_simp
            try with_reducible rfl
           try simp only [Act.put, sA, sZ, sS]
           refine wpAnyH_take (i := 34) (oi := { dst := some 118, op := Op.load 32 (Operand.tmp 117), type := 32, pos := "outright.go:55", after := #[{ on := 33, ground := Ground.data }, { on := 30, ground := Ground.guard }], guard := some (30, false) }) (v := ?_) rfl (by kernel_rfl) (by kernel_rfl) (by kernel_rfl) (fun _ _ _ h => h) (Or.inl ⟨by rfl, ?_⟩) hHeld ?_
           rotate_left
           ·
            intro w hSw
            obtain ⟨c0, c1, c2, c3, c4, c5⟩ := HROWI.out w (HBy.out.trans (hSw.mono HBy.out.size))
            obtain ⟨d0, d1, d2, d3, d4, d5⟩ := HROWK.out w (HBy.out.trans (hSw.mono HBy.out.size))
            go_simp
            try with_reducible rfl
           try simp only [Act.put, sA, sZ, sS]
           refine wpAnyH_ready (rs := [35]) (by kernel_rfl) (by simp) ?_
           refine AllReadyH.cons (o := { dst := some 119, op := Op.call { callee := Callee.value (Operand.func 12), args := #[Operand.tmp 118], argTypes := #[32] }, type := 33, pos := "outright.go:55", after := #[{ on := 34, ground := Ground.data }, { on := 30, ground := Ground.chain }, { on := 30, ground := Ground.guard }], guard := some (30, false) }) rfl (fun K hK => ?_) AllReadyH.nil
           go_simp
           refine (HNCK.out _).mono ?_
           rintro e w5 ⟨rfl, hw5⟩
           refine hK.out _ _ (hHeld.trans (hw5.mono hHeld.size)) (fun hHeld => ?_)
           clear hK K
           try simp only [Act.put, sA, sZ, sS]
           refine wpAnyH_take (i := 36) (oi := { dst := some 120, op := Op.binOp BinOp.eql 33 (Operand.tmp 119) (Operand.const (Value.int IntKind.i64 0)) 33, type := 4, pos := "outright.go:55", after := #[{ on := 35, ground := Ground.data }, { on := 30, ground := Ground.guard }], guard := some (30, false) }) (v := ?_) rfl (by kernel_rfl) (by kernel_rfl) (by kernel_rfl) (fun _ _ _ h => h) (Or.inl ⟨by rfl, ?_⟩) hHeld ?_
           rotate_left
           ·
            intro w hSw
            clear hSw
            go_simp
            try with_reducible rfl
           try simp only [Act.put, sA, sZ, sS]
           refine wpAnyH_take (i := 37) (oi := { dst := some 121, op := Op.pick (Operand.tmp 114) (Operand.const (Value.bool true)) (Operand.tmp 120), type := 4, pos := "outright.go:55", after := #[{ on := 30, ground := Ground.data }, { on := 36, ground := Ground.data }, { on := 24, ground := Ground.guard }], guard := some (24, true) }) (v := ?_) rfl (by kernel_rfl) (by kernel_rfl) (by kernel_rfl) (fun _ _ _ h => h) (Or.inl ⟨by rfl, ?_⟩) hHeld ?_
           rotate_left
           ·
            intro w hSw
            clear hSw
            go_simp
            try with_reducible rfl
           try simp only [Act.put, sA, sZ, sS]
           refine wpAnyH_take (i := 38) (oi := { dst := some 122, op := Op.pick (Operand.tmp 108) (Operand.tmp 121) (Operand.const (Value.bool false)), type := 4, pos := "outright.go:55", after := #[{ on := 24, ground := Ground.data }, { on := 37, ground := Ground.data }], guard := none }) (v := ?_) rfl (by kernel_rfl) (by kernel_rfl) (by kernel_rfl) (fun _ _ _ h => h) (Or.inl ⟨by rfl, ?_⟩) hHeld ?_
           rotate_left
           ·
            intro w hSw
            clear hSw
            go_simp
            try with_reducible rfl
           try simp only [Act.put, sA, sZ, sS]
           refine wpAnyH_done (by kernel_rfl) ?_ _
           go_upto_region 20 with fail
           refine rb_name fun Z2 hZ2 => ?_
           have hbZ : Below wy.heap.size wy Z2 := by rw [hZ2]; exact hHeld
           have HR2 := Lib.hid (HRy.out.below hbZ)
           have HB2 : Hid (Below w.heap.size w Z2) := HBy.out.trans (hbZ.mono HBy.out.size)
           clear hZ2 hbZ hHeld
           go_wp2_with fail
           exact ⟨⟨k, k + 1, rfl, by go_num, by omega, by omega, by omega, LastQ.yes (by omega) HY.out ⟨HYX.out, .inr HM2.out⟩, HR2.out, HB2.out⟩, by simp [intOf]; omega⟩
          ·
           have HM2 := Lib.hid hm
           have HNCK : Hid (∀ W, Calls Try.prog 12 #[.agg #[.int .i64 y.fam, .int .u64 y.rd, .string y.addr, .int .i64 y.len, .int .u32 (y.id : Nat), .int .u32 (yl : Nat)]] W fun e w' => e = .returned (.int .i64 2) ∧ Below W.heap.size W w') := fun W => by
            have h := ncheck_any (nlk y yl) (nlk_ok HYOK.out.k HYOK.out.label) W
            unfold nlC at h
            rw [if_neg HM2.out] at h
            exact h
           clear hm
           go_upto_region 21 with fail
           refine wp_region_held_drew (S := fun w' => Below wy.heap.size wy w') (by kernel_rfl) (below_drewN (Below.refl _ _) 1) (fun hHeld => ?_)
           refine wpAnyH_take (i := 0) (oi := { dst := some 84, op := Op.move (Operand.tmp 0), type := 22, pos := "outright.go:55", after := #[], guard := none }) (v := ?_) rfl (by kernel_rfl) (by kernel_rfl) (by kernel_rfl) (fun _ _ _ h => h) (Or.inl ⟨by rfl, ?_⟩) hHeld ?_
           rotate_left
           ·
            intro w hSw
            clear hSw
            go_simp
            try with_reducible rfl
           try simp only [Act.put, sA, sZ, sS]
           refine wpAnyH_take (i := 1) (oi := { dst := some 85, op := Op.move (Operand.tmp 12), type := 3, pos := "outright.go:55", after := #[], guard := none }) (v := ?_) rfl (by kernel_rfl) (by kernel_rfl) (by kernel_rfl) (fun _ _ _ h => h) (Or.inl ⟨by rfl, ?_⟩) hHeld ?_
           rotate_left
           ·
            intro w hSw
            clear hSw
            go_simp
            try with_reducible rfl
           try simp only [Act.put, sA, sZ, sS]
           refine wpAnyH_take (i := 2) (oi := { dst := some 86, op := Op.indexAddr 22 (Operand.tmp 84) (Operand.tmp 85), type := 0, pos := "outright.go:55", after := #[{ on := 0, ground := Ground.data }, { on := 1, ground := Ground.data }], guard := none }) (v := ?_) rfl (by kernel_rfl) (by kernel_rfl) (by kernel_rfl) (fun _ _ _ h => h) (Or.inl ⟨by rfl, ?_⟩) hHeld ?_
           rotate_left
           ·
            intro w hSw
            clear hSw
            go_simp
            try with_reducible rfl
           try simp only [Act.put, sA, sZ, sS]
           refine wpAnyH_take (i := 3) (oi := { dst := some 87, op := Op.fieldAddr 32 (Operand.tmp 86) 0, type := 0, pos := "outright.go:55", after := #[{ on := 2, ground := Ground.data }], guard := none }) (v := ?_) rfl (by kernel_rfl) (by kernel_rfl) (by kernel_rfl) (fun _ _ _ h => h) (Or.inl ⟨by rfl, ?_⟩) hHeld ?_
           rotate_left
           ·
            intro w hSw
            clear hSw
            go_simp
            try with_reducible rfl
           try simp only [Act.put, sA, sZ, sS]
           refine wpAnyH_take (i := 4) (oi := { dst := some 88, op := Op.load 29 (Operand.tmp 87), type := 29, pos := "outright.go:55", after := #[{ on := 3, ground := Ground.data }], guard := none }) (v := ?_) rfl (by kernel_rfl) (by kernel_rfl) (by kernel_rfl) (fun _ _ _ h => h) (Or.inl ⟨by rfl, ?_⟩) hHeld ?_
           rotate_left
           ·
            intro w hSw
            obtain ⟨c0, c1, c2, c3, c4, c5⟩ := HROWI.out w (HBy.out.trans (hSw.mono HBy.out.size))
            obtain ⟨d0, d1, d2, d3, d4, d5⟩ := HROWK.out w (HBy.out.trans (hSw.mono HBy.out.size))
            go_simp
            try with_reducible rfl
           try simp only [Act.put, sA, sZ, sS]
           refine wpAnyH_take (i := 5) (oi := { dst := some 89, op := Op.move (Operand.tmp 0), type := 22, pos := "outright.go:55", after := #[], guard := none }) (v := ?_) rfl (by kernel_rfl) (by kernel_rfl) (by kernel_rfl) (fun _ _ _ h => h) (Or.inl ⟨by rfl, ?_⟩) hHeld ?_
           rotate_left
           ·
            intro w hSw
            clear hSw
            go_simp
            try with_reducible rfl
           try simp only [Act.put, sA, sZ, sS]
           refine wpAnyH_take (i := 6) (oi := { dst := some 90, op := Op.move (Operand.tmp 10), type := 3, pos := "outright.go:55", after := #[], guard := none }) (v := ?_) rfl (by kernel_rfl) (by kernel_rfl) (by kernel_rfl) (fun _ _ _ h => h) (Or.inl ⟨by rfl, ?_⟩) hHeld ?_
           rotate_left
           ·
            intro w hSw
            clear hSw
            go_simp
            try with_reducible rfl
           try simp only [Act.put, sA, sZ, sS]
           refine wpAnyH_take (i := 7) (oi := { dst := some 91, op := Op.indexAddr 22 (Operand.tmp 89) (Operand.tmp 90), type := 0, pos := "outright.go:55", after := #[{ on := 5, ground := Ground.data }, { on := 6, ground := Ground.data }], guard := none }) (v := ?_) rfl (by kernel_rfl) (by kernel_rfl) (by kernel_rfl) (fun _ _ _ h => h) (Or.inl ⟨by rfl, ?_⟩) hHeld ?_
           rotate_left
           ·
            intro w hSw
            clear hSw
            go_simp
            try with_reducible rfl
           try simp only [Act.put, sA, sZ, sS]
           refine wpAnyH_take (i := 8) (oi := { dst := some 92, op := Op.fieldAddr 32 (Operand.tmp 91) 0, type := 0, pos := "outright.go:55", after := #[{ on := 7, ground := Ground.data }], guard := none }) (v := ?_) rfl (by kernel_rfl) (by kernel_rfl) (by kernel_rfl) (fun _ _ _ h => h) (Or.inl ⟨by rfl, ?_⟩) hHeld ?_
           rotate_left
           ·
            intro w hSw
            clear hSw
            go_simp
            try with_reducible rfl
           try simp only [Act.put, sA, sZ, sS]
           refine wpAnyH_take (i := 9) (oi := { dst := some 93, op := Op.load 29 (Operand.tmp 92), type := 29, pos := "outright.go:55", after := #[{ on := 8, ground := Ground.data }], guard := none }) (v := ?_) rfl (by kernel_rfl) (by kernel_rfl) (by kernel_rfl) (fun _ _ _ h => h) (Or.inl ⟨by rfl, ?_⟩) hHeld ?_
           rotate_left
           ·
            intro w hSw
            obtain ⟨c0, c1, c2, c3, c4, c5⟩ := HROWI.out w (HBy.out.trans (hSw.mono HBy.out.size))
            obtain ⟨d0, d1, d2, d3, d4, d5⟩ := HROWK.out w (HBy.out.trans (hSw.mono HBy.out.size))
            go_simp
            try with_reducible rfl
           try simp only [Act.put, sA, sZ, sS]
           refine wpAnyH_take (i := 10) (oi := { dst := some 94, op := Op.binOp BinOp.eql 29 (Operand.tmp 88) (Operand.tmp 93) 29, type := 4, pos := "outright.go:55", after := #[{ on := 4, ground := Ground.data }, { on := 9, ground := Ground.data }], guard := none }) (v := .bool true) rfl (by kernel_rfl) (by kernel_rfl) (by kernel_rfl) (fun _ _ _ h => h) (Or.inl ⟨by rfl, ?_⟩) hHeld ?_
           ·
            intro w hSw
            clear hSw
            go_simp
            all_goals first | exact ⟨HPF.out.1, HPF.out.2.1, by rw [HPF.out.2.2.1], HPF.out.2.2.2⟩ | (rw [HPF.out.1, HPF.out.2.1, HPF.out.2.2.1, HPF.out.2.2.2]; simp) | simp [HPF.out.1, HPF.out.2.1, HPF.out.2.2.1, HPF.out.2.2.2]
           try simp only [Act.put, sA, sZ, sS]
           refine wpAnyH_take (i := 11) (oi := { dst := some 95, op := Op.move (Operand.tmp 94), type := 4, pos := "outright.go:55", after := #[{ on := 10, ground := Ground.data }], guard := none }) (v := ?_) rfl (by kernel_rfl) (by kernel_rfl) (by kernel_rfl) (fun _ _ _ h => h) (Or.inl ⟨by rfl, ?_⟩) hHeld ?_
           rotate_left
           ·
            intro w hSw
            clear hSw
            go_simp
            try with_reducible rfl
           try simp only [Act.put, sA, sZ, sS]
           refine wpAnyH_take (i := 12) (oi := { dst := some 96, op := Op.move (Operand.tmp 0), type := 22, pos := "outright.go:55", after := #[{ on := 11, ground := Ground.guard }], guard := some (11, true) }) (v := ?_) rfl (by kernel_rfl) (by kernel_rfl) (by kernel_rfl) (fun _ _ _ h => h) (Or.inl ⟨by rfl, ?_⟩) hHeld ?_
           rotate_left
           ·
            intro w hSw
            clear hSw
            go_simp
            try with_reducible rfl
           try simp only [Act.put, sA, sZ, sS]
           refine wpAnyH_take (i := 13) (oi := { dst := some 97, op := Op.move (Operand.tmp 12), type := 3, pos := "outright.go:55", after := #[{ on := 11, ground := Ground.guard }], guard := some (11, true) }) (v := ?_) rfl (by kernel_rfl) (by kernel_rfl) (by kernel_rfl) (fun _ _ _ h => h) (Or.inl ⟨by rfl, ?_⟩) hHeld ?_
           rotate_left
           ·
            intro w hSw
            clear hSw
            go_simp
            try with_reducible rfl
           try simp only [Act.put, sA, sZ, sS]
           refine wpAnyH_take (i := 14) (oi := { dst := some 98, op := Op.indexAddr 22 (Operand.tmp 96) (Operand.tmp 97), type := 0, pos := "outright.go:55", after := #[{ on := 12, ground := Ground.data }, { on := 13, ground := Ground.data }, { on := 11, ground := Ground.guard }], guard := some (11, true) }) (v := ?_) rfl (by kernel_rfl) (by kernel_rfl) (by kernel_rfl) (fun _ _ _ h => h) (Or.inl ⟨by rfl, ?_⟩) hHeld ?_
           rotate_left
           ·
            intro w hSw
            clear hSw
            go_simp
            try with_reducible rfl
           try simp only [Act.put, sA, sZ, sS]
           refine wpAnyH_take (i := 15) (oi := { dst := some 99, op := Op.fieldAddr 32 (Operand.tmp 98) 1, type := 0, pos := "outright.go:55", after := #[{ on := 14, ground := Ground.data }, { on := 11, ground := Ground.guard }], guard := some (11, true) }) (v := ?_) rfl (by kernel_rfl) (by kernel_rfl) (by kernel_rfl) (fun _ _ _ h => h) (Or.inl ⟨by rfl, ?_⟩) hHeld ?_
           rotate_left
           ·
            intro w hSw
            clear hSw
            go_simp
            try with_reducible rfl
           try simp only [Act.put, sA, sZ, sS]
           refine wpAnyH_take (i := 16) (oi := { dst := some 100, op := Op.load 30 (Operand.tmp 99), type := 30, pos := "outright.go:55", after := #[{ on := 15, ground := Ground.data }, { on := 11, ground := Ground.guard }], guard := some (11, true) }) (v := ?_) rfl (by kernel_rfl) (by kernel_rfl) (by kernel_rfl) (fun _ _ _ h => h) (Or.inl ⟨by rfl, ?_⟩) hHeld ?_
           rotate_left
           ·
            intro w hSw
            obtain ⟨c0, c1, c2, c3, c4, c5⟩ := HROWI.out w (HBy.out.trans (hSw.mono HBy.out.size))
            obtain ⟨d0, d1, d2, d3, d4, d5⟩ := HROWK.out w (HBy.out.trans (hSw.mono HBy.out.size))
            go_simp
            try with_reducible rfl
           try simp only [Act.put, sA, sZ, sS]
           refine wpAnyH_take (i := 17) (oi := { dst := some 101, op := Op.move (Operand.tmp 0), type := 22, pos := "outright.go:55", after := #[{ on := 11, ground := Ground.guard }], guard := some (11, true) }) (v := ?_) rfl (by kernel_rfl) (by kernel_rfl) (by kernel_rfl) (fun _ _ _ h => h) (Or.inl ⟨by rfl, ?_⟩) hHeld ?_
           rotate_left
           ·
            intro w hSw
            clear hSw
            go_simp
            try with_reducible rfl
           try simp only [Act.put, sA, sZ, sS]
           refine wpAnyH_take (i := 18) (oi := { dst := some 102, op := Op.move (Operand.tmp 10), type := 3, pos := "outright.go:55", after := #[{ on := 11, ground := Ground.guard }], guard := some (11, true) }) (v := ?_) rfl (by kernel_rfl) (by kernel_rfl) (by kernel_rfl) (fun _ _ _ h => h) (Or.inl ⟨by rfl, ?_⟩) hHeld ?_
           rotate_left
           ·
            intro w hSw
            clear hSw
            go_simp
            try with_reducible rfl
           try simp only [Act.put, sA, sZ, sS]
           refine wpAnyH_take (i := 19) (oi := { dst := some 103, op := Op.indexAddr 22 (Operand.tmp 101) (Operand.tmp 102), type := 0, pos := "outright.go:55", after := #[{ on := 17, ground := Ground.data }, { on := 18, ground := Ground.data }, { on := 11, ground := Ground.guard }], guard := some (11, true) }) (v := ?_) rfl (by kernel_rfl) (by kernel_rfl) (by kernel_rfl) (fun _ _ _ h => h) (Or.inl ⟨by rfl, ?_⟩) hHeld ?_
           rotate_left
           ·
            intro w hSw
            clear hSw
            go_simp
            try with_reducible rfl
           try simp only [Act.put, sA, sZ, sS]
           refine wpAnyH_take (i := 20) (oi := { dst := some 104, op := Op.fieldAddr 32 (Operand.tmp 103) 1, type := 0, pos := "outright.go:55", after := #[{ on := 19, ground := Ground.data }, { on := 11, ground := Ground.guard }], guard := some (11, true) }) (v := ?_) rfl (by kernel_rfl) (by kernel_rfl) (by kernel_rfl) (fun _ _ _ h => h) (Or.inl ⟨by rfl, ?_⟩) hHeld ?_
           rotate_left
           ·
            intro w hSw
            clear hSw
            go_simp
            try with_reducible rfl
           try simp only [Act.put, sA, sZ, sS]
           refine wpAnyH_take (i := 21) (oi := { dst := some 105, op := Op.load 30 (Operand.tmp 104), type := 30, pos := "outright.go:55", after := #[{ on := 20, ground := Ground.data }, { on := 11, ground := Ground.guard }], guard := some (11, true) }) (v := ?_) rfl (by kernel_rfl) (by kernel_rfl) (by kernel_rfl) (fun _ _ _ h => h) (Or.inl ⟨by rfl, ?_⟩) hHeld ?_
           rotate_left
           ·
            intro w hSw
            obtain ⟨c0, c1, c2, c3, c4, c5⟩ := HROWI.out w (HBy.out.trans (hSw.mono HBy.out.size))
            obtain ⟨d0, d1, d2, d3, d4, d5⟩ := HROWK.out w (HBy.out.trans (hSw.mono HBy.out.size))
            go_simp
            try with_reducible rfl
           try simp only [Act.put, sA, sZ, sS]
           refine wpAnyH_take (i := 22) (oi := { dst := some 106, op := Op.binOp BinOp.eql 30 (Operand.tmp 100) (Operand.tmp 105) 30, type := 4, pos := "outright.go:55", after := #[{ on := 16, ground := Ground.data }, { on := 21, ground := Ground.data }, { on := 11, ground := Ground.guard }], guard := some (11, true) }) (v := .bool true) rfl (by kernel_rfl) (by kernel_rfl) (by kernel_rfl) (fun _ _ _ h => h) (Or.inl ⟨by rfl, ?_⟩) hHeld ?_
           ·
            intro w hSw
            clear hSw
            go_simp
            all_goals first | exact HID.out | exact congrArg _ HID.out | simp [HID.out]
           try simp only [Act.put, sA, sZ, sS]
           refine wpAnyH_take (i := 23) (oi := { dst := some 107, op := Op.pick (Operand.tmp 95) (Operand.tmp 106) (Operand.const (Value.bool false)), type := 4, pos := "outright.go:55", after := #[{ on := 11, ground := Ground.data }, { on := 22, ground := Ground.data }], guard := none }) (v := ?_) rfl (by kernel_rfl) (by kernel_rfl) (by kernel_rfl) (fun _ _ _ h => h) (Or.inl ⟨by rfl, ?_⟩) hHeld ?_
           rotate_left
           ·
            intro w hSw
            clear hSw
            go_simp
            try with_reducible rfl
           try simp only [Act.put, sA, sZ, sS]
           refine wpAnyH_take (i := 24) (oi := { dst := some 108, op := Op.move (Operand.tmp 107), type := 4, pos := "outright.go:55", after := #[{ on := 23, ground := Ground.data }, { on := 11, ground := Ground.chain }], guard := none }) (v := ?_) rfl (by kernel_rfl) (by kernel_rfl) (by kernel_rfl) (fun _ _ _ h => h) (Or.inl ⟨by rfl, ?_⟩) hHeld ?_
           rotate_left
           ·
            intro w hSw
            clear hSw
            go_simp
            try with_reducible rfl
           try simp only [Act.put, sA, sZ, sS]
           refine wpAnyH_take (i := 25) (oi := { dst := some 109, op := Op.move (Operand.tmp 1), type := 23, pos := "outright.go:55", after := #[{ on := 24, ground := Ground.guard }], guard := some (24, true) }) (v := ?_) rfl (by kernel_rfl) (by kernel_rfl) (by kernel_rfl) (fun _ _ _ h => h) (Or.inl ⟨by rfl, ?_⟩) hHeld ?_
           rotate_left
           ·
            intro w hSw
            clear hSw
            go_simp
            try with_reducible rfl
           try simp only [Act.put, sA, sZ, sS]
           refine wpAnyH_take (i := 26) (oi := { dst := some 110, op := Op.move (Operand.tmp 12), type := 3, pos := "outright.go:55", after := #[{ on := 24, ground := Ground.guard }], guard := some (24, true) }) (v := ?_) rfl (by kernel_rfl) (by kernel_rfl) (by kernel_rfl) (fun _ _ _ h => h) (Or.inl ⟨by rfl, ?_⟩) hHeld ?_
           rotate_left
           ·
            intro w hSw
            clear hSw
            go_simp
            try with_reducible rfl
           try simp only [Act.put, sA, sZ, sS]
           refine wpAnyH_take (i := 27) (oi := { dst := some 111, op := Op.binOp BinOp.shr 23 (Operand.tmp 109) (Operand.tmp 110) 3, type := 23, pos := "outright.go:55", after := #[{ on := 25, ground := Ground.data }, { on := 26, ground := Ground.data }, { on := 24, ground := Ground.guard }], guard := some (24, true) }) (v := ?_) rfl (by kernel_rfl) (by kernel_rfl) (by kernel_rfl) (fun _ _ _ h => h) (Or.inl ⟨by rfl, ?_⟩) hHeld ?_
           rotate_left
           ·
            intro w hSw
            clear hSw
            go_simp
            try with_reducible rfl
           try simp only [Act.put, sA, sZ, sS]
           refine wpAnyH_take (i := 28) (oi := { dst := some 112, op := Op.binOp BinOp.and 23 (Operand.tmp 111) (Operand.const (Value.int IntKind.u64 1)) 23, type := 23, pos := "outright.go:55", after := #[{ on := 27, ground := Ground.data }, { on := 24, ground := Ground.guard }], guard := some (24, true) }) (v := ?_) rfl (by kernel_rfl) (by kernel_rfl) (by kernel_rfl) (fun _ _ _ h => h) (Or.inl ⟨by rfl, ?_⟩) hHeld ?_
           rotate_left
           ·
            intro w hSw
            clear hSw
            go_simp
            try with_reducible rfl
           try simp only [Act.put, sA, sZ, sS]
           refine wpAnyH_take (i := 29) (oi := { dst := some 113, op := Op.binOp BinOp.eql 23 (Operand.tmp 112) (Operand.const (Value.int IntKind.u64 1)) 23, type := 4, pos := "outright.go:55", after := #[{ on := 28, ground := Ground.data }, { on := 24, ground := Ground.guard }], guard := some (24, true) }) (v := ?_) rfl (by kernel_rfl) (by kernel_rfl) (by kernel_rfl) (fun _ _ _ h => h) (Or.inl ⟨by rfl, ?_⟩) hHeld ?_
           rotate_left
           ·
            intro w hSw
            clear hSw
            go_simp
            try with_reducible rfl
           try simp only [Act.put, sA, sZ, sS]
           refine wpAnyH_take (i := 30) (oi := { dst := some 114, op := Op.move (Operand.tmp 113), type := 4, pos := "outright.go:55", after := #[{ on := 29, ground := Ground.data }, { on := 24, ground := Ground.chain }, { on := 24, ground := Ground.guard }], guard := some (24, true) }) (v := ?_) rfl (by kernel_rfl) (by kernel_rfl) (by kernel_rfl) (fun _ _ _ h => h) (Or.inl ⟨by rfl, ?_⟩) hHeld ?_
           rotate_left
           ·
            intro w hSw
            clear hSw
            go_simp
            try with_reducible rfl
           try simp only [Act.put, sA, sZ, sS]
           refine wpAnyH_take (i := 31) (oi := { dst := some 115, op := Op.move (Operand.tmp 0), type := 22, pos := "outright.go:55", after := #[{ on := 30, ground := Ground.guard }], guard := some (30, false) }) (v := ?_) rfl (by kernel_rfl) (by kernel_rfl) (by kernel_rfl) (fun _ _ _ h => h) (Or.inl ⟨by rfl, ?_⟩) hHeld ?_
           rotate_left
           ·
            intro w hSw
            clear hSw
            go_simp
            try with_reducible rfl
           try simp only [Act.put, sA, sZ, sS]
           refine wpAnyH_take (i := 32) (oi := { dst := some 116, op := Op.move (Operand.tmp 12), type := 3, pos := "outright.go:55", after := #[{ on := 30, ground := Ground.guard }], guard := some (30, false) }) (v := ?_) rfl (by kernel_rfl) (by kernel_rfl) (by kernel_rfl) (fun _ _ _ h => h) (Or.inl ⟨by rfl, ?_⟩) hHeld ?_
           rotate_left
           ·
            intro w hSw
            clear hSw
            go_simp
            try with_reducible rfl
           try simp only [Act.put, sA, sZ, sS]
           refine wpAnyH_take (i := 33) (oi := { dst := some 117, op := Op.indexAddr 22 (Operand.tmp 115) (Operand.tmp 116), type := 0, pos := "outright.go:55", after := #[{ on := 31, ground := Ground.data }, { on := 32, ground := Ground.data }, { on := 30, ground := Ground.guard }], guard := some (30, false) }) (v := ?_) rfl (by kernel_rfl) (by kernel_rfl) (by kernel_rfl) (fun _ _ _ h => h) (Or.inl ⟨by rfl, ?_⟩) hHeld ?_
           rotate_left
           ·
            intro w hSw
            clear hSw
            go_simp
            try with_reducible rfl
           try simp only [Act.put, sA, sZ, sS]
           refine wpAnyH_take (i := 34) (oi := { dst := some 118, op := Op.load 32 (Operand.tmp 117), type := 32, pos := "outright.go:55", after := #[{ on := 33, ground := Ground.data }, { on := 30, ground := Ground.guard }], guard := some (30, false) }) (v := ?_) rfl (by kernel_rfl) (by kernel_rfl) (by kernel_rfl) (fun _ _ _ h => h) (Or.inl ⟨by rfl, ?_⟩) hHeld ?_
           rotate_left
           ·
            intro w hSw
            obtain ⟨c0, c1, c2, c3, c4, c5⟩ := HROWI.out w (HBy.out.trans (hSw.mono HBy.out.size))
            obtain ⟨d0, d1, d2, d3, d4, d5⟩ := HROWK.out w (HBy.out.trans (hSw.mono HBy.out.size))
            go_simp
            try with_reducible rfl
           try simp only [Act.put, sA, sZ, sS]
           refine wpAnyH_ready (rs := [35]) (by kernel_rfl) (by simp) ?_
           refine AllReadyH.cons (o := { dst := some 119, op := Op.call { callee := Callee.value (Operand.func 12), args := #[Operand.tmp 118], argTypes := #[32] }, type := 33, pos := "outright.go:55", after := #[{ on := 34, ground := Ground.data }, { on := 30, ground := Ground.chain }, { on := 30, ground := Ground.guard }], guard := some (30, false) }) rfl (fun K hK => ?_) AllReadyH.nil
           go_simp
           refine (HNCK.out _).mono ?_
           rintro e w5 ⟨rfl, hw5⟩
           refine hK.out _ _ (hHeld.trans (hw5.mono hHeld.size)) (fun hHeld => ?_)
           clear hK K
           try simp only [Act.put, sA, sZ, sS]
           refine wpAnyH_take (i := 36) (oi := { dst := some 120, op := Op.binOp BinOp.eql 33 (Operand.tmp 119) (Operand.const (Value.int IntKind.i64 0)) 33, type := 4, pos := "outright.go:55", after := #[{ on := 35, ground := Ground.data }, { on := 30, ground := Ground.guard }], guard := some (30, false) }) (v := ?_) rfl (by kernel_rfl) (by kernel_rfl) (by kernel_rfl) (fun _ _ _ h => h) (Or.inl ⟨by rfl, ?_⟩) hHeld ?_
           rotate_left
           ·
            intro w hSw
            clear hSw
            go_simp
            try with_reducible rfl
           try simp only [Act.put, sA, sZ, sS]
           refine wpAnyH_take (i := 37) (oi := { dst := some 121, op := Op.pick (Operand.tmp 114) (Operand.const (Value.bool true)) (Operand.tmp 120), type := 4, pos := "outright.go:55", after := #[{ on := 30, ground := Ground.data }, { on := 36, ground := Ground.data }, { on := 24, ground := Ground.guard }], guard := some (24, true) }) (v := ?_) rfl (by kernel_rfl) (by kernel_rfl) (by kernel_rfl) (fun _ _ _ h => h) (Or.inl ⟨by rfl, ?_⟩) hHeld ?_
           rotate_left
           ·
            intro w hSw
            clear hSw
            go_simp
            try with_reducible rfl
           try simp only [Act.put, sA, sZ, sS]
           refine wpAnyH_take (i := 38) (oi := { dst := some 122, op := Op.pick (Operand.tmp 108) (Operand.tmp 121) (Operand.const (Value.bool false)), type := 4, pos := "outright.go:55", after := #[{ on := 24, ground := Ground.data }, { on := 37, ground := Ground.data }], guard := none }) (v := ?_) rfl (by kernel_rfl) (by kernel_rfl) (by kernel_rfl) (fun _ _ _ h => h) (Or.inl ⟨by rfl, ?_⟩) hHeld ?_
           rotate_left
           ·
            intro w hSw
            clear hSw
            go_simp
            try with_reducible rfl
           try simp only [Act.put, sA, sZ, sS]
           refine wpAnyH_done (by kernel_rfl) ?_ _
           go_upto_region 20 with fail
           refine rb_name fun Z2 hZ2 => ?_
           have hbZ : Below wy.heap.size wy Z2 := by rw [hZ2]; exact hHeld
           have HR2 := Lib.hid (HRy.out.below hbZ)
           have HB2 : Hid (Below w.heap.size w Z2) := HBy.out.trans (hbZ.mono HBy.out.size)
           clear hZ2 hbZ hHeld
           go_wp2_with fail
           exact ⟨⟨la, k + 1, rfl, by go_num, by omega, by omega, by omega, HLQ.out.no HY.out (fun h => h.2.elim (fun h2 => by rw [HG.out] at h2; cases h2) HM2.out), HR2.out, HB2.out⟩, by simp [intOf]; omega⟩
        ·
         have HID := Lib.hid hid
         clear hpf hid
         go_upto_region 21 with fail
         refine wp_region_held_drew (S := fun w' => Below wy.heap.size wy w') (by kernel_rfl) (below_drewN (Below.refl _ _) 1) (fun hHeld => ?_)
         refine wpAnyH_take (i := 0) (oi := { dst := some 84, op := Op.move (Operand.tmp 0), type := 22, pos := "outright.go:55", after := #[], guard := none }) (v := ?_) rfl (by kernel_rfl) (by kernel_rfl) (by kernel_rfl) (fun _ _ _ h => h) (Or.inl ⟨by rfl, ?_⟩) hHeld ?_
         rotate_left
         ·
          intro w hSw
          clear hSw
          go_simp
          try with_reducible rfl
         try simp only [Act.put, sA, sZ, sS]
         refine wpAnyH_take (i := 1) (oi := { dst := some 85, op := Op.move (Operand.tmp 12), type := 3, pos := "outright.go:55", after := #[], guard := none }) (v := ?_) rfl (by kernel_rfl) (by kernel_rfl) (by kernel_rfl) (fun _ _ _ h => h) (Or.inl ⟨by rfl, ?_⟩) hHeld ?_
         rotate_left
         ·
          intro w hSw
          clear hSw
          go_simp
          try with_reducible rfl
         try simp only [Act.put, sA, sZ, sS]
         refine wpAnyH_take (i := 2) (oi := { dst := some 86, op := Op.indexAddr 22 (Operand.tmp 84) (Operand.tmp 85), type := 0, pos := "outright.go:55", after := #[{ on := 0, ground := Ground.data }, { on := 1, ground := Ground.data }], guard := none }) (v := ?_) rfl (by kernel_rfl) (by kernel_rfl) (by kernel_rfl) (fun _ _ _ h => h) (Or.inl ⟨by rfl, ?_⟩) hHeld ?_
         rotate_left
         ·
          intro w hSw
          clear hSw
          go_simp
          try with_reducible rfl
         try simp only [Act.put, sA, sZ, sS]
         refine wpAnyH_take (i := 3) (oi := { dst := some 87, op := Op.fieldAddr 32 (Operand.tmp 86) 0, type := 0, pos := "outright.go:55", after := #[{ on := 2, ground := Ground.data }], guard := none }) (v := ?_) rfl (by kernel_rfl) (by kernel_rfl) (by kernel_rfl) (fun _ _ _ h => h) (Or.inl ⟨by rfl, ?_⟩) hHeld ?_
         rotate_left
         ·
          intro w hSw
          clear hSw
          go_simp
          try with_reducible rfl
         try simp only [Act.put, sA, sZ, sS]
         refine wpAnyH_take (i := 4) (oi := { dst := some 88, op := Op.load 29 (Operand.tmp 87), type := 29, pos := "outright.go:55", after := #[{ on := 3, ground := Ground.data }], guard := none }) (v := ?_) rfl (by kernel_rfl) (by kernel_rfl) (by kernel_rfl) (fun _ _ _ h => h) (Or.inl ⟨by rfl, ?_⟩) hHeld ?_
         rotate_left
         ·
          intro w hSw
          obtain ⟨c0, c1, c2, c3, c4, c5⟩ := HROWI.out w (HBy.out.trans (hSw.mono HBy.out.size))
          obtain ⟨d0, d1, d2, d3, d4, d5⟩ := HROWK.out w (HBy.out.trans (hSw.mono HBy.out.size))
          go_simp
          try with_reducible rfl
         try simp only [Act.put, sA, sZ, sS]
         refine wpAnyH_take (i := 5) (oi := { dst := some 89, op := Op.move (Operand.tmp 0), type := 22, pos := "outright.go:55", after := #[], guard := none }) (v := ?_) rfl (by kernel_rfl) (by kernel_rfl) (by kernel_rfl) (fun _ _ _ h => h) (Or.inl ⟨by rfl, ?_⟩) hHeld ?_
         rotate_left
         ·
          intro w hSw
          clear hSw
          go_simp
          try with_reducible rfl
         try simp only [Act.put, sA, sZ, sS]
         refine wpAnyH_take (i := 6) (oi := { dst := some 90, op := Op.move (Operand.tmp 10), type := 3, pos := "outright.go:55", after := #[], guard := none }) (v := ?_) rfl (by kernel_rfl) (by kernel_rfl) (by kernel_rfl) (fun _ _ _ h => h) (Or.inl ⟨by rfl, ?_⟩) hHeld ?_
         rotate_left
         ·
          intro w hSw
          clear hSw
          go_simp
          try with_reducible rfl
         try simp only [Act.put, sA, sZ, sS]
         refine wpAnyH_take (i := 7) (oi := { dst := some 91, op := Op.indexAddr 22 (Operand.tmp 89) (Operand.tmp 90), type := 0, pos := "outright.go:55", after := #[{ on := 5, ground := Ground.data }, { on := 6, ground := Ground.data }], guard := none }) (v := ?_) rfl (by kernel_rfl) (by kernel_rfl) (by kernel_rfl) (fun _ _ _ h => h) (Or.inl ⟨by rfl, ?_⟩) hHeld ?_
         rotate_left
         ·
          intro w hSw
          clear hSw
          go_simp
          try with_reducible rfl
         try simp only [Act.put, sA, sZ, sS]
         refine wpAnyH_take (i := 8) (oi := { dst := some 92, op := Op.fieldAddr 32 (Operand.tmp 91) 0, type := 0, pos := "outright.go:55", after := #[{ on := 7, ground := Ground.data }], guard := none }) (v := ?_) rfl (by kernel_rfl) (by kernel_rfl) (by kernel_rfl) (fun _ _ _ h => h) (Or.inl ⟨by rfl, ?_⟩) hHeld ?_
         rotate_left
         ·
          intro w hSw
          clear hSw
          go_simp
          try with_reducible rfl
         try simp only [Act.put, sA, sZ, sS]
         refine wpAnyH_take (i := 9) (oi := { dst := some 93, op := Op.load 29 (Operand.tmp 92), type := 29, pos := "outright.go:55", after := #[{ on := 8, ground := Ground.data }], guard := none }) (v := ?_) rfl (by kernel_rfl) (by kernel_rfl) (by kernel_rfl) (fun _ _ _ h => h) (Or.inl ⟨by rfl, ?_⟩) hHeld ?_
         rotate_left
         ·
          intro w hSw
          obtain ⟨c0, c1, c2, c3, c4, c5⟩ := HROWI.out w (HBy.out.trans (hSw.mono HBy.out.size))
          obtain ⟨d0, d1, d2, d3, d4, d5⟩ := HROWK.out w (HBy.out.trans (hSw.mono HBy.out.size))
          go_simp
          try with_reducible rfl
         try simp only [Act.put, sA, sZ, sS]
         refine wpAnyH_take (i := 10) (oi := { dst := some 94, op := Op.binOp BinOp.eql 29 (Operand.tmp 88) (Operand.tmp 93) 29, type := 4, pos := "outright.go:55", after := #[{ on := 4, ground := Ground.data }, { on := 9, ground := Ground.data }], guard := none }) (v := .bool true) rfl (by kernel_rfl) (by kernel_rfl) (by kernel_rfl) (fun _ _ _ h => h) (Or.inl ⟨by rfl, ?_⟩) hHeld ?_
         ·
          intro w hSw
          clear hSw
          go_simp
          all_goals first | exact ⟨HPF.out.1, HPF.out.2.1, by rw [HPF.out.2.2.1], HPF.out.2.2.2⟩ | (rw [HPF.out.1, HPF.out.2.1, HPF.out.2.2.1, HPF.out.2.2.2]; simp) | simp [HPF.out.1, HPF.out.2.1, HPF.out.2.2.1, HPF.out.2.2.2]
         try simp only [Act.put, sA, sZ, sS]
         refine wpAnyH_take (i := 11) (oi := { dst := some 95, op := Op.move (Operand.tmp 94), type := 4, pos := "outright.go:55", after := #[{ on := 10, ground := Ground.data }], guard := none }) (v := ?_) rfl (by kernel_rfl) (by kernel_rfl) (by kernel_rfl) (fun _ _ _ h => h) (Or.inl ⟨by rfl, ?_⟩) hHeld ?_
         rotate_left
         ·
          intro w hSw
          clear hSw
          go_simp
          try with_reducible rfl
         try simp only [Act.put, sA, sZ, sS]
         refine wpAnyH_take (i := 12) (oi := { dst := some 96, op := Op.move (Operand.tmp 0), type := 22, pos := "outright.go:55", after := #[{ on := 11, ground := Ground.guard }], guard := some (11, true) }) (v := ?_) rfl (by kernel_rfl) (by kernel_rfl) (by kernel_rfl) (fun _ _ _ h => h) (Or.inl ⟨by rfl, ?_⟩) hHeld ?_
         rotate_left
         ·
          intro w hSw
          clear hSw
          go_simp
          try with_reducible rfl
         try simp only [Act.put, sA, sZ, sS]
         refine wpAnyH_take (i := 13) (oi := { dst := some 97, op := Op.move (Operand.tmp 12), type := 3, pos := "outright.go:55", after := #[{ on := 11, ground := Ground.guard }], guard := some (11, true) }) (v := ?_) rfl (by kernel_rfl) (by kernel_rfl) (by kernel_rfl) (fun _ _ _ h => h) (Or.inl ⟨by rfl, ?_⟩) hHeld ?_
         rotate_left
         ·
          intro w hSw
          clear hSw
          go_simp
          try with_reducible rfl
         try simp only [Act.put, sA, sZ, sS]
         refine wpAnyH_take (i := 14) (oi := { dst := some 98, op := Op.indexAddr 22 (Operand.tmp 96) (Operand.tmp 97), type := 0, pos := "outright.go:55", after := #[{ on := 12, ground := Ground.data }, { on := 13, ground := Ground.data }, { on := 11, ground := Ground.guard }], guard := some (11, true) }) (v := ?_) rfl (by kernel_rfl) (by kernel_rfl) (by kernel_rfl) (fun _ _ _ h => h) (Or.inl ⟨by rfl, ?_⟩) hHeld ?_
         rotate_left
         ·
          intro w hSw
          clear hSw
          go_simp
          try with_reducible rfl
         try simp only [Act.put, sA, sZ, sS]
         refine wpAnyH_take (i := 15) (oi := { dst := some 99, op := Op.fieldAddr 32 (Operand.tmp 98) 1, type := 0, pos := "outright.go:55", after := #[{ on := 14, ground := Ground.data }, { on := 11, ground := Ground.guard }], guard := some (11, true) }) (v := ?_) rfl (by kernel_rfl) (by kernel_rfl) (by kernel_rfl) (fun _ _ _ h => h) (Or.inl ⟨by rfl, ?_⟩) hHeld ?_
         rotate_left
         ·
          intro w hSw
          clear hSw
          go_simp
          try with_reducible rfl
         try simp only [Act.put, sA, sZ, sS]
         refine wpAnyH_take (i := 16) (oi := { dst := some 100, op := Op.load 30 (Operand.tmp 99), type := 30, pos := "outright.go:55", after := #[{ on := 15, ground := Ground.data }, { on := 11, ground := Ground.guard }], guard := some (11, true) }) (v := ?_) rfl (by kernel_rfl) (by kernel_rfl) (by kernel_rfl) (fun _ _ _ h => h) (Or.inl ⟨by rfl, ?_⟩) hHeld ?_
         rotate_left
         ·
          intro w hSw
          obtain ⟨c0, c1, c2, c3, c4, c5⟩ := HROWI.out w (HBy.out.trans (hSw.mono HBy.out.size))
          obtain ⟨d0, d1, d2, d3, d4, d5⟩ := HROWK.out w (HBy.out.trans (hSw.mono HBy.out.size))
          go_simp
          try with_reducible rfl
         try simp only [Act.put, sA, sZ, sS]
         refine wpAnyH_take (i := 17) (oi := { dst := some 101, op := Op.move (Operand.tmp 0), type := 22, pos := "outright.go:55", after := #[{ on := 11, ground := Ground.guard }], guard := some (11, true) }) (v := ?_) rfl (by kernel_rfl) (by kernel_rfl) (by kernel_rfl) (fun _ _ _ h => h) (Or.inl ⟨by rfl, ?_⟩) hHeld ?_
         rotate_left
         ·
          intro w hSw
          clear hSw
          go_simp
          try with_reducible rfl
         try simp only [Act.put, sA, sZ, sS]
         refine wpAnyH_take (i := 18) (oi := { dst := some 102, op := Op.move (Operand.tmp 10), type := 3, pos := "outright.go:55", after := #[{ on := 11, ground := Ground.guard }], guard := some (11, true) }) (v := ?_) rfl (by kernel_rfl) (by kernel_rfl) (by kernel_rfl) (fun _ _ _ h => h) (Or.inl ⟨by rfl, ?_⟩) hHeld ?_
         rotate_left
         ·
          intro w hSw
          clear hSw
          go_simp
          try with_reducible rfl
         try simp only [Act.put, sA, sZ, sS]
         refine wpAnyH_take (i := 19) (oi := { dst := some 103, op := Op.indexAddr 22 (Operand.tmp 101) (Operand.tmp 102), type := 0, pos := "outright.go:55", after := #[{ on := 17, ground := Ground.data }, { on := 18, ground := Ground.data }, { on := 11, ground := Ground.guard }], guard := some (11, true) }) (v := ?_) rfl (by kernel_rfl) (by kernel_rfl) (by kernel_rfl) (fun _ _ _ h => h) (Or.inl ⟨by rfl, ?_⟩) hHeld ?_
         rotate_left
         ·
          intro w hSw
          clear hSw
          go_simp
          try with_reducible rfl
         try simp only [Act.put, sA, sZ, sS]
         refine wpAnyH_take (i := 20) (oi := { dst := some 104, op := Op.fieldAddr 32 (Operand.tmp 103) 1, type := 0, pos := "outright.go:55", after := #[{ on := 19, ground := Ground.data }, { on := 11, ground := Ground.guard }], guard := some (11, true) }) (v := ?_) rfl (by kernel_rfl) (by kernel_rfl) (by kernel_rfl) (fun _ _ _ h => h) (Or.inl ⟨by rfl, ?_⟩) hHeld ?_
         rotate_left
         ·
          intro w hSw
          clear hSw
          go_simp
          try with_reducible rfl
         try simp only [Act.put, sA, sZ, sS]
         refine wpAnyH_take (i := 21) (oi := { dst := some 105, op := Op.load 30 (Operand.tmp 104), type := 30, pos := "outright.go:55", after := #[{ on := 20, ground := Ground.data }, { on := 11, ground := Ground.guard }], guard := some (11, true) }) (v := ?_) rfl (by kernel_rfl) (by kernel_rfl) (by kernel_rfl) (fun _ _ _ h => h) (Or.inl ⟨by rfl, ?_⟩) hHeld ?_
         rotate_left
         ·
          intro w hSw
          obtain ⟨c0, c1, c2, c3, c4, c5⟩ := HROWI.out w (HBy.out.trans (hSw.mono HBy.out.size))
          obtain ⟨d0, d1, d2, d3, d4, d5⟩ := HROWK.out w (HBy.out.trans (hSw.mono HBy.out.size))
          go_simp
          try with_reducible rfl
         try simp only [Act.put, sA, sZ, sS]
         refine wpAnyH_take (i := 22) (oi := { dst := some 106, op := Op.binOp BinOp.eql 30 (Operand.tmp 100) (Operand.tmp 105) 30, type := 4, pos := "outright.go:55", after := #[{ on := 16, ground := Ground.data }, { on := 21, ground := Ground.data }, { on := 11, ground := Ground.guard }], guard := some (11, true) }) (v := .bool false) rfl (by kernel_rfl) (by kernel_rfl) (by kernel_rfl) (fun _ _ _ h => h) (Or.inl ⟨by rfl, ?_⟩) hHeld ?_
         ·
          intro w hSw
          clear hSw
          go_simp
          all_goals first | exact HID.out | (intro h; exact HID.out (by omega)) | simp [HID.out]
         try simp only [Act.put, sA, sZ, sS]
         refine wpAnyH_take (i := 23) (oi := { dst := some 107, op := Op.pick (Operand.tmp 95) (Operand.tmp 106) (Operand.const (Value.bool false)), type := 4, pos := "outright.go:55", after := #[{ on := 11, ground := Ground.data }, { on := 22, ground := Ground.data }], guard := none }) (v := ?_) rfl (by kernel_rfl) (by kernel_rfl) (by kernel_rfl) (fun _ _ _ h => h) (Or.inl ⟨by rfl, ?_⟩) hHeld ?_
         rotate_left
         ·
          intro w hSw
          clear hSw
          go_simp
          try with_reducible rfl
         try simp only [Act.put, sA, sZ, sS]
         refine wpAnyH_take (i := 24) (oi := { dst := some 108, op := Op.move (Operand.tmp 107), type := 4, pos := "outright.go:55", after := #[{ on := 23, ground := Ground.data }, { on := 11, ground := Ground.chain }], guard := none }) (v := ?_) rfl (by kernel_rfl) (by kernel_rfl) (by kernel_rfl) (fun _ _ _ h => h) (Or.inl ⟨by rfl, ?_⟩) hHeld ?_
         rotate_left
         ·
          intro w hSw
          clear hSw
          go_simp
          try with_reducible rfl
         try simp only [Act.put, sA, sZ, sS]
         refine wpAnyH_take (i := 25) (oi := { dst := some 109, op := Op.move (Operand.tmp 1), type := 23, pos := "outright.go:55", after := #[{ on := 24, ground := Ground.guard }], guard := some (24, true) }) (v := undef) rfl (by kernel_rfl) (by kernel_rfl) (by kernel_rfl) (fun _ _ _ h => h) (Or.inr ⟨by rfl, rfl⟩) hHeld ?_
         try simp only [Act.put, sA, sZ, sS]
         refine wpAnyH_take (i := 26) (oi := { dst := some 110, op := Op.move (Operand.tmp 12), type := 3, pos := "outright.go:55", after := #[{ on := 24, ground := Ground.guard }], guard := some (24, true) }) (v := undef) rfl (by kernel_rfl) (by kernel_rfl) (by kernel_rfl) (fun _ _ _ h => h) (Or.inr ⟨by rfl, rfl⟩) hHeld ?_
         try simp only [Act.put, sA, sZ, sS]
         refine wpAnyH_take (i := 27) (oi := { dst := some 111, op := Op.binOp BinOp.shr 23 (Operand.tmp 109) (Operand.tmp 110) 3, type := 23, pos := "outright.go:55", after := #[{ on := 25, ground := Ground.data }, { on := 26, ground := Ground.data }, { on := 24, ground := Ground.guard }], guard := some (24, true) }) (v := undef) rfl (by kernel_rfl) (by kernel_rfl) (by kernel_rfl) (fun _ _ _ h => h) (Or.inr ⟨by rfl, rfl⟩) hHeld ?_
         try simp only [Act.put, sA, sZ, sS]
         refine wpAnyH_take (i := 28) (oi := { dst := some 112, op := Op.binOp BinOp.and 23 (Operand.tmp 111) (Operand.const (Value.int IntKind.u64 1)) 23, type := 23, pos := "outright.go:55", after := #[{ on := 27, ground := Ground.data }, { on := 24, ground := Ground.guard }], guard := some (24, true) }) (v := undef) rfl (by kernel_rfl) (by kernel_rfl) (by kernel_rfl) (fun _ _ _ h => h) (Or.inr ⟨by rfl, rfl⟩) hHeld ?_
         try simp only [Act.put, sA, sZ, sS]
         refine wpAnyH_take (i := 29) (oi := { dst := some 113, op := Op.binOp BinOp.eql 23 (Operand.tmp 112) (Operand.const (Value.int IntKind.u64 1)) 23, type := 4, pos := "outright.go:55", after := #[{ on := 28, ground := Ground.data }, { on := 24, ground := Ground.guard }], guard := some (24, true) }) (v := undef) rfl (by kernel_rfl) (by kernel_rfl) (by kernel_rfl) (fun _ _ _ h => h) (Or.inr ⟨by rfl, rfl⟩) hHeld ?_
         try simp only [Act.put, sA, sZ, sS]
         refine wpAnyH_take (i := 30) (oi := { dst := some 114, op := Op.move (Operand.tmp 113), type := 4, pos := "outright.go:55", after := #[{ on := 29, ground := Ground.data }, { on := 24, ground := Ground.chain }, { on := 24, ground := Ground.guard }], guard := some (24, true) }) (v := undef) rfl (by kernel_rfl) (by kernel_rfl) (by kernel_rfl) (fun _ _ _ h => h) (Or.inr ⟨by rfl, rfl⟩) hHeld ?_
         try simp only [Act.put, sA, sZ, sS]
         refine wpAnyH_take (i := 31) (oi := { dst := some 115, op := Op.move (Operand.tmp 0), type := 22, pos := "outright.go:55", after := #[{ on := 30, ground := Ground.guard }], guard := some (30, false) }) (v := undef) rfl (by kernel_rfl) (by kernel_rfl) (by kernel_rfl) (fun _ _ _ h => h) (Or.inr ⟨by rfl, rfl⟩) hHeld ?_
         try simp only [Act.put, sA, sZ, sS]
         refine wpAnyH_take (i := 32) (oi := { dst := some 116, op := Op.move (Operand.tmp 12), type := 3, pos := "outright.go:55", after := #[{ on := 30, ground := Ground.guard }], guard := some (30, false) }) (v := undef) rfl (by kernel_rfl) (by kernel_rfl) (by kernel_rfl) (fun _ _ _ h => h) (Or.inr ⟨by rfl, rfl⟩) hHeld ?_
         try simp only [Act.put, sA, sZ, sS]
         refine wpAnyH_take (i := 33) (oi := { dst := some 117, op := Op.indexAddr 22 (Operand.tmp 115) (Operand.tmp 116), type := 0, pos := "outright.go:55", after := #[{ on := 31, ground := Ground.data }, { on := 32, ground := Ground.data }, { on := 30, ground := Ground.guard }], guard := some (30, false) }) (v := undef) rfl (by kernel_rfl) (by kernel_rfl) (by kernel_rfl) (fun _ _ _ h => h) (Or.inr ⟨by rfl, rfl⟩) hHeld ?_
         try simp only [Act.put, sA, sZ, sS]
         refine wpAnyH_take (i := 34) (oi := { dst := some 118, op := Op.load 32 (Operand.tmp 117), type := 32, pos := "outright.go:55", after := #[{ on := 33, ground := Ground.data }, { on := 30, ground := Ground.guard }], guard := some (30, false) }) (v := undef) rfl (by kernel_rfl) (by kernel_rfl) (by kernel_rfl) (fun _ _ _ h => h) (Or.inr ⟨by rfl, rfl⟩) hHeld ?_
         try simp only [Act.put, sA, sZ, sS]
         refine wpAnyH_take (i := 35) (oi := { dst := some 119, op := Op.call { callee := Callee.value (Operand.func 12), args := #[Operand.tmp 118], argTypes := #[32] }, type := 33, pos := "outright.go:55", after := #[{ on := 34, ground := Ground.data }, { on := 30, ground := Ground.chain }, { on := 30, ground := Ground.guard }], guard := some (30, false) }) (v := undef) rfl (by kernel_rfl) (by kernel_rfl) (by kernel_rfl) (fun _ _ _ h => h) (Or.inr ⟨by rfl, rfl⟩) hHeld ?_
         try simp only [Act.put, sA, sZ, sS]
         refine wpAnyH_take (i := 36) (oi := { dst := some 120, op := Op.binOp BinOp.eql 33 (Operand.tmp 119) (Operand.const (Value.int IntKind.i64 0)) 33, type := 4, pos := "outright.go:55", after := #[{ on := 35, ground := Ground.data }, { on := 30, ground := Ground.guard }], guard := some (30, false) }) (v := undef) rfl (by kernel_rfl) (by kernel_rfl) (by kernel_rfl) (fun _ _ _ h => h) (Or.inr ⟨by rfl, rfl⟩) hHeld ?_
         try simp only [Act.put, sA, sZ, sS]
         refine wpAnyH_take (i := 37) (oi := { dst := some 121, op := Op.pick (Operand.tmp 114) (Operand.const (Value.bool true)) (Operand.tmp 120), type := 4, pos := "outright.go:55", after := #[{ on := 30, ground := Ground.data }, { on := 36, ground := Ground.data }, { on := 24, ground := Ground.guard }], guard := some (24, true) }) (v := undef) rfl (by kernel_rfl) (by kernel_rfl) (by kernel_rfl) (fun _ _ _ h => h) (Or.inr ⟨by rfl, rfl⟩) hHeld ?_
         try simp only [Act.put, sA, sZ, sS]
         refine wpAnyH_take (i := 38) (oi := { dst := some 122, op := Op.pick (Operand.tmp 108) (Operand.tmp 121) (Operand.const (Value.bool false)), type := 4, pos := "outright.go:55", after := #[{ on := 24, ground := Ground.data }, { on := 37, ground := Ground.data }], guard := none }) (v := ?_) rfl (by kernel_rfl) (by kernel_rfl) (by kernel_rfl) (fun _ _ _ h => h) (Or.inl ⟨by rfl, ?_⟩) hHeld ?_
         rotate_left
         ·
          intro w hSw
          clear hSw
          go_simp
          try with_reducible rfl
         try simp only [Act.put, sA, sZ, sS]
         refine wpAnyH_done (by kernel_rfl) ?_ _
         go_upto_region 20 with fail
         refine rb_name fun Z2 hZ2 => ?_
         have hbZ : Below wy.heap.size wy Z2 := by rw [hZ2]; exact hHeld
         have HR2 := Lib.hid (HRy.out.below hbZ)
         have HB2 : Hid (Below w.heap.size w Z2) := HBy.out.trans (hbZ.mono HBy.out.size)
         clear hZ2 hbZ hHeld
         go_wp2_with fail
         exact ⟨⟨la, k + 1, rfl, by go_num, by omega, by omega, by omega, HLQ.out.no HY.out (fun h => HID.out (by have h1 : y = x := h.1; rw [h1])), HR2.out, HB2.out⟩, by simp [intOf]; omega⟩
       ·
        have HPF := Lib.hid hpf
        clear hpf
        go_upto_region 21 with fail
        refine wp_region_held_drew (S := fun w' => Below wy.heap.size wy w') (by kernel_rfl) (below_drewN (Below.refl _ _) 1) (fun hHeld => ?_)
        refine wpAnyH_take (i := 0) (oi := { dst := some 84, op := Op.move (Operand.tmp 0), type := 22, pos := "outright.go:55", after := #[], guard := none }) (v := ?_) rfl (by kernel_rfl) (by kernel_rfl) (by kernel_rfl) (fun _ _ _ h => h) (Or.inl ⟨by rfl, ?_⟩) hHeld ?_
        rotate_left
        ·
         intro w hSw
         clear hSw
         go_simp
         try with_reducible rfl
        try simp only [Act.put, sA, sZ, sS]
        refine wpAnyH_take (i := 1) (oi := { dst := some 85, op := Op.move (Operand.tmp 12), type := 3, pos := "outright.go:55", after := #[], guard := none }) (v := ?_) rfl (by kernel_rfl) (by kernel_rfl) (by kernel_rfl) (fun _ _ _ h => h) (Or.inl ⟨by rfl, ?_⟩) hHeld ?_
        rotate_left
        ·
         intro w hSw
         clear hSw
         go_simp
         try with_reducible rfl
        try simp only [Act.put, sA, sZ, sS]
        refine wpAnyH_take (i := 2) (oi := { dst := some 86, op := Op.indexAddr 22 (Operand.tmp 84) (Operand.tmp 85), type := 0, pos := "outright.go:55", after := #[{ on := 0, ground := Ground.data }, { on := 1, ground := Ground.data }], guard := none }) (v := ?_) rfl (by kernel_rfl) (by kernel_rfl) (by kernel_rfl) (fun _ _ _ h => h) (Or.inl ⟨by rfl, ?_⟩) hHeld ?_
        rotate_left
        ·
         intro w hSw
         clear hSw
         go_simp
         try with_reducible rfl
        try simp only [Act.put, sA, sZ, sS]
        refine wpAnyH_take (i := 3) (oi := { dst := some 87, op := Op.fieldAddr 32 (Operand.tmp 86) 0, type := 0, pos := "outright.go:55", after := #[{ on := 2, ground := Ground.data }], guard := none }) (v := ?_) rfl (by kernel_rfl) (by kernel_rfl) (by kernel_rfl) (fun _ _ _ h => h) (Or.inl ⟨by rfl, ?_⟩) hHeld ?_
        rotate_left
        ·
         intro w hSw
         clear hSw
         go_simp
         try with_reducible rfl
        try simp only [Act.put, sA, sZ, sS]
        refine wpAnyH_take (i := 4) (oi := { dst := some 88, op := Op.load 29 (Operand.tmp 87), type := 29, pos := "outright.go:55", after := #[{ on := 3, ground := Ground.data }], guard := none }) (v := ?_) rfl (by kernel_rfl) (by kernel_rfl) (by kernel_rfl) (fun _ _ _ h => h) (Or.inl ⟨by rfl, ?_⟩) hHeld ?_
        rotate_left
        ·
         intro w hSw
         obtain ⟨c0, c1, c2, c3, c4, c5⟩ := HROWI.out w (HBy.out.trans (hSw.mono HBy.out.size))
         obtain ⟨d0, d1, d2, d3, d4, d5⟩ := HROWK.out w (HBy.out.trans (hSw.mono HBy.out.size))
         go_simp
         try with_reducible rfl
        try simp only [Act.put, sA, sZ, sS]
        refine wpAnyH_take (i := 5) (oi := { dst := some 89, op := Op.move (Operand.tmp 0), type := 22, pos := "outright.go:55", after := #[], guard := none }) (v := ?_) rfl (by kernel_rfl) (by kernel_rfl) (by kernel_rfl) (fun _ _ _ h => h) (Or.inl ⟨by rfl, ?_⟩) hHeld ?_
        rotate_left
        ·
         intro w hSw
         clear hSw
         go_simp
         try with_reducible rfl
        try simp only [Act.put, sA, sZ, sS]
        refine wpAnyH_take (i := 6) (oi := { dst := some 90, op := Op.move (Operand.tmp 10), type := 3, pos := "outright.go:55", after := #[], guard := none }) (v := ?_) rfl (by kernel_rfl) (by kernel_rfl) (by kernel_rfl) (fun _ _ _ h => h) (Or.inl ⟨by rfl, ?_⟩) hHeld ?_
        rotate_left
        ·
         intro w hSw
         clear hSw
         go_simp
         try with_reducible rfl
        try simp only [Act.put, sA, sZ, sS]
        refine wpAnyH_take (i := 7) (oi := { dst := some 91, op := Op.indexAddr 22 (Operand.tmp 89) (Operand.tmp 90), type := 0, pos := "outright.go:55", after := #[{ on := 5, ground := Ground.data }, { on := 6, ground := Ground.data }], guard := none }) (v := ?_) rfl (by kernel_rfl) (by kernel_rfl) (by kernel_rfl) (fun _ _ _ h => h) (Or.inl ⟨by rfl, ?_⟩) hHeld ?_
        rotate_left
        ·
         intro w hSw
         clear hSw
         go_simp
         try with_reducible rfl
        try simp only [Act.put, sA, sZ, sS]
        refine wpAnyH_take (i := 8) (oi := { dst := some 92, op := Op.fieldAddr 32 (Operand.tmp 91) 0, type := 0, pos := "outright.go:55", after := #[{ on := 7, ground := Ground.data }], guard := none }) (v := ?_) rfl (by kernel_rfl) (by kernel_rfl) (by kernel_rfl) (fun _ _ _ h => h) (Or.inl ⟨by rfl, ?_⟩) hHeld ?_
        rotate_left
        ·
         intro w hSw
         clear hSw
         go_simp
         try with_reducible rfl
        try simp only [Act.put, sA, sZ, sS]
        refine wpAnyH_take (i := 9) (oi := { dst := some 93, op := Op.load 29 (Operand.tmp 92), type := 29, pos := "outright.go:55", after := #[{ on := 8, ground := Ground.data }], guard := none }) (v := ?_) rfl (by kernel_rfl) (by kernel_rfl) (by kernel_rfl) (fun _ _ _ h => h) (Or.inl ⟨by rfl, ?_⟩) hHeld ?_
        rotate_left
        ·
         intro w hSw
         obtain ⟨c0, c1, c2, c3, c4, c5⟩ := HROWI.out w (HBy.out.trans (hSw.mono HBy.out.size))
         obtain ⟨d0, d1, d2, d3, d4, d5⟩ := HROWK.out w (HBy.out.trans (hSw.mono HBy.out.size))
         go_simp
         try with_reducible rfl
        try simp only [Act.put, sA, sZ, sS]
        refine wpAnyH_take (i := 10) (oi := { dst := some 94, op := Op.binOp BinOp.eql 29 (Operand.tmp 88) (Operand.tmp 93) 29, type := 4, pos := "outright.go:55", after := #[{ on := 4, ground := Ground.data }, { on := 9, ground := Ground.data }], guard := none }) (v := .bool false) rfl (by kernel_rfl) (by kernel_rfl) (by kernel_rfl) (fun _ _ _ h => h) (Or.inl ⟨by rfl, ?_⟩) hHeld ?_
        ·
         intro w hSw
         clear hSw
         go_simp
         exact pk_no HPF.out
        try simp only [Act.put, sA, sZ, sS]
        refine wpAnyH_take (i := 11) (oi := { dst := some 95, op := Op.move (Operand.tmp 94), type := 4, pos := "outright.go:55", after := #[{ on := 10, ground := Ground.data }], guard := none }) (v := ?_) rfl (by kernel_rfl) (by kernel_rfl) (by kernel_rfl) (fun _ _ _ h => h) (Or.inl ⟨by rfl, ?_⟩) hHeld ?_
        rotate_left
        ·
         intro w hSw
         clear hSw
         go_simp
         try with_reducible rfl
        try simp only [Act.put, sA, sZ, sS]
        refine wpAnyH_take (i := 12) (oi := { dst := some 96, op := Op.move (Operand.tmp 0), type := 22, pos := "outright.go:55", after := #[{ on := 11, ground := Ground.guard }], guard := some (11, true) }) (v := undef) rfl (by kernel_rfl) (by kernel_rfl) (by kernel_rfl) (fun _ _ _ h => h) (Or.inr ⟨by rfl, rfl⟩) hHeld ?_
        try simp only [Act.put, sA, sZ, sS]
        refine wpAnyH_take (i := 13) (oi := { dst := some 97, op := Op.move (Operand.tmp 12), type := 3, pos := "outright.go:55", after := #[{ on := 11, ground := Ground.guard }], guard := some (11, true) }) (v := undef) rfl (by kernel_rfl) (by kernel_rfl) (by kernel_rfl) (fun _ _ _ h => h) (Or.inr ⟨by rfl, rfl⟩) hHeld ?_
        try simp only [Act.put, sA, sZ, sS]
        refine wpAnyH_take (i := 14) (oi := { dst := some 98, op := Op.indexAddr 22 (Operand.tmp 96) (Operand.tmp 97), type := 0, pos := "outright.go:55", after := #[{ on := 12, ground := Ground.data }, { on := 13, ground := Ground.data }, { on := 11, ground := Ground.guard }], guard := some (11, true) }) (v := undef) rfl (by kernel_rfl) (by kernel_rfl) (by kernel_rfl) (fun _ _ _ h => h) (Or.inr ⟨by rfl, rfl⟩) hHeld ?_
        try simp only [Act.put, sA, sZ, sS]
        refine wpAnyH_take (i := 15) (oi := { dst := some 99, op := Op.fieldAddr 32 (Operand.tmp 98) 1, type := 0, pos := "outright.go:55", after := #[{ on := 14, ground := Ground.data }, { on := 11, ground := Ground.guard }], guard := some (11, true) }) (v := undef) rfl (by kernel_rfl) (by kernel_rfl) (by kernel_rfl) (fun _ _ _ h => h) (Or.inr ⟨by rfl, rfl⟩) hHeld ?_
        try simp only [Act.put, sA, sZ, sS]
        refine wpAnyH_take (i := 16) (oi := { dst := some 100, op := Op.load 30 (Operand.tmp 99), type := 30, pos := "outright.go:55", after := #[{ on := 15, ground := Ground.data }, { on := 11, ground := Ground.guard }], guard := some (11, true) }) (v := undef) rfl (by kernel_rfl) (by kernel_rfl) (by kernel_rfl) (fun _ _ _ h => h) (Or.inr ⟨by rfl, rfl⟩) hHeld ?_
        try simp only [Act.put, sA, sZ, sS]
        refine wpAnyH_take (i := 17) (oi := { dst := some 101, op := Op.move (Operand.tmp 0), type := 22, pos := "outright.go:55", after := #[{ on := 11, ground := Ground.guard }], guard := some (11, true) }) (v := undef) rfl (by kernel_rfl) (by kernel_rfl) (by kernel_rfl) (fun _ _ _ h => h) (Or.inr ⟨by rfl, rfl⟩) hHeld ?_
        try simp only [Act.put, sA, sZ, sS]
        refine wpAnyH_take (i := 18) (oi := { dst := some 102, op := Op.move (Operand.tmp 10), type := 3, pos := "outright.go:55", after := #[{ on := 11, ground := Ground.guard }], guard := some (11, true) }) (v := undef) rfl (by kernel_rfl) (by kernel_rfl) (by kernel_rfl) (fun _ _ _ h => h) (Or.inr ⟨by rfl, rfl⟩) hHeld ?_
        try simp only [Act.put, sA, sZ, sS]
        refine wpAnyH_take (i := 19) (oi := { dst := some 103, op := Op.indexAddr 22 (Operand.tmp 101) (Operand.tmp 102), type := 0, pos := "outright.go:55", after := #[{ on := 17, ground := Ground.data }, { on := 18, ground := Ground.data }, { on := 11, ground := Ground.guard }], guard := some (11, true) }) (v := undef) rfl (by kernel_rfl) (by kernel_rfl) (by kernel_rfl) (fun _ _ _ h => h) (Or.inr ⟨by rfl, rfl⟩) hHeld ?_
        try simp only [Act.put, sA, sZ, sS]
        refine wpAnyH_take (i := 20) (oi := { dst := some 104, op := Op.fieldAddr 32 (Operand.tmp 103) 1, type := 0, pos := "outright.go:55", after := #[{ on := 19, ground := Ground.data }, { on := 11, ground := Ground.guard }], guard := some (11, true) }) (v := undef) rfl (by kernel_rfl) (by kernel_rfl) (by kernel_rfl) (fun _ _ _ h => h) (Or.inr ⟨by rfl, rfl⟩) hHeld ?_
        try simp only [Act.put, sA, sZ, sS]
        refine wpAnyH_take (i := 21) (oi := { dst := some 105, op := Op.load 30 (Operand.tmp 104), type := 30, pos := "outright.go:55", after := #[{ on := 20, ground := Ground.data }, { on := 11, ground := Ground.guard }], guard := some (11, true) }) (v := undef) rfl (by kernel_rfl) (by kernel_rfl) (by kernel_rfl) (fun _ _ _ h => h) (Or.inr ⟨by rfl, rfl⟩) hHeld ?_
        try simp only [Act.put, sA, sZ, sS]
        refine wpAnyH_take (i := 22) (oi := { dst := some 106, op := Op.binOp BinOp.eql 30 (Operand.tmp 100) (Operand.tmp 105) 30, type := 4, pos := "outright.go:55", after := #[{ on := 16, ground := Ground.data }, { on := 21, ground := Ground.data }, { on := 11, ground := Ground.guard }], guard := some (11, true) }) (v := undef) rfl (by kernel_rfl) (by kernel_rfl) (by kernel_rfl) (fun _ _ _ h => h) (Or.inr ⟨by rfl, rfl⟩) hHeld ?_
        try simp only [Act.put, sA, sZ, sS]
        refine wpAnyH_take (i := 23) (oi := { dst := some 107, op := Op.pick (Operand.tmp 95) (Operand.tmp 106) (Operand.const (Value.bool false)), type := 4, pos := "outright.go:55", after := #[{ on := 11, ground := Ground.data }, { on := 22, ground := Ground.data }], guard := none }) (v := ?_) rfl (by kernel_rfl) (by kernel_rfl) (by kernel_rfl) (fun _ _ _ h => h) (Or.inl ⟨by rfl, ?_⟩) hHeld ?_
        rotate_left
        ·
         intro w hSw
         clear hSw
         go_simp
         try with_reducible rfl
        try simp only [Act.put, sA, sZ, sS]
        refine wpAnyH_take (i := 24) (oi := { dst := some 108, op := Op.move (Operand.tmp 107), type := 4, pos := "outright.go:55", after := #[{ on := 23, ground := Ground.data }, { on := 11, ground := Ground.chain }], guard := none }) (v := ?_) rfl (by kernel_rfl) (by kernel_rfl) (by kernel_rfl) (fun _ _ _ h => h) (Or.inl ⟨by rfl, ?_⟩) hHeld ?_
        rotate_left
        ·
         intro w hSw
         clear hSw
         go_simp
         try with_reducible rfl
        try simp only [Act.put, sA, sZ, sS]
        refine wpAnyH_take (i := 25) (oi := { dst := some 109, op := Op.move (Operand.tmp 1), type := 23, pos := "outright.go:55", after := #[{ on := 24, ground := Ground.guard }], guard := some (24, true) }) (v := undef) rfl (by kernel_rfl) (by kernel_rfl) (by kernel_rfl) (fun _ _ _ h => h) (Or.inr ⟨by rfl, rfl⟩) hHeld ?_
        try simp only [Act.put, sA, sZ, sS]
        refine wpAnyH_take (i := 26) (oi := { dst := some 110, op := Op.move (Operand.tmp 12), type := 3, pos := "outright.go:55", after := #[{ on := 24, ground := Ground.guard }], guard := some (24, true) }) (v := undef) rfl (by kernel_rfl) (by kernel_rfl) (by kernel_rfl) (fun _ _ _ h => h) (Or.inr ⟨by rfl, rfl⟩) hHeld ?_
        try simp only [Act.put, sA, sZ, sS]
        refine wpAnyH_take (i := 27) (oi := { dst := some 111, op := Op.binOp BinOp.shr 23 (Operand.tmp 109) (Operand.tmp 110) 3, type := 23, pos := "outright.go:55", after := #[{ on := 25, ground := Ground.data }, { on := 26, ground := Ground.data }, { on := 24, ground := Ground.guard }], guard := some (24, true) }) (v := undef) rfl (by kernel_rfl) (by kernel_rfl) (by kernel_rfl) (fun _ _ _ h => h) (Or.inr ⟨by rfl, rfl⟩) hHeld ?_
        try simp only [Act.put, sA, sZ, sS]
        refine wpAnyH_take (i := 28) (oi := { dst := some 112, op := Op.binOp BinOp.and 23 (Operand.tmp 111) (Operand.const (Value.int IntKind.u64 1)) 23, type := 23, pos := "outright.go:55", after := #[{ on := 27, ground := Ground.data }, { on := 24, ground := Ground.guard }], guard := some (24, true) }) (v := undef) rfl (by kernel_rfl) (by kernel_rfl) (by kernel_rfl) (fun _ _ _ h => h) (Or.inr ⟨by rfl, rfl⟩) hHeld ?_
        try simp only [Act.put, sA, sZ, sS]
        refine wpAnyH_take (i := 29) (oi := { dst := some 113, op := Op.binOp BinOp.eql 23 (Operand.tmp 112) (Operand.const (Value.int IntKind.u64 1)) 23, type := 4, pos := "outright.go:55", after := #[{ on := 28, ground := Ground.data }, { on := 24, ground := Ground.guard }], guard := some (24, true) }) (v := undef) rfl (by kernel_rfl) (by kernel_rfl) (by kernel_rfl) (fun _ _ _ h => h) (Or.inr ⟨by rfl, rfl⟩) hHeld ?_
        try simp only [Act.put, sA, sZ, sS]
        refine wpAnyH_take (i := 30) (oi := { dst := some 114, op := Op.move (Operand.tmp 113), type := 4, pos := "outright.go:55", after := #[{ on := 29, ground := Ground.data }, { on := 24, ground := Ground.chain }, { on := 24, ground := Ground.guard }], guard := some (24, true) }) (v := undef) rfl (by kernel_rfl) (by kernel_rfl) (by kernel_rfl) (fun _ _ _ h => h) (Or.inr ⟨by rfl, rfl⟩) hHeld ?_
        try simp only [Act.put, sA, sZ, sS]
        refine wpAnyH_take (i := 31) (oi := { dst := some 115, op := Op.move (Operand.tmp 0), type := 22, pos := "outright.go:55", after := #[{ on := 30, ground := Ground.guard }], guard := some (30, false) }) (v := undef) rfl (by kernel_rfl) (by kernel_rfl) (by kernel_rfl) (fun _ _ _ h => h) (Or.inr ⟨by rfl, rfl⟩) hHeld ?_
        try simp only [Act.put, sA, sZ, sS]
        refine wpAnyH_take (i := 32) (oi := { dst := some 116, op := Op.move (Operand.tmp 12), type := 3, pos := "outright.go:55", after := #[{ on := 30, ground := Ground.guard }], guard := some (30, false) }) (v := undef) rfl (by kernel_rfl) (by kernel_rfl) (by kernel_rfl) (fun _ _ _ h => h) (Or.inr ⟨by rfl, rfl⟩) hHeld ?_
        try simp only [Act.put, sA, sZ, sS]
        refine wpAnyH_take (i := 33) (oi := { dst := some 117, op := Op.indexAddr 22 (Operand.tmp 115) (Operand.tmp 116), type := 0, pos := "outright.go:55", after := #[{ on := 31, ground := Ground.data }, { on := 32, ground := Ground.data }, { on := 30, ground := Ground.guard }], guard := some (30, false) }) (v := undef) rfl (by kernel_rfl) (by kernel_rfl) (by kernel_rfl) (fun _ _ _ h => h) (Or.inr ⟨by rfl, rfl⟩) hHeld ?_
        try simp only [Act.put, sA, sZ, sS]
        refine wpAnyH_take (i := 34) (oi := { dst := some 118, op := Op.load 32 (Operand.tmp 117), type := 32, pos := "outright.go:55", after := #[{ on := 33, ground := Ground.data }, { on := 30, ground := Ground.guard }], guard := some (30, false) }) (v := undef) rfl (by kernel_rfl) (by kernel_rfl) (by kernel_rfl) (fun _ _ _ h => h) (Or.inr ⟨by rfl, rfl⟩) hHeld ?_
        try simp only [Act.put, sA, sZ, sS]
        refine wpAnyH_take (i := 35) (oi := { dst := some 119, op := Op.call { callee := Callee.value (Operand.func 12), args := #[Operand.tmp 118], argTypes := #[32] }, type := 33, pos := "outright.go:55", after := #[{ on := 34, ground := Ground.data }, { on := 30, ground := Ground.chain }, { on := 30, ground := Ground.guard }], guard := some (30, false) }) (v := undef) rfl (by kernel_rfl) (by kernel_rfl) (by kernel_rfl) (fun _ _ _ h => h) (Or.inr ⟨by rfl, rfl⟩) hHeld ?_
        try simp only [Act.put, sA, sZ, sS]
        refine wpAnyH_take (i := 36) (oi := { dst := some 120, op := Op.binOp BinOp.eql 33 (Operand.tmp 119) (Operand.const (Value.int IntKind.i64 0)) 33, type := 4, pos := "outright.go:55", after := #[{ on := 35, ground := Ground.data }, { on := 30, ground := Ground.guard }], guard := some (30, false) }) (v := undef) rfl (by kernel_rfl) (by kernel_rfl) (by kernel_rfl) (fun _ _ _ h => h) (Or.inr ⟨by rfl, rfl⟩) hHeld ?_
        try simp only [Act.put, sA, sZ, sS]
        refine wpAnyH_take (i := 37) (oi := { dst := some 121, op := Op.pick (Operand.tmp 114) (Operand.const (Value.bool true)) (Operand.tmp 120), type := 4, pos := "outright.go:55", after := #[{ on := 30, ground := Ground.data }, { on := 36, ground := Ground.data }, { on := 24, ground := Ground.guard }], guard := some (24, true) }) (v := undef) rfl (by kernel_rfl) (by kernel_rfl) (by kernel_rfl) (fun _ _ _ h => h) (Or.inr ⟨by rfl, rfl⟩) hHeld ?_
        try simp only [Act.put, sA, sZ, sS]
        refine wpAnyH_take (i := 38) (oi := { dst := some 122, op := Op.pick (Operand.tmp 108) (Operand.tmp 121) (Operand.const (Value.bool false)), type := 4, pos := "outright.go:55", after := #[{ on := 24, ground := Ground.data }, { on := 37, ground := Ground.data }], guard := none }) (v := ?_) rfl (by kernel_rfl) (by kernel_rfl) (by kernel_rfl) (fun _ _ _ h => h) (Or.inl ⟨by rfl, ?_⟩) hHeld ?_
        rotate_left
        ·
         intro w hSw
         clear hSw
         go_simp
         try with_reducible rfl
        try simp only [Act.put, sA, sZ, sS]
        refine wpAnyH_done (by kernel_rfl) ?_ _
        go_upto_region 20 with fail
        refine rb_name fun Z2 hZ2 => ?_
        have hbZ : Below wy.heap.size wy Z2 := by rw [hZ2]; exact hHeld
        have HR2 := Lib.hid (HRy.out.below hbZ)
        have HB2 : Hid (Below w.heap.size w Z2) := HBy.out.trans (hbZ.mono HBy.out.size)
        clear hZ2 hbZ hHeld
        go_wp2_with fail
        exact ⟨⟨la, k + 1, rfl, by go_num, by omega, by omega, by omega, HLQ.out.no HY.out (fun h => HPF.out (by have h1 : y = x := h.1; rw [h1]; exact ⟨rfl, rfl, rfl, rfl⟩)), HR2.out, HB2.out⟩, by simp [intOf]; omega⟩
      ·
       have hkN : N = k := by omega
       subst hkN
       have HRwy := HRy
       have HBwy := HBy
       clear HRy HBy
       have HGET : Hid (∀ W, RibM W bs b m 0 (runN (goneB g) (nlL L) N) → Calls Try.prog 13 #[.pointer (some ⟨b, 0, none⟩), .agg #[.int .i64 x.fam, .int .u64 x.rd, .string x.addr, .int .i64 x.len], .int .u32 (x.id : Nat)] W fun e w' => (∃ kk l a s, e = .returned (.tuple #[.agg (pathAr kk l a s), .bool (getC (runN (goneB g) (nlL L) N) x).isSome]) ∧ (∀ t, getC (runN (goneB g) (nlL L) N) x = some t → l = t.label ∧ a.c = t.c ∧ s = t.stale) ∧ AtO w' W.heap.size a) ∧ Below W.heap.size W w') := fun W h => rgetW_any h x HKO.out
       obtain ⟨is0, his⟩ : ∃ q, q = (getC (runN (goneB g) (nlL L) N) x).isSome := ⟨_, rfl⟩
       have HIS := Lib.hid his
       rw [← his] at HGET
       clear his
       have HROW : Hid (∀ W, GrownX (fun i => i = m) wy W → W.cell? ⟨b0, off + n * 6, none⟩ = some (.int .i64 x.fam) ∧ W.cell? ⟨b0, off + n * 6 + 1, none⟩ = some (.int .u64 x.rd) ∧ W.cell? ⟨b0, off + n * 6 + 2, none⟩ = some (.string x.addr) ∧ W.cell? ⟨b0, off + n * 6 + 3, none⟩ = some (.int .i64 x.len) ∧ W.cell? ⟨b0, off + n * 6 + 4, none⟩ = some (.int .u32 (x.id : Nat)) ∧ W.cell? ⟨b0, off + n * 6 + 5, none⟩ = some (.int .u32 (xl : Nat))) := fun W hW => HROWI.out W (hW.below HBwy.out (fun i hi => by rw [hi]; exact HM.out) HBwy.out.size)
       go_upto_region 23 with fail
       go_cut [13, 14] (fun v8 v9 wx => ∃ (gq : Nat) (kk : Pk) (l : Nat) (a : Atr) (s : Bool), v8 = .pointer (some ⟨gq, 0, none⟩) ∧ v9 = .bool is0 ∧ Hid (CellsAt wx gq (pathAr kk l a s) 47) ∧ Hid (∀ t, getC (runN (goneB g) (nlL L) N) x = some t → l = t.label ∧ a.c = t.c ∧ s = t.stale) ∧ Hid (RibM wx bs b m 0 (runN (goneB g) (nlL L) N)) ∧ Hid (AtrOk wx a) ∧ Hid (Below w.heap.size w wx))
       case first =>
        as_aux_lemma =>
        refine wp_region_held_drew (S := fun w' => GrownX (fun i => i = m) wy w') (by kernel_rfl) ((GrownX.refl _ _).drew 1) (fun hHeld => ?_)
        refine wpAnyH_take (i := 0) (oi := { dst := some 125, op := Op.move (Operand.tmp 5), type := 25, pos := "outright.go:59", after := #[], guard := none }) (v := ?_) rfl (by kernel_rfl) (by kernel_rfl) (by kernel_rfl) (fun _ _ _ h => h) (Or.inl ⟨by rfl, ?_⟩) hHeld ?_
        rotate_left
        ·
         intro w hSw
         clear hSw
         go_simp
         try with_reducible rfl
        try simp only [Act.put, sA, sZ, sS]
        refine wpAnyH_take (i := 1) (oi := { dst := some 126, op := Op.move (Operand.tmp 0), type := 22, pos := "outright.go:59", after := #[], guard := none }) (v := ?_) rfl (by kernel_rfl) (by kernel_rfl) (by kernel_rfl) (fun _ _ _ h => h) (Or.inl ⟨by rfl, ?_⟩) hHeld ?_
        rotate_left
        ·
         intro w hSw
         clear hSw
         go_simp
         try with_reducible rfl
        try simp only [Act.put, sA, sZ, sS]
        refine wpAnyH_take (i := 2) (oi := { dst := some 127, op := Op.move (Operand.tmp 10), type := 3, pos := "outright.go:59", after := #[], guard := none }) (v := ?_) rfl (by kernel_rfl) (by kernel_rfl) (by kernel_rfl) (fun _ _ _ h => h) (Or.inl ⟨by rfl, ?_⟩) hHeld ?_
        rotate_left
        ·
         intro w hSw
         clear hSw
         go_simp
         try with_reducible rfl
        try simp only [Act.put, sA, sZ, sS]
        refine wpAnyH_take (i := 3) (oi := { dst := some 128, op := Op.indexAddr 22 (Operand.tmp 126) (Operand.tmp 127), type := 0, pos := "outright.go:59", after := #[{ on := 1, ground := Ground.data }, { on := 2, ground := Ground.data }], guard := none }) (v := ?_) rfl (by kernel_rfl) (by kernel_rfl) (by kernel_rfl) (fun _ _ _ h => h) (Or.inl ⟨by rfl, ?_⟩) hHeld ?_
        rotate_left
        ·
         intro w hSw
         clear hSw
         go_simp
         try with_reducible rfl
        try simp only [Act.put, sA, sZ, sS]
        refine wpAnyH_take (i := 4) (oi := { dst := some 129, op := Op.fieldAddr 32 (Operand.tmp 128) 0, type := 0, pos := "outright.go:59", after := #[{ on := 3, ground := Ground.data }], guard := none }) (v := ?_) rfl (by kernel_rfl) (by kernel_rfl) (by kernel_rfl) (fun _ _ _ h => h) (Or.inl ⟨by rfl, ?_⟩) hHeld ?_
        rotate_left
        ·
         intro w hSw
         clear hSw
         go_simp
         try with_reducible rfl
        try simp only [Act.put, sA, sZ, sS]
        refine wpAnyH_take (i := 5) (oi := { dst := some 130, op := Op.load 29 (Operand.tmp 129), type := 29, pos := "outright.go:59", after := #[{ on := 4, ground := Ground.data }], guard := none }) (v := ?_) rfl (by kernel_rfl) (by kernel_rfl) (by kernel_rfl) (fun _ _ _ h => h) (Or.inl ⟨by rfl, ?_⟩) hHeld ?_
        rotate_left
        ·
         intro w hSw
         obtain ⟨c0, c1, c2, c3, c4, c5⟩ := HROW.out w hSw
         go_simp
         try with_reducible rfl
        try simp only [Act.put, sA, sZ, sS]
        refine wpAnyH_take (i := 6) (oi := { dst := some 131, op := Op.move (Operand.tmp 0), type := 22, pos := "outright.go:59", after := #[], guard := none }) (v := ?_) rfl (by kernel_rfl) (by kernel_rfl) (by kernel_rfl) (fun _ _ _ h => h) (Or.inl ⟨by rfl, ?_⟩) hHeld ?_
        rotate_left
        ·
         intro w hSw
         clear hSw
         go_simp
         try with_reducible rfl
        try simp only [Act.put, sA, sZ, sS]
        refine wpAnyH_take (i := 7) (oi := { dst := some 132, op := Op.move (Operand.tmp 10), type := 3, pos := "outright.go:59", after := #[], guard := none }) (v := ?_) rfl (by kernel_rfl) (by kernel_rfl) (by kernel_rfl) (fun _ _ _ h => h) (Or.inl ⟨by rfl, ?_⟩) hHeld ?_
        rotate_left
        ·
         intro w hSw
         clear hSw
         go_simp
         try with_reducible rfl
        try simp only [Act.put, sA, sZ, sS]
        refine wpAnyH_take (i := 8) (oi := { dst := some 133, op := Op.indexAddr 22 (Operand.tmp 131) (Operand.tmp 132), type := 0, pos := "outright.go:59", after := #[{ on := 6, ground := Ground.data }, { on := 7, ground := Ground.data }], guard := none }) (v := ?_) rfl (by kernel_rfl) (by kernel_rfl) (by kernel_rfl) (fun _ _ _ h => h) (Or.inl ⟨by rfl, ?_⟩) hHeld ?_
        rotate_left
        ·
         intro w hSw
         clear hSw
         go_simp
         try with_reducible rfl
        try simp only [Act.put, sA, sZ, sS]
        refine wpAnyH_take (i := 9) (oi := { dst := some 134, op := Op.fieldAddr 32 (Operand.tmp 133) 1, type := 0, pos := "outright.go:59", after := #[{ on := 8, ground := Ground.data }], guard := none }) (v := ?_) rfl (by kernel_rfl) (by kernel_rfl) (by kernel_rfl) (fun _ _ _ h => h) (Or.inl ⟨by rfl, ?_⟩) hHeld ?_
        rotate_left
        ·
         intro w hSw
         clear hSw
         go_simp
         try with_reducible rfl
        try simp only [Act.put, sA, sZ, sS]
        refine wpAnyH_take (i := 10) (oi := { dst := some 135, op := Op.load 30 (Operand.tmp 134), type := 30, pos := "outright.go:59", after := #[{ on := 9, ground := Ground.data }], guard := none }) (v := ?_) rfl (by kernel_rfl) (by kernel_rfl) (by kernel_rfl) (fun _ _ _ h => h) (Or.inl ⟨by rfl, ?_⟩) hHeld ?_
        rotate_left
        ·
         intro w hSw
         obtain ⟨c0, c1, c2, c3, c4, c5⟩ := HROW.out w hSw
         go_simp
         try with_reducible rfl
        try simp only [Act.put, sA, sZ, sS]
        refine wpAnyH_ready (rs := [11, 15]) (by kernel_rfl) (by simp) ?_
        refine AllReadyH.cons (o := { dst := some 136, op := Op.call { callee := Callee.value (Operand.func 13), args := #[Operand.tmp 125, Operand.tmp 130, Operand.tmp 135], argTypes := #[25, 29, 30] }, type := 48, pos := "outright.go:59", after := #[{ on := 0, ground := Ground.data }, { on := 5, ground := Ground.data }, { on := 10, ground := Ground.data }], guard := none }) rfl (fun K hK => ?_) ?_
        ·
         go_simp
         refine (HGET.out _ (HRwy.out.drew_)).mono ?_
         rintro e w9 ⟨⟨kk9, l9, a9, s9, rfl, hfa, ho9⟩, hw9⟩
         have HRx9 : Hid (RibM w9 bs b m 0 (runN (goneB g) (nlL L) N)) := (HRwy.out.drew_).below hw9
         have HFAx9 := Lib.hid hfa
         have HOx9 := Lib.hid ho9
         have HG9 : Hid (GrownX (fun i => i = m) wy w9) := hHeld.trans (GrownX.of_below hw9)
         clear hfa ho9
         refine hK.out _ _ HG9.out (fun hHeld => ?_)
         clear hK K
         try simp only [Act.put, sA, sZ, sS]
         refine wpAnyH_take (i := 12) (oi := { dst := some 124, op := Op.move (Operand.tmp 136), type := 48, pos := "outright.go:59", after := #[{ on := 11, ground := Ground.data }], guard := none }) (v := ?_) rfl (by kernel_rfl) (by kernel_rfl) (by kernel_rfl) (fun _ _ _ h => h) (Or.inl ⟨by rfl, ?_⟩) hHeld ?_
         rotate_left
         ·
          intro w hSw
          clear hSw
          go_simp
          try with_reducible rfl
         try simp only [Act.put, sA, sZ, sS]
         refine wpAnyH_take (i := 13) (oi := { dst := some 137, op := Op.extract (Operand.tmp 124) 0, type := 47, pos := "outright.go:59", after := #[{ on := 12, ground := Ground.data }], guard := none }) (v := ?_) rfl (by kernel_rfl) (by kernel_rfl) (by kernel_rfl) (fun _ _ _ h => h) (Or.inl ⟨by rfl, ?_⟩) hHeld ?_
         rotate_left
         ·
          intro w hSw
          clear hSw
          go_simp
          try with_reducible rfl
         try simp only [Act.put, sA, sZ, sS]
         refine wpAnyH_take (i := 14) (oi := { dst := some 138, op := Op.extract (Operand.tmp 124) 1, type := 4, pos := "outright.go:59", after := #[{ on := 12, ground := Ground.data }, { on := 16, ground := Ground.gcOnly Departure.lateStores }], guard := none }) (v := ?_) rfl (by kernel_rfl) (by kernel_rfl) (by kernel_rfl) (fun _ _ _ h => h) (Or.inl ⟨by rfl, ?_⟩) hHeld ?_
         rotate_left
         ·
          intro w hSw
          clear hSw
          go_simp
          try with_reducible rfl
         try simp only [Act.put, sA, sZ, sS]
         have HNx9 : Hid (∀ cs : Array Value, CellsAt (w9.alloc (.cells cs 47)) w9.heap.size cs 47) := fun cs => CellsAt.new _ _ _
         have HGSx9 : Hid (∀ cs : Array Value, GrownX (fun i => i = m) wy ((w9.alloc (.cells cs 47)).setRow w9.heap.size (pathAr kk9 l9 a9 s9))) := fun cs => HG9.out.trans ((GrownX.of_below ((Below.refl _ _).alloc (Nat.le_refl _) _)).new_ (GrownX.of_row (X := fun i => i = w9.heap.size) (grown_setRow' _ _ _) rfl) (fun i hi => by rw [hi]; exact Nat.le_refl _))
         refine wpAnyH_ready (rs := [15]) (by kernel_rfl) (by simp) ?_
         refine AllReadyH.cons (o := { dst := some 13, op := Op.alloc 47, type := 0, pos := "outright.go:59", after := #[], guard := none }) rfl (fun K hK => ?_) AllReadyH.nil
         go_simp
         refine hK.out _ _ (HG9.out.trans (GrownX.of_below ((Below.refl _ _).alloc (Nat.le_refl _) _))) (fun hHeld => ?_)
         clear hK K
         try simp only [Act.put, sA, sZ, sS]
         refine wpAnyH_ready (rs := [16]) (by kernel_rfl) (by simp) ?_
         refine AllReadyH.cons (o := { dst := none, op := Op.store 47 (Operand.tmp 13) (Operand.tmp 137), type := 0, pos := "outright.go:59", after := #[{ on := 15, ground := Ground.data }, { on := 13, ground := Ground.data }, { on := 11, ground := Ground.chain }, { on := 0, ground := Ground.phase }, { on := 1, ground := Ground.phase }, { on := 2, ground := Ground.phase }, { on := 3, ground := Ground.phase }, { on := 4, ground := Ground.phase }, { on := 5, ground := Ground.phase }, { on := 6, ground := Ground.phase }, { on := 7, ground := Ground.phase }, { on := 8, ground := Ground.phase }, { on := 9, ground := Ground.phase }, { on := 10, ground := Ground.phase }, { on := 11, ground := Ground.phase }, { on := 12, ground := Ground.phase }, { on := 13, ground := Ground.phase }, { on := 14, ground := Ground.textOnly Departure.lateStores }, { on := 15, ground := Ground.phase }], guard := none }) rfl (fun K hK => ?_) AllReadyH.nil
         refine wp_store_row 47 (.tmp 13) (.tmp 137) rfl w9.heap.size (pathAr kk9 l9 a9 s9) rfl rfl 47 _ (HNx9.out _) (by rw [path_size]; rfl) rfl (path_ones _ _ _ _) ?_
         refine hK.out _ _ (HGSx9.out _) (fun hHeld => ?_)
         clear hK K
         try simp only [Act.put, sA, sZ, sS]
         refine wpAnyH_take (i := 17) (oi := { dst := some 14, op := Op.assign (Operand.tmp 138), type := 4, pos := "outright.go:59", after := #[{ on := 14, ground := Ground.data }, { on := 16, ground := Ground.chain }, { on := 0, ground := Ground.phase }, { on := 1, ground := Ground.phase }, { on := 2, ground := Ground.phase }, { on := 3, ground := Ground.phase }, { on := 4, ground := Ground.phase }, { on := 5, ground := Ground.phase }, { on := 6, ground := Ground.phase }, { on := 7, ground := Ground.phase }, { on := 8, ground := Ground.phase }, { on := 9, ground := Ground.phase }, { on := 10, ground := Ground.phase }, { on := 11, ground := Ground.phase }, { on := 12, ground := Ground.phase }, { on := 13, ground := Ground.phase }, { on := 14, ground := Ground.phase }, { on := 15, ground := Ground.phase }, { on := 16, ground := Ground.phase }], guard := none }) (v := ?_) rfl (by kernel_rfl) (by kernel_rfl) (by kernel_rfl) (fun _ _ _ h => h) (Or.inl ⟨by rfl, ?_⟩) hHeld ?_
         rotate_left
         ·
          intro w hSw
          clear hSw
          go_simp
          try with_reducible rfl
         try simp only [Act.put, sA, sZ, sS]
         refine wpAnyH_done (by kernel_rfl) ?_ _
         have hb9 : ∀ cs : Array Value, Below w9.heap.size w9 ((w9.alloc (.cells cs 47)).setRow w9.heap.size (pathAr kk9 l9 a9 s9)) := fun cs => ((Below.refl _ _).alloc (Nat.le_refl _) _).grown (grown_setRow' _ _ _) (by simp) (fun q hq => by cases hq; exact Nat.le_refl _)
         have HF1 := Lib.hid (fun cs => (HNx9.out cs).setRow' (pathAr kk9 l9 a9 s9))
         have HF2 := Lib.hid (fun cs => HRx9.out.below (hb9 cs))
         have HF3 := Lib.hid (fun cs => (AtO.below HOx9.out (hb9 cs)).ok)
         have HF4 := Lib.hid (fun cs => (HGSx9.out cs).below HBwy.out (fun i hi => by rw [hi]; exact HM.out) HBwy.out.size)
         clear hb9 hHeld
         go_wp2_with fail
         go_meet
         exact ⟨_, kk9, l9, a9, s9, rfl, rfl, HF1.out _, HFAx9.out, HF2.out _, HF3.out _, HF4.out _⟩
        ·
         refine AllReadyH.cons (o := { dst := some 13, op := Op.alloc 47, type := 0, pos := "outright.go:59", after := #[], guard := none }) rfl (fun K hK => ?_) AllReadyH.nil
         go_simp
         have HNB : Hid (∀ cs : Array Value, CellsAt (wy.drew.alloc (.cells cs 47)) wy.heap.size cs 47) := fun cs => CellsAt.new wy.drew _ _
         have HRB : Hid (∀ cs : Array Value, RibM (wy.drew.alloc (.cells cs 47)) bs b m 0 (runN (goneB g) (nlL L) N)) := fun cs => HRwy.out.drew_.below ((Below.refl _ _).alloc (Nat.le_refl _) _)
         have hbZ := HRwy.out.lt.1
         have hmZ := HRwy.out.lt.2.1
         have hsz : ∀ cs : Array Value, (wy.drew.alloc (.cells cs 47)).heap.size = wy.heap.size + 1 := fun cs => by rw [World.size_alloc]; rfl
         have HSZB := Lib.hid hsz
         clear hsz
         refine hK.out _ _ (hHeld.trans (GrownX.of_below ((Below.refl _ _).alloc (Nat.le_refl _) _))) (fun hHeld => ?_)
         clear hK K
         try simp only [Act.put, sA, sZ, sS]
         refine wpAnyH_ready (rs := [11]) (by kernel_rfl) (by simp) ?_
         refine AllReadyH.cons (o := { dst := some 136, op := Op.call { callee := Callee.value (Operand.func 13), args := #[Operand.tmp 125, Operand.tmp 130, Operand.tmp 135], argTypes := #[25, 29, 30] }, type := 48, pos := "outright.go:59", after := #[{ on := 0, ground := Ground.data }, { on := 5, ground := Ground.data }, { on := 10, ground := Ground.data }], guard := none }) rfl (fun K hK => ?_) AllReadyH.nil
         go_simp
         refine (HGET.out _ (HRB.out _)).mono ?_
         rintro e w9 ⟨⟨kk9, l9, a9, s9, rfl, hfa, ho9⟩, hw9⟩
         have HRx9 : Hid (RibM w9 bs b m 0 (runN (goneB g) (nlL L) N)) := (HRB.out _).below hw9
         have HFAx9 := Lib.hid hfa
         have HOx9 := Lib.hid ho9
         have HG9 : Hid (GrownX (fun i => i = m) wy w9) := hHeld.trans (GrownX.of_below hw9)
         clear hfa ho9
         refine hK.out _ _ HG9.out (fun hHeld => ?_)
         clear hK K
         try simp only [Act.put, sA, sZ, sS]
         refine wpAnyH_take (i := 12) (oi := { dst := some 124, op := Op.move (Operand.tmp 136), type := 48, pos := "outright.go:59", after := #[{ on := 11, ground := Ground.data }], guard := none }) (v := ?_) rfl (by kernel_rfl) (by kernel_rfl) (by kernel_rfl) (fun _ _ _ h => h) (Or.inl ⟨by rfl, ?_⟩) hHeld ?_
         rotate_left
         ·
          intro w hSw
          clear hSw
          go_simp
          try with_reducible rfl
         try simp only [Act.put, sA, sZ, sS]
         refine wpAnyH_take (i := 13) (oi := { dst := some 137, op := Op.extract (Operand.tmp 124) 0, type := 47, pos := "outright.go:59", after := #[{ on := 12, ground := Ground.data }], guard := none }) (v := ?_) rfl (by kernel_rfl) (by kernel_rfl) (by kernel_rfl) (fun _ _ _ h => h) (Or.inl ⟨by rfl, ?_⟩) hHeld ?_
         rotate_left
         ·
          intro w hSw
          clear hSw
          go_simp
          try with_reducible rfl
         try simp only [Act.put, sA, sZ, sS]
         refine wpAnyH_take (i := 14) (oi := { dst := some 138, op := Op.extract (Operand.tmp 124) 1, type := 4, pos := "outright.go:59", after := #[{ on := 12, ground := Ground.data }, { on := 16, ground := Ground.gcOnly Departure.lateStores }], guard := none }) (v := ?_) rfl (by kernel_rfl) (by kernel_rfl) (by kernel_rfl) (fun _ _ _ h => h) (Or.inl ⟨by rfl, ?_⟩) hHeld ?_
         rotate_left
         ·
          intro w hSw
          clear hSw
          go_simp
          try with_reducible rfl
         try simp only [Act.put, sA, sZ, sS]
         have HC9 := Lib.hid ((HNB.out _).below hw9 (HNB.out _).lt)
         have HGS9 : Hid (GrownX (fun i => i = m) wy (w9.setRow wy.heap.size (pathAr kk9 l9 a9 s9))) := HG9.out.new_ (GrownX.of_row (X := fun i => i = wy.heap.size) (grown_setRow' _ _ _) rfl) (fun i hi => by rw [hi]; exact Nat.le_refl _)
         refine wpAnyH_ready (rs := [16]) (by kernel_rfl) (by simp) ?_
         refine AllReadyH.cons (o := { dst := none, op := Op.store 47 (Operand.tmp 13) (Operand.tmp 137), type := 0, pos := "outright.go:59", after := #[{ on := 15, ground := Ground.data }, { on := 13, ground := Ground.data }, { on := 11, ground := Ground.chain }, { on := 0, ground := Ground.phase }, { on := 1, ground := Ground.phase }, { on := 2, ground := Ground.phase }, { on := 3, ground := Ground.phase }, { on := 4, ground := Ground.phase }, { on := 5, ground := Ground.phase }, { on := 6, ground := Ground.phase }, { on := 7, ground := Ground.phase }, { on := 8, ground := Ground.phase }, { on := 9, ground := Ground.phase }, { on := 10, ground := Ground.phase }, { on := 11, ground := Ground.phase }, { on := 12, ground := Ground.phase }, { on := 13, ground := Ground.phase }, { on := 14, ground := Ground.textOnly Departure.lateStores }, { on := 15, ground := Ground.phase }], guard := none }) rfl (fun K hK => ?_) AllReadyH.nil
         refine wp_store_row 47 (.tmp 13) (.tmp 137) rfl wy.heap.size (pathAr kk9 l9 a9 s9) rfl rfl 47 _ HC9.out (by rw [path_size]; rfl) rfl (path_ones _ _ _ _) ?_
         refine hK.out _ _ (HGS9.out) (fun hHeld => ?_)
         clear hK K
         try simp only [Act.put, sA, sZ, sS]
         refine wpAnyH_take (i := 17) (oi := { dst := some 14, op := Op.assign (Operand.tmp 138), type := 4, pos := "outright.go:59", after := #[{ on := 14, ground := Ground.data }, { on := 16, ground := Ground.chain }, { on := 0, ground := Ground.phase }, { on := 1, ground := Ground.phase }, { on := 2, ground := Ground.phase }, { on := 3, ground := Ground.phase }, { on := 4, ground := Ground.phase }, { on := 5, ground := Ground.phase }, { on := 6, ground := Ground.phase }, { on := 7, ground := Ground.phase }, { on := 8, ground := Ground.phase }, { on := 9, ground := Ground.phase }, { on := 10, ground := Ground.phase }, { on := 11, ground := Ground.phase }, { on := 12, ground := Ground.phase }, { on := 13, ground := Ground.phase }, { on := 14, ground := Ground.phase }, { on := 15, ground := Ground.phase }, { on := 16, ground := Ground.phase }], guard := none }) (v := ?_) rfl (by kernel_rfl) (by kernel_rfl) (by kernel_rfl) (fun _ _ _ h => h) (Or.inl ⟨by rfl, ?_⟩) hHeld ?_
         rotate_left
         ·
          intro w hSw
          clear hSw
          go_simp
          try with_reducible rfl
         try simp only [Act.put, sA, sZ, sS]
         refine wpAnyH_done (by kernel_rfl) ?_ _
         have HF1 := Lib.hid (HC9.out.setRow' (pathAr kk9 l9 a9 s9))
         have HF2 := Lib.hid (HRx9.out.off (grown_setRow' w9 wy.heap.size (pathAr kk9 l9 a9 s9)) HC9.out (Nat.ne_of_lt hbZ) (Nat.ne_of_lt hmZ))
         have HF3 := Lib.hid (AtO.ok (AtO.keep HOx9.out (fun i h1 h2 => (grown_setRow' w9 wy.heap.size (pathAr kk9 l9 a9 s9)).block i h2 (fun e => by injection e with e; rw [HSZB.out] at h1; omega))))
         have HF4 := Lib.hid (HGS9.out.below HBwy.out (fun i hi => by rw [hi]; exact HM.out) HBwy.out.size)
         clear hHeld hbZ hmZ
         go_wp2_with fail
         go_meet
         exact ⟨_, kk9, l9, a9, s9, rfl, rfl, HF1.out, HFAx9.out, HF2.out, HF3.out, HF4.out⟩
       case rest =>
       obtain ⟨g4, kk8, l8, a8, s8, rfl, rfl, HPA, HFAx8, HRZ4, HAO8, HBZ4⟩ := hcut
       obtain ⟨Z4, hZ4⟩ : ∃ x, x = wc := ⟨_, rfl⟩
       subst hZ4
       clear HGET HRwy HBwy HROW
       by_cases hl : la = n
       ·
        have hl2 : n = la := hl.symm
        clear hl
        subst hl2
        have HEND : Hid (EndQ g L (runN (goneB g) (nlL L) N) n ⟨x, xl⟩) := end_of hln HX.out HLQ.out
        have hcv : IntKind.u32.wrap (n : Int) = n := by rw [IntKind.wrap_u32]; omega
        have HNC : Hid (∀ W, Calls Try.prog 12 #[.agg #[.int .i64 x.fam, .int .u64 x.rd, .string x.addr, .int .i64 x.len, .int .u32 (x.id : Nat), .int .u32 (xl : Nat)]] W fun e w' => e = .returned (.int .i64 (nlC (nlk x xl))) ∧ Below W.heap.size W w') := fun W => ncheck_any (nlk x xl) (nlk_ok HKO.out HLA.out) W
        obtain ⟨wt, hwt⟩ : ∃ q, q = (!goneB g n && decide (nlMay (nlk x xl))) := ⟨_, rfl⟩
        have HWT := Lib.hid hwt
        clear hwt
        go_upto_region 25 with fail
        go_cut [15] (fun v wx => v = .bool wt ∧ Hid (Below Z4.heap.size Z4 wx))
        case first =>
         cases hg : goneB g n with
         | true =>
          have hb := gone_one hg0 hg1 hg
          obtain rfl : wt = false := by rw [HWT.out, hg]; rfl
          go_wp2_with fail
          go_meet
          exact ⟨rfl, Below.refl _ _⟩
         | false =>
          have hb := gone_zero hg0 hg1 hg
          obtain ⟨c0, c1, c2, c3, c4, c5⟩ := HROWI.out Z4 HBZ4.out
          by_cases hm : nlMay (nlk x xl)
          ·
           obtain rfl : wt = true := by rw [HWT.out, hg, decide_eq_true hm]; rfl
           unfold nlC at HNC
           rw [if_pos hm] at HNC
           clear hm
           go_wp2_with fail
           refine (HNC.out _).mono ?_
           rintro e w7 ⟨rfl, hw7⟩
           have HB7 := Lib.hid hw7
           clear hw7
           go_wp2_with fail
           go_meet
           exact ⟨rfl, HB7.out⟩
          ·
           obtain rfl : wt = false := by rw [HWT.out, hg, decide_eq_false hm]; rfl
           unfold nlC at HNC
           rw [if_neg hm] at HNC
           clear hm
           go_wp2_with fail
           refine (HNC.out _).mono ?_
           rintro e w7 ⟨rfl, hw7⟩
           have HB7 := Lib.hid hw7
           clear hw7
           go_wp2_with fail
           go_meet
           exact ⟨rfl, HB7.out⟩
        case rest =>
        clear HNC
        obtain ⟨Z5, hZ5⟩ : ∃ x, x = wc := ⟨_, rfl⟩
        subst hZ5
        obtain ⟨rfl, HB45⟩ := hcut
        have HRZ5 := Lib.hid (HRZ4.out.below HB45.out)
        have HBZ5 : Hid (Below w.heap.size w Z5) := HBZ4.out.trans (HB45.out.mono HBZ4.out.size)
        have HPA5 := Lib.hid (HPA.out.below HB45.out HPA.out.lt)
        clear HB45 HRZ4 HBZ4 HPA HAO8
        go_wp2_with fail
        go_loopw [16, 17] (fun bv kv wr => ∃ (k : Nat) (bf : Bool), bv = .bool bf ∧ kv = .int .i64 k ∧ k ≤ n ∧ Hid (BefQ L k x bf) ∧ Hid (Below Z5.heap.size Z5 wr)) (fun _ kv _ => N + 1 - (intOf kv).toNat)
        case atStart => exact ⟨0, false, rfl, rfl, by omega, BefQ.start, Below.refl _ _⟩
        case round =>
         obtain ⟨wq, hwq⟩ : ∃ x, x = wr := ⟨_, rfl⟩
         subst hwq
         obtain ⟨k, bf, rfl, rfl, hk3, HBF, HBq⟩ := hrel
         have HBQ : Hid (Below w.heap.size w wq) := HBZ5.out.trans (HBq.out.mono HBZ5.out.size)
         by_cases hlk : k < n
         ·
          as_aux_lemma =>
          obtain ⟨y0, hy⟩ : ∃ y, L[k]? = some y := ⟨L[k]'(by rw [hln]; omega), List.getElem?_eq_getElem _⟩
          have hrow2 := HL.out.rowAt hy
          obtain ⟨y, yl⟩ := y0
          dsimp only at hrow2
          have HROWK : Hid (∀ W, Below w.heap.size w W → W.cell? ⟨b0, off + k * 6, none⟩ = some (.int .i64 y.fam) ∧ W.cell? ⟨b0, off + k * 6 + 1, none⟩ = some (.int .u64 y.rd) ∧ W.cell? ⟨b0, off + k * 6 + 2, none⟩ = some (.string y.addr) ∧ W.cell? ⟨b0, off + k * 6 + 3, none⟩ = some (.int .i64 y.len) ∧ W.cell? ⟨b0, off + k * 6 + 4, none⟩ = some (.int .u32 (y.id : Nat)) ∧ W.cell? ⟨b0, off + k * 6 + 5, none⟩ = some (.int .u32 (yl : Nat))) := hrow2
          have HY : Hid (L[k]? = some ⟨y, yl⟩) := hy
          have hkN2 : k < N := by omega
          clear hy hrow2
          cases bf with
          | true =>
           go_upto_region 30 with fail
           refine wp_region_held_drew (S := fun w' => Below wq.heap.size wq w') (by kernel_rfl) (below_drewN (Below.refl _ _) 1) (fun hHeld => ?_)
           refine wpAnyH_take (i := 0) (oi := { dst := some 160, op := Op.move (Operand.tmp 16), type := 4, pos := "outright.go:66", after := #[], guard := none }) (v := ?_) rfl (by kernel_rfl) (by kernel_rfl) (by kernel_rfl) (fun _ _ _ h => h) (Or.inl ⟨by rfl, ?_⟩) hHeld ?_
           rotate_left
           ·
            intro w hSw
            clear hSw
            go_simp
            try with_reducible rfl
           try simp only [Act.put, sA, sZ, sS]
           refine wpAnyH_take (i := 1) (oi := { dst := some 161, op := Op.move (Operand.tmp 160), type := 4, pos := "outright.go:66", after := #[{ on := 0, ground := Ground.data }], guard := none }) (v := ?_) rfl (by kernel_rfl) (by kernel_rfl) (by kernel_rfl) (fun _ _ _ h => h) (Or.inl ⟨by rfl, ?_⟩) hHeld ?_
           rotate_left
           ·
            intro w hSw
            clear hSw
            go_simp
            try with_reducible rfl
           try simp only [Act.put, sA, sZ, sS]
           refine wpAnyH_take (i := 2) (oi := { dst := some 162, op := Op.move (Operand.tmp 0), type := 22, pos := "outright.go:66", after := #[{ on := 1, ground := Ground.guard }], guard := some (1, false) }) (v := undef) rfl (by kernel_rfl) (by kernel_rfl) (by kernel_rfl) (fun _ _ _ h => h) (Or.inr ⟨by rfl, rfl⟩) hHeld ?_
           try simp only [Act.put, sA, sZ, sS]
           refine wpAnyH_take (i := 3) (oi := { dst := some 163, op := Op.move (Operand.tmp 17), type := 3, pos := "outright.go:66", after := #[{ on := 1, ground := Ground.guard }], guard := some (1, false) }) (v := undef) rfl (by kernel_rfl) (by kernel_rfl) (by kernel_rfl) (fun _ _ _ h => h) (Or.inr ⟨by rfl, rfl⟩) hHeld ?_
           try simp only [Act.put, sA, sZ, sS]
           refine wpAnyH_take (i := 4) (oi := { dst := some 164, op := Op.indexAddr 22 (Operand.tmp 162) (Operand.tmp 163), type := 0, pos := "outright.go:66", after := #[{ on := 2, ground := Ground.data }, { on := 3, ground := Ground.data }, { on := 1, ground := Ground.guard }], guard := some (1, false) }) (v := undef) rfl (by kernel_rfl) (by kernel_rfl) (by kernel_rfl) (fun _ _ _ h => h) (Or.inr ⟨by rfl, rfl⟩) hHeld ?_
           try simp only [Act.put, sA, sZ, sS]
           refine wpAnyH_take (i := 5) (oi := { dst := some 165, op := Op.fieldAddr 32 (Operand.tmp 164) 0, type := 0, pos := "outright.go:66", after := #[{ on := 4, ground := Ground.data }, { on := 1, ground := Ground.guard }], guard := some (1, false) }) (v := undef) rfl (by kernel_rfl) (by kernel_rfl) (by kernel_rfl) (fun _ _ _ h => h) (Or.inr ⟨by rfl, rfl⟩) hHeld ?_
           try simp only [Act.put, sA, sZ, sS]
           refine wpAnyH_take (i := 6) (oi := { dst := some 166, op := Op.load 29 (Operand.tmp 165), type := 29, pos := "outright.go:66", after := #[{ on := 5, ground := Ground.data }, { on := 1, ground := Ground.guard }], guard := some (1, false) }) (v := undef) rfl (by kernel_rfl) (by kernel_rfl) (by kernel_rfl) (fun _ _ _ h => h) (Or.inr ⟨by rfl, rfl⟩) hHeld ?_
           try simp only [Act.put, sA, sZ, sS]
           refine wpAnyH_take (i := 7) (oi := { dst := some 167, op := Op.move (Operand.tmp 0), type := 22, pos := "outright.go:66", after := #[{ on := 1, ground := Ground.guard }], guard := some (1, false) }) (v := undef) rfl (by kernel_rfl) (by kernel_rfl) (by kernel_rfl) (fun _ _ _ h => h) (Or.inr ⟨by rfl, rfl⟩) hHeld ?_
           try simp only [Act.put, sA, sZ, sS]
           refine wpAnyH_take (i := 8) (oi := { dst := some 168, op := Op.move (Operand.tmp 10), type := 3, pos := "outright.go:66", after := #[{ on := 1, ground := Ground.guard }], guard := some (1, false) }) (v := undef) rfl (by kernel_rfl) (by kernel_rfl) (by kernel_rfl) (fun _ _ _ h => h) (Or.inr ⟨by rfl, rfl⟩) hHeld ?_
           try simp only [Act.put, sA, sZ, sS]
           refine wpAnyH_take (i := 9) (oi := { dst := some 169, op := Op.indexAddr 22 (Operand.tmp 167) (Operand.tmp 168), type := 0, pos := "outright.go:66", after := #[{ on := 7, ground := Ground.data }, { on := 8, ground := Ground.data }, { on := 1, ground := Ground.guard }], guard := some (1, false) }) (v := undef) rfl (by kernel_rfl) (by kernel_rfl) (by kernel_rfl) (fun _ _ _ h => h) (Or.inr ⟨by rfl, rfl⟩) hHeld ?_
           try simp only [Act.put, sA, sZ, sS]
           refine wpAnyH_take (i := 10) (oi := { dst := some 170, op := Op.fieldAddr 32 (Operand.tmp 169) 0, type := 0, pos := "outright.go:66", after := #[{ on := 9, ground := Ground.data }, { on := 1, ground := Ground.guard }], guard := some (1, false) }) (v := undef) rfl (by kernel_rfl) (by kernel_rfl) (by kernel_rfl) (fun _ _ _ h => h) (Or.inr ⟨by rfl, rfl⟩) hHeld ?_
           try simp only [Act.put, sA, sZ, sS]
           refine wpAnyH_take (i := 11) (oi := { dst := some 171, op := Op.load 29 (Operand.tmp 170), type := 29, pos := "outright.go:66", after := #[{ on := 10, ground := Ground.data }, { on := 1, ground := Ground.guard }], guard := some (1, false) }) (v := undef) rfl (by kernel_rfl) (by kernel_rfl) (by kernel_rfl) (fun _ _ _ h => h) (Or.inr ⟨by rfl, rfl⟩) hHeld ?_
           try simp only [Act.put, sA, sZ, sS]
           refine wpAnyH_take (i := 12) (oi := { dst := some 172, op := Op.binOp BinOp.eql 29 (Operand.tmp 166) (Operand.tmp 171) 29, type := 4, pos := "outright.go:66", after := #[{ on := 6, ground := Ground.data }, { on := 11, ground := Ground.data }, { on := 1, ground := Ground.guard }], guard := some (1, false) }) (v := undef) rfl (by kernel_rfl) (by kernel_rfl) (by kernel_rfl) (fun _ _ _ h => h) (Or.inr ⟨by rfl, rfl⟩) hHeld ?_
           try simp only [Act.put, sA, sZ, sS]
           refine wpAnyH_take (i := 13) (oi := { dst := some 173, op := Op.move (Operand.tmp 172), type := 4, pos := "outright.go:66", after := #[{ on := 12, ground := Ground.data }, { on := 1, ground := Ground.chain }, { on := 1, ground := Ground.guard }], guard := some (1, false) }) (v := undef) rfl (by kernel_rfl) (by kernel_rfl) (by kernel_rfl) (fun _ _ _ h => h) (Or.inr ⟨by rfl, rfl⟩) hHeld ?_
           try simp only [Act.put, sA, sZ, sS]
           refine wpAnyH_take (i := 14) (oi := { dst := some 174, op := Op.move (Operand.tmp 0), type := 22, pos := "outright.go:66", after := #[{ on := 13, ground := Ground.guard }], guard := some (13, true) }) (v := undef) rfl (by kernel_rfl) (by kernel_rfl) (by kernel_rfl) (fun _ _ _ h => h) (Or.inr ⟨by rfl, rfl⟩) hHeld ?_
           try simp only [Act.put, sA, sZ, sS]
           refine wpAnyH_take (i := 15) (oi := { dst := some 175, op := Op.move (Operand.tmp 17), type := 3, pos := "outright.go:66", after := #[{ on := 13, ground := Ground.guard }], guard := some (13, true) }) (v := undef) rfl (by kernel_rfl) (by kernel_rfl) (by kernel_rfl) (fun _ _ _ h => h) (Or.inr ⟨by rfl, rfl⟩) hHeld ?_
           try simp only [Act.put, sA, sZ, sS]
           refine wpAnyH_take (i := 16) (oi := { dst := some 176, op := Op.indexAddr 22 (Operand.tmp 174) (Operand.tmp 175), type := 0, pos := "outright.go:66", after := #[{ on := 14, ground := Ground.data }, { on := 15, ground := Ground.data }, { on := 13, ground := Ground.guard }], guard := some (13, true) }) (v := undef) rfl (by kernel_rfl) (by kernel_rfl) (by kernel_rfl) (fun _ _ _ h => h) (Or.inr ⟨by rfl, rfl⟩) hHeld ?_
           try simp only [Act.put, sA, sZ, sS]
           refine wpAnyH_take (i := 17) (oi := { dst := some 177, op := Op.fieldAddr 32 (Operand.tmp 176) 1, type := 0, pos := "outright.go:66", after := #[{ on := 16, ground := Ground.data }, { on := 13, ground := Ground.guard }], guard := some (13, true) }) (v := undef) rfl (by kernel_rfl) (by kernel_rfl) (by kernel_rfl) (fun _ _ _ h => h) (Or.inr ⟨by rfl, rfl⟩) hHeld ?_
           try simp only [Act.put, sA, sZ, sS]
           refine wpAnyH_take (i := 18) (oi := { dst := some 178, op := Op.load 30 (Operand.tmp 177), type := 30, pos := "outright.go:66", after := #[{ on := 17, ground := Ground.data }, { on := 13, ground := Ground.guard }], guard := some (13, true) }) (v := undef) rfl (by kernel_rfl) (by kernel_rfl) (by kernel_rfl) (fun _ _ _ h => h) (Or.inr ⟨by rfl, rfl⟩) hHeld ?_
           try simp only [Act.put, sA, sZ, sS]
           refine wpAnyH_take (i := 19) (oi := { dst := some 179, op := Op.move (Operand.tmp 0), type := 22, pos := "outright.go:66", after := #[{ on := 13, ground := Ground.guard }], guard := some (13, true) }) (v := undef) rfl (by kernel_rfl) (by kernel_rfl) (by kernel_rfl) (fun _ _ _ h => h) (Or.inr ⟨by rfl, rfl⟩) hHeld ?_
           try simp only [Act.put, sA, sZ, sS]
           refine wpAnyH_take (i := 20) (oi := { dst := some 180, op := Op.move (Operand.tmp 10), type := 3, pos := "outright.go:66", after := #[{ on := 13, ground := Ground.guard }], guard := some (13, true) }) (v := undef) rfl (by kernel_rfl) (by kernel_rfl) (by kernel_rfl) (fun _ _ _ h => h) (Or.inr ⟨by rfl, rfl⟩) hHeld ?_
           try simp only [Act.put, sA, sZ, sS]
           refine wpAnyH_take (i := 21) (oi := { dst := some 181, op := Op.indexAddr 22 (Operand.tmp 179) (Operand.tmp 180), type := 0, pos := "outright.go:66", after := #[{ on := 19, ground := Ground.data }, { on := 20, ground := Ground.data }, { on := 13, ground := Ground.guard }], guard := some (13, true) }) (v := undef) rfl (by kernel_rfl) (by kernel_rfl) (by kernel_rfl) (fun _ _ _ h => h) (Or.inr ⟨by rfl, rfl⟩) hHeld ?_
           try simp only [Act.put, sA, sZ, sS]
           refine wpAnyH_take (i := 22) (oi := { dst := some 182, op := Op.fieldAddr 32 (Operand.tmp 181) 1, type := 0, pos := "outright.go:66", after := #[{ on := 21, ground := Ground.data }, { on := 13, ground := Ground.guard }], guard := some (13, true) }) (v := undef) rfl (by kernel_rfl) (by kernel_rfl) (by kernel_rfl) (fun _ _ _ h => h) (Or.inr ⟨by rfl, rfl⟩) hHeld ?_
           try simp only [Act.put, sA, sZ, sS]
           refine wpAnyH_take (i := 23) (oi := { dst := some 183, op := Op.load 30 (Operand.tmp 182), type := 30, pos := "outright.go:66", after := #[{ on := 22, ground := Ground.data }, { on := 13, ground := Ground.guard }], guard := some (13, true) }) (v := undef) rfl (by kernel_rfl) (by kernel_rfl) (by kernel_rfl) (fun _ _ _ h => h) (Or.inr ⟨by rfl, rfl⟩) hHeld ?_
           try simp only [Act.put, sA, sZ, sS]
           refine wpAnyH_take (i := 24) (oi := { dst := some 184, op := Op.binOp BinOp.eql 30 (Operand.tmp 178) (Operand.tmp 183) 30, type := 4, pos := "outright.go:66", after := #[{ on := 18, ground := Ground.data }, { on := 23, ground := Ground.data }, { on := 13, ground := Ground.guard }], guard := some (13, true) }) (v := undef) rfl (by kernel_rfl) (by kernel_rfl) (by kernel_rfl) (fun _ _ _ h => h) (Or.inr ⟨by rfl, rfl⟩) hHeld ?_
           try simp only [Act.put, sA, sZ, sS]
           refine wpAnyH_take (i := 25) (oi := { dst := some 185, op := Op.pick (Operand.tmp 173) (Operand.tmp 184) (Operand.const (Value.bool false)), type := 4, pos := "outright.go:66", after := #[{ on := 13, ground := Ground.data }, { on := 24, ground := Ground.data }, { on := 1, ground := Ground.guard }], guard := some (1, false) }) (v := undef) rfl (by kernel_rfl) (by kernel_rfl) (by kernel_rfl) (fun _ _ _ h => h) (Or.inr ⟨by rfl, rfl⟩) hHeld ?_
           try simp only [Act.put, sA, sZ, sS]
           refine wpAnyH_take (i := 26) (oi := { dst := some 186, op := Op.pick (Operand.tmp 161) (Operand.const (Value.bool true)) (Operand.tmp 185), type := 4, pos := "outright.go:66", after := #[{ on := 1, ground := Ground.data }, { on := 25, ground := Ground.data }], guard := none }) (v := ?_) rfl (by kernel_rfl) (by kernel_rfl) (by kernel_rfl) (fun _ _ _ h => h) (Or.inl ⟨by rfl, ?_⟩) hHeld ?_
           rotate_left
           ·
            intro w hSw
            clear hSw
            go_simp
            try with_reducible rfl
           try simp only [Act.put, sA, sZ, sS]
           refine wpAnyH_take (i := 27) (oi := { dst := some 16, op := Op.assign (Operand.tmp 186), type := 4, pos := "outright.go:66", after := #[{ on := 26, ground := Ground.data }, { on := 13, ground := Ground.chain }, { on := 0, ground := Ground.phase }, { on := 1, ground := Ground.phase }, { on := 2, ground := Ground.phase }, { on := 3, ground := Ground.phase }, { on := 4, ground := Ground.phase }, { on := 5, ground := Ground.phase }, { on := 6, ground := Ground.phase }, { on := 7, ground := Ground.phase }, { on := 8, ground := Ground.phase }, { on := 9, ground := Ground.phase }, { on := 10, ground := Ground.phase }, { on := 11, ground := Ground.phase }, { on := 12, ground := Ground.phase }, { on := 13, ground := Ground.phase }, { on := 14, ground := Ground.phase }, { on := 15, ground := Ground.phase }, { on := 16, ground := Ground.phase }, { on := 17, ground := Ground.phase }, { on := 18, ground := Ground.phase }, { on := 19, ground := Ground.phase }, { on := 20, ground := Ground.phase }, { on := 21, ground := Ground.phase }, { on := 22, ground := Ground.phase }, { on := 23, ground := Ground.phase }, { on := 24, ground := Ground.phase }, { on := 25, ground := Ground.phase }, { on := 26, ground := Ground.phase }], guard := none }) (v := ?_) rfl (by kernel_rfl) (by kernel_rfl) (by kernel_rfl) (fun _ _ _ h => h) (Or.inl ⟨by rfl, ?_⟩) hHeld ?_
           rotate_left
           ·
            intro w hSw
            clear hSw
            go_simp
            try with_reducible rfl
           try simp only [Act.put, sA, sZ, sS]
           refine wpAnyH_done (by kernel_rfl) ?_ _
           go_upto_region 29 with fail
           refine rb_name fun Z6 hZ6 => ?_
           have hbZ : Below wq.heap.size wq Z6 := by rw [hZ6]; exact hHeld
           have HB6 : Hid (Below Z5.heap.size Z5 Z6) := HBq.out.trans (hbZ.mono HBq.out.size)
           clear hZ6 hbZ hHeld
           go_wp2_with fail
           exact ⟨⟨k + 1, true, rfl, by go_num, by omega, HBF.out.stay, HB6.out⟩, by simp [intOf]; omega⟩
          | false =>
           by_cases hpf : y.fam = x.fam ∧ y.rd = x.rd ∧ y.addr = x.addr ∧ y.len = x.len
           ·
            have HPF := Lib.hid hpf
            by_cases hid : y.id = x.id
            ·
             have HID := Lib.hid hid
             have HYX : Hid (y = x) := by
              show _ = _
              obtain ⟨h1, h2, h3, h4⟩ := hpf
              cases y
              cases x
              simp only at h1 h2 h3 h4 hid
              rw [h1, h2, h3, h4, hid]
             clear hpf hid
             go_upto_region 30 with fail
             refine wp_region_held_drew (S := fun w' => Below wq.heap.size wq w') (by kernel_rfl) (below_drewN (Below.refl _ _) 1) (fun hHeld => ?_)
             refine wpAnyH_take (i := 0) (oi := { dst := some 160, op := Op.move (Operand.tmp 16), type := 4, pos := "outright.go:66", after := #[], guard := none }) (v := ?_) rfl (by kernel_rfl) (by kernel_rfl) (by kernel_rfl) (fun _ _ _ h => h) (Or.inl ⟨by rfl, ?_⟩) hHeld ?_
             rotate_left
             ·
              intro w hSw
              clear hSw
              go_simp
              try with_reducible rfl
             try simp only [Act.put, sA, sZ, sS]
             refine wpAnyH_take (i := 1) (oi := { dst := some 161, op := Op.move (Operand.tmp 160), type := 4, pos := "outright.go:66", after := #[{ on := 0, ground := Ground.data }], guard := none }) (v := ?_) rfl (by kernel_rfl) (by kernel_rfl) (by kernel_rfl) (fun _ _ _ h => h) (Or.inl ⟨by rfl, ?_⟩) hHeld ?_
             rotate_left
             ·
              intro w hSw
              clear hSw
              go_simp
              try with_reducible rfl
             try simp only [Act.put, sA, sZ, sS]
             refine wpAnyH_take (i := 2) (oi := { dst := some 162, op := Op.move (Operand.tmp 0), type := 22, pos := "outright.go:66", after := #[{ on := 1, ground := Ground.guard }], guard := some (1, false) }) (v := ?_) rfl (by kernel_rfl) (by kernel_rfl) (by kernel_rfl) (fun _ _ _ h => h) (Or.inl ⟨by rfl, ?_⟩) hHeld ?_
             rotate_left
             ·
              intro w hSw
              clear hSw
              go_simp
              try with_reducible rfl
             try simp only [Act.put, sA, sZ, sS]
             refine wpAnyH_take (i := 3) (oi := { dst := some 163, op := Op.move (Operand.tmp 17), type := 3, pos := "outright.go:66", after := #[{ on := 1, ground := Ground.guard }], guard := some (1, false) }) (v := ?_) rfl (by kernel_rfl) (by kernel_rfl) (by kernel_rfl) (fun _ _ _ h => h) (Or.inl ⟨by rfl, ?_⟩) hHeld ?_
             rotate_left
             ·
              intro w hSw
              clear hSw
              go_simp
              try with_reducible rfl
             try simp only [Act.put, sA, sZ, sS]
             refine wpAnyH_take (i := 4) (oi := { dst := some 164, op := Op.indexAddr 22 (Operand.tmp 162) (Operand.tmp 163), type := 0, pos := "outright.go:66", after := #[{ on := 2, ground := Ground.data }, { on := 3, ground := Ground.data }, { on := 1, ground := Ground.guard }], guard := some (1, false) }) (v := ?_) rfl (by kernel_rfl) (by kernel_rfl) (by kernel_rfl) (fun _ _ _ h => h) (Or.inl ⟨by rfl, ?_⟩) hHeld ?_
             rotate_left
             ·
              intro w hSw
              clear hSw
              go_simp
              try with_reducible rfl
             try simp only [Act.put, sA, sZ, sS]
             refine wpAnyH_take (i := 5) (oi := { dst := some 165, op := Op.fieldAddr 32 (Operand.tmp 164) 0, type := 0, pos := "outright.go:66", after := #[{ on := 4, ground := Ground.data }, { on := 1, ground := Ground.guard }], guard := some (1, false) }) (v := ?_) rfl (by kernel_rfl) (by kernel_rfl) (by kernel_rfl) (fun _ _ _ h => h) (Or.inl ⟨by rfl, ?_⟩) hHeld ?_
             rotate_left
             ·
              intro w hSw
              clear hSw
              go_simp
              try with_reducible rfl
             try simp only [Act.put, sA, sZ, sS]
             refine wpAnyH_take (i := 6) (oi := { dst := some 166, op := Op.load 29 (Operand.tmp 165), type := 29, pos := "outright.go:66", after := #[{ on := 5, ground := Ground.data }, { on := 1, ground := Ground.guard }], guard := some (1, false) }) (v := ?_) rfl (by kernel_rfl) (by kernel_rfl) (by kernel_rfl) (fun _ _ _ h => h) (Or.inl ⟨by rfl, ?_⟩) hHeld ?_
             rotate_left
             ·
              intro w hSw
              obtain ⟨c0, c1, c2, c3, c4, c5⟩ := HROWI.out w (HBQ.out.trans (hSw.mono HBQ.out.size))
              obtain ⟨d0, d1, d2, d3, d4, d5⟩ := HROWK.out w (HBQ.out.trans (hSw.mono HBQ.out.size))
              go_simp
              try with_reducible rfl
             try simp only [Act.put, sA, sZ, sS]
             refine wpAnyH_take (i := 7) (oi := { dst := some 167, op := Op.move (Operand.tmp 0), type := 22, pos := "outright.go:66", after := #[{ on := 1, ground := Ground.guard }], guard := some (1, false) }) (v := ?_) rfl (by kernel_rfl) (by kernel_rfl) (by kernel_rfl) (fun _ _ _ h => h) (Or.inl ⟨by rfl, ?_⟩) hHeld ?_
             rotate_left
             ·
              intro w hSw
              clear hSw
              go_simp
              try with_reducible rfl
             try simp only [Act.put, sA, sZ, sS]
             refine wpAnyH_take (i := 8) (oi := { dst := some 168, op := Op.move (Operand.tmp 10), type := 3, pos := "outright.go:66", after := #[{ on := 1, ground := Ground.guard }], guard := some (1, false) }) (v := ?_) rfl (by kernel_rfl) (by kernel_rfl) (by kernel_rfl) (fun _ _ _ h => h) (Or.inl ⟨by rfl, ?_⟩) hHeld ?_
             rotate_left
             ·
              intro w hSw
              clear hSw
              go_simp
              try with_reducible rfl
             try simp only [Act.put, sA, sZ, sS]
             refine wpAnyH_take (i := 9) (oi := { dst := some 169, op := Op.indexAddr 22 (Operand.tmp 167) (Operand.tmp 168), type := 0, pos := "outright.go:66", after := #[{ on := 7, ground := Ground.data }, { on := 8, ground := Ground.data }, { on := 1, ground := Ground.guard }], guard := some (1, false) }) (v := ?_) rfl (by kernel_rfl) (by kernel_rfl) (by kernel_rfl) (fun _ _ _ h => h) (Or.inl ⟨by rfl, ?_⟩) hHeld ?_
             rotate_left
             ·
              intro w hSw
              clear hSw
              go_simp
              try with_reducible rfl
             try simp only [Act.put, sA, sZ, sS]
             refine wpAnyH_take (i := 10) (oi := { dst := some 170, op := Op.fieldAddr 32 (Operand.tmp 169) 0, type := 0, pos := "outright.go:66", after := #[{ on := 9, ground := Ground.data }, { on := 1, ground := Ground.guard }], guard := some (1, false) }) (v := ?_) rfl (by kernel_rfl) (by kernel_rfl) (by kernel_rfl) (fun _ _ _ h => h) (Or.inl ⟨by rfl, ?_⟩) hHeld ?_
             rotate_left
             ·
              intro w hSw
              clear hSw
              go_simp
              try with_reducible rfl
             try simp only [Act.put, sA, sZ, sS]
             refine wpAnyH_take (i := 11) (oi := { dst := some 171, op := Op.load 29 (Operand.tmp 170), type := 29, pos := "outright.go:66", after := #[{ on := 10, ground := Ground.data }, { on := 1, ground := Ground.guard }], guard := some (1, false) }) (v := ?_) rfl (by kernel_rfl) (by kernel_rfl) (by kernel_rfl) (fun _ _ _ h => h) (Or.inl ⟨by rfl, ?_⟩) hHeld ?_
             rotate_left
             ·
              intro w hSw
              obtain ⟨c0, c1, c2, c3, c4, c5⟩ := HROWI.out w (HBQ.out.trans (hSw.mono HBQ.out.size))
              obtain ⟨d0, d1, d2, d3, d4, d5⟩ := HROWK.out w (HBQ.out.trans (hSw.mono HBQ.out.size))
              go_simp
              try with_reducible rfl
             try simp only [Act.put, sA, sZ, sS]
             refine wpAnyH_take (i := 12) (oi := { dst := some 172, op := Op.binOp BinOp.eql 29 (Operand.tmp 166) (Operand.tmp 171) 29, type := 4, pos := "outright.go:66", after := #[{ on := 6, ground := Ground.data }, { on := 11, ground := Ground.data }, { on := 1, ground := Ground.guard }], guard := some (1, false) }) (v := .bool true) rfl (by kernel_rfl) (by kernel_rfl) (by kernel_rfl) (fun _ _ _ h => h) (Or.inl ⟨by rfl, ?_⟩) hHeld ?_
             ·
              intro w hSw
              clear hSw
              go_simp
              all_goals first | exact ⟨HPF.out.1, HPF.out.2.1, by rw [HPF.out.2.2.1], HPF.out.2.2.2⟩ | (rw [HPF.out.1, HPF.out.2.1, HPF.out.2.2.1, HPF.out.2.2.2]; simp) | simp [HPF.out.1, HPF.out.2.1, HPF.out.2.2.1, HPF.out.2.2.2]
             try simp only [Act.put, sA, sZ, sS]
             refine wpAnyH_take (i := 13) (oi := { dst := some 173, op := Op.move (Operand.tmp 172), type := 4, pos := "outright.go:66", after := #[{ on := 12, ground := Ground.data }, { on := 1, ground := Ground.chain }, { on := 1, ground := Ground.guard }], guard := some (1, false) }) (v := ?_) rfl (by kernel_rfl) (by kernel_rfl) (by kernel_rfl) (fun _ _ _ h => h) (Or.inl ⟨by rfl, ?_⟩) hHeld ?_
             rotate_left
             ·
              intro w hSw
              clear hSw
              go_simp
              try with_reducible rfl
             try simp only [Act.put, sA, sZ, sS]
             refine wpAnyH_take (i := 14) (oi := { dst := some 174, op := Op.move (Operand.tmp 0), type := 22, pos := "outright.go:66", after := #[{ on := 13, ground := Ground.guard }], guard := some (13, true) }) (v := ?_) rfl (by kernel_rfl) (by kernel_rfl) (by kernel_rfl) (fun _ _ _ h => h) (Or.inl ⟨by rfl, ?_⟩) hHeld ?_
             rotate_left
             ·
              intro w hSw
              clear hSw
              go_simp
              try with_reducible rfl
             try simp only [Act.put, sA, sZ, sS]
             refine wpAnyH_take (i := 15) (oi := { dst := some 175, op := Op.move (Operand.tmp 17), type := 3, pos := "outright.go:66", after := #[{ on := 13, ground := Ground.guard }], guard := some (13, true) }) (v := ?_) rfl (by kernel_rfl) (by kernel_rfl) (by kernel_rfl) (fun _ _ _ h => h) (Or.inl ⟨by rfl, ?_⟩) hHeld ?_
             rotate_left
             ·
              intro w hSw
              clear hSw
              go_simp
              try with_reducible rfl
             try simp only [Act.put, sA, sZ, sS]
             refine wpAnyH_take (i := 16) (oi := { dst := some 176, op := Op.indexAddr 22 (Operand.tmp 174) (Operand.tmp 175), type := 0, pos := "outright.go:66", after := #[{ on := 14, ground := Ground.data }, { on := 15, ground := Ground.data }, { on := 13, ground := Ground.guard }], guard := some (13, true) }) (v := ?_) rfl (by kernel_rfl) (by kernel_rfl) (by kernel_rfl) (fun _ _ _ h => h) (Or.inl ⟨by rfl, ?_⟩) hHeld ?_
             rotate_left
             ·
              intro w hSw
              clear hSw
              go_simp
              try with_reducible rfl
             try simp only [Act.put, sA, sZ, sS]
             refine wpAnyH_take (i := 17) (oi := { dst := some 177, op := Op.fieldAddr 32 (Operand.tmp 176) 1, type := 0, pos := "outright.go:66", after := #[{ on := 16, ground := Ground.data }, { on := 13, ground := Ground.guard }], guard := some (13, true) }) (v := ?_) rfl (by kernel_rfl) (by kernel_rfl) (by kernel_rfl) (fun _ _ _ h => h) (Or.inl ⟨by rfl, ?_⟩) hHeld ?_
             rotate_left
             ·
              intro w hSw
              clear hSw
              go_simp
              try with_reducible rfl
             try simp only [Act.put, sA, sZ, sS]
             refine wpAnyH_take (i := 18) (oi := { dst := some 178, op := Op.load 30 (Operand.tmp 177), type := 30, pos := "outright.go:66", after := #[{ on := 17, ground := Ground.data }, { on := 13, ground := Ground.guard }], guard := some (13, true) }) (v := ?_) rfl (by kernel_rfl) (by kernel_rfl) (by kernel_rfl) (fun _ _ _ h => h) (Or.inl ⟨by rfl, ?_⟩) hHeld ?_
             rotate_left
             ·
              intro w hSw
              obtain ⟨c0, c1, c2, c3, c4, c5⟩ := HROWI.out w (HBQ.out.trans (hSw.mono HBQ.out.size))
              obtain ⟨d0, d1, d2, d3, d4, d5⟩ := HROWK.out w (HBQ.out.trans (hSw.mono HBQ.out.size))
              go_simp
              try with_reducible rfl
             try simp only [Act.put, sA, sZ, sS]
             refine wpAnyH_take (i := 19) (oi := { dst := some 179, op := Op.move (Operand.tmp 0), type := 22, pos := "outright.go:66", after := #[{ on := 13, ground := Ground.guard }], guard := some (13, true) }) (v := ?_) rfl (by kernel_rfl) (by kernel_rfl) (by kernel_rfl) (fun _ _ _ h => h) (Or.inl ⟨by rfl, ?_⟩) hHeld ?_
             rotate_left
             ·
              intro w hSw
              clear hSw
              go_simp
              try with_reducible rfl
             try simp only [Act.put, sA, sZ, sS]
             refine wpAnyH_take (i := 20) (oi := { dst := some 180, op := Op.move (Operand.tmp 10), type := 3, pos := "outright.go:66", after := #[{ on := 13, ground := Ground.guard }], guard := some (13, true) }) (v := ?_) rfl (by kernel_rfl) (by kernel_rfl) (by kernel_rfl) (fun _ _ _ h => h) (Or.inl ⟨by rfl, ?_⟩) hHeld ?_
             rotate_left
             ·
              intro w hSw
              clear hSw
              go_simp
              try with_reducible rfl
             try simp only [Act.put, sA, sZ, sS]
             refine wpAnyH_take (i := 21) (oi := { dst := some 181, op := Op.indexAddr 22 (Operand.tmp 179) (Operand.tmp 180), type := 0, pos := "outright.go:66", after := #[{ on := 19, ground := Ground.data }, { on := 20, ground := Ground.data }, { on := 13, ground := Ground.guard }], guard := some (13, true) }) (v := ?_) rfl (by kernel_rfl) (by kernel_rfl) (by kernel_rfl) (fun _ _ _ h => h) (Or.inl ⟨by rfl, ?_⟩) hHeld ?_
             rotate_left
             ·
              intro w hSw
              clear hSw
              go_simp
              try with_reducible rfl
             try simp only [Act.put, sA, sZ, sS]
             refine wpAnyH_take (i := 22) (oi := { dst := some 182, op := Op.fieldAddr 32 (Operand.tmp 181) 1, type := 0, pos := "outright.go:66", after := #[{ on := 21, ground := Ground.data }, { on := 13, ground := Ground.guard }], guard := some (13, true) }) (v := ?_) rfl (by kernel_rfl) (by kernel_rfl) (by kernel_rfl) (fun _ _ _ h => h) (Or.inl ⟨by rfl, ?_⟩) hHeld ?_
             rotate_left
             ·
              intro w hSw
              clear hSw
              go_simp
              try with_reducible rfl
             try simp only [Act.put, sA, sZ, sS]
             refine wpAnyH_take (i := 23) (oi := { dst := some 183, op := Op.load 30 (Operand.tmp 182), type := 30, pos := "outright.go:66", after := #[{ on := 22, ground := Ground.data }, { on := 13, ground := Ground.guard }], guard := some (13, true) }) (v := ?_) rfl (by kernel_rfl) (by kernel_rfl) (by kernel_rfl) (fun _ _ _ h => h) (Or.inl ⟨by rfl, ?_⟩) hHeld ?_
             rotate_left
             ·
              intro w hSw
              obtain ⟨c0, c1, c2, c3, c4, c5⟩ := HROWI.out w (HBQ.out.trans (hSw.mono HBQ.out.size))
              obtain ⟨d0, d1, d2, d3, d4, d5⟩ := HROWK.out w (HBQ.out.trans (hSw.mono HBQ.out.size))
              go_simp
              try with_reducible rfl
             try simp only [Act.put, sA, sZ, sS]
             refine wpAnyH_take (i := 24) (oi := { dst := some 184, op := Op.binOp BinOp.eql 30 (Operand.tmp 178) (Operand.tmp 183) 30, type := 4, pos := "outright.go:66", after := #[{ on := 18, ground := Ground.data }, { on := 23, ground := Ground.data }, { on := 13, ground := Ground.guard }], guard := some (13, true) }) (v := .bool true) rfl (by kernel_rfl) (by kernel_rfl) (by kernel_rfl) (fun _ _ _ h => h) (Or.inl ⟨by rfl, ?_⟩) hHeld ?_
             ·
              intro w hSw
              clear hSw
              go_simp
              all_goals first | exact HID.out | exact congrArg _ HID.out | simp [HID.out]
             try simp only [Act.put, sA, sZ, sS]
             refine wpAnyH_take (i := 25) (oi := { dst := some 185, op := Op.pick (Operand.tmp 173) (Operand.tmp 184) (Operand.const (Value.bool false)), type := 4, pos := "outright.go:66", after := #[{ on := 13, ground := Ground.data }, { on := 24, ground := Ground.data }, { on := 1, ground := Ground.guard }], guard := some (1, false) }) (v := ?_) rfl (by kernel_rfl) (by kernel_rfl) (by kernel_rfl) (fun _ _ _ h => h) (Or.inl ⟨by rfl, ?_⟩) hHeld ?_
             rotate_left
             ·
              intro w hSw
              clear hSw
              go_simp
              try with_reducible rfl
             try simp only [Act.put, sA, sZ, sS]
             refine wpAnyH_take (i := 26) (oi := { dst := some 186, op := Op.pick (Operand.tmp 161) (Operand.const (Value.bool true)) (Operand.tmp 185), type := 4, pos := "outright.go:66", after := #[{ on := 1, ground := Ground.data }, { on := 25, ground := Ground.data }], guard := none }) (v := ?_) rfl (by kernel_rfl) (by kernel_rfl) (by kernel_rfl) (fun _ _ _ h => h) (Or.inl ⟨by rfl, ?_⟩) hHeld ?_
             rotate_left
             ·
              intro w hSw
              clear hSw
              go_simp
              try with_reducible rfl
             try simp only [Act.put, sA, sZ, sS]
             refine wpAnyH_take (i := 27) (oi := { dst := some 16, op := Op.assign (Operand.tmp 186), type := 4, pos := "outright.go:66", after := #[{ on := 26, ground := Ground.data }, { on := 13, ground := Ground.chain }, { on := 0, ground := Ground.phase }, { on := 1, ground := Ground.phase }, { on := 2, ground := Ground.phase }, { on := 3, ground := Ground.phase }, { on := 4, ground := Ground.phase }, { on := 5, ground := Ground.phase }, { on := 6, ground := Ground.phase }, { on := 7, ground := Ground.phase }, { on := 8, ground := Ground.phase }, { on := 9, ground := Ground.phase }, { on := 10, ground := Ground.phase }, { on := 11, ground := Ground.phase }, { on := 12, ground := Ground.phase }, { on := 13, ground := Ground.phase }, { on := 14, ground := Ground.phase }, { on := 15, ground := Ground.phase }, { on := 16, ground := Ground.phase }, { on := 17, ground := Ground.phase }, { on := 18, ground := Ground.phase }, { on := 19, ground := Ground.phase }, { on := 20, ground := Ground.phase }, { on := 21, ground := Ground.phase }, { on := 22, ground := Ground.phase }, { on := 23, ground := Ground.phase }, { on := 24, ground := Ground.phase }, { on := 25, ground := Ground.phase }, { on := 26, ground := Ground.phase }], guard := none }) (v := ?_) rfl (by kernel_rfl) (by kernel_rfl) (by kernel_rfl) (fun _ _ _ h => h) (Or.inl ⟨by rfl, ?_⟩) hHeld ?_
             rotate_left
             ·
              intro w hSw
              clear hSw
              go_simp
              try with_reducible rfl
             try simp only [Act.put, sA, sZ, sS]
             refine wpAnyH_done (by kernel_rfl) ?_ _
             go_upto_region 29 with fail
             refine rb_name fun Z6 hZ6 => ?_
             have hbZ : Below wq.heap.size wq Z6 := by rw [hZ6]; exact hHeld
             have HB6 : Hid (Below Z5.heap.size Z5 Z6) := HBq.out.trans (hbZ.mono HBq.out.size)
             clear hZ6 hbZ hHeld
             go_wp2_with fail
             exact ⟨⟨k + 1, true, rfl, by go_num, by omega, BefQ.yes HY.out HYX.out, HB6.out⟩, by simp [intOf]; omega⟩
            ·
             have HID := Lib.hid hid
             clear hpf hid
             go_upto_region 30 with fail
             refine wp_region_held_drew (S := fun w' => Below wq.heap.size wq w') (by kernel_rfl) (below_drewN (Below.refl _ _) 1) (fun hHeld => ?_)
             refine wpAnyH_take (i := 0) (oi := { dst := some 160, op := Op.move (Operand.tmp 16), type := 4, pos := "outright.go:66", after := #[], guard := none }) (v := ?_) rfl (by kernel_rfl) (by kernel_rfl) (by kernel_rfl) (fun _ _ _ h => h) (Or.inl ⟨by rfl, ?_⟩) hHeld ?_
             rotate_left
             ·
              intro w hSw
              clear hSw
              go_simp
              try with_reducible rfl
             try simp only [Act.put, sA, sZ, sS]
             refine wpAnyH_take (i := 1) (oi := { dst := some 161, op := Op.move (Operand.tmp 160), type := 4, pos := "outright.go:66", after := #[{ on := 0, ground := Ground.data }], guard := none }) (v := ?_) rfl (by kernel_rfl) (by kernel_rfl) (by kernel_rfl) (fun _ _ _ h => h) (Or.inl ⟨by rfl, ?_⟩) hHeld ?_
             rotate_left
             ·
              intro w hSw
              clear hSw
              go_simp
              try with_reducible rfl
             try simp only [Act.put, sA, sZ, sS]
             refine wpAnyH_take (i := 2) (oi := { dst := some 162, op := Op.move (Operand.tmp 0), type := 22, pos := "outright.go:66", after := #[{ on := 1, ground := Ground.guard }], guard := some (1, false) }) (v := ?_) rfl (by kernel_rfl) (by kernel_rfl) (by kernel_rfl) (fun _ _ _ h => h) (Or.inl ⟨by rfl, ?_⟩) hHeld ?_
             rotate_left
             ·
              intro w hSw
              clear hSw
              go_simp
              try with_reducible rfl
             try simp only [Act.put, sA, sZ, sS]
             refine wpAnyH_take (i := 3) (oi := { dst := some 163, op := Op.move (Operand.tmp 17), type := 3, pos := "outright.go:66", after := #[{ on := 1, ground := Ground.guard }], guard := some (1, false) }) (v := ?_) rfl (by kernel_rfl) (by kernel_rfl) (by kernel_rfl) (fun _ _ _ h => h) (Or.inl ⟨by rfl, ?_⟩) hHeld ?_
             rotate_left
             ·
              intro w hSw
              clear hSw
              go_simp
              try with_reducible rfl
             try simp only [Act.put, sA, sZ, sS]
             refine wpAnyH_take (i := 4) (oi := { dst := some 164, op := Op.indexAddr 22 (Operand.tmp 162) (Operand.tmp 163), type := 0, pos := "outright.go:66", after := #[{ on := 2, ground := Ground.data }, { on := 3, ground := Ground.data }, { on := 1, ground := Ground.guard }], guard := some (1, false) }) (v := ?_) rfl (by kernel_rfl) (by kernel_rfl) (by kernel_rfl) (fun _ _ _ h => h) (Or.inl ⟨by rfl, ?_⟩) hHeld ?_
             rotate_left
             ·
              intro w hSw
              clear hSw
              go_simp
              try with_reducible rfl
             try simp only [Act.put, sA, sZ, sS]
             refine wpAnyH_take (i := 5) (oi := { dst := some 165, op := Op.fieldAddr 32 (Operand.tmp 164) 0, type := 0, pos := "outright.go:66", after := #[{ on := 4, ground := Ground.data }, { on := 1, ground := Ground.guard }], guard := some (1, false) }) (v := ?_) rfl (by kernel_rfl) (by kernel_rfl) (by kernel_rfl) (fun _ _ _ h => h) (Or.inl ⟨by rfl, ?_⟩) hHeld ?_
             rotate_left
             ·
              intro w hSw
              clear hSw
              go_simp
              try with_reducible rfl
             try simp only [Act.put, sA, sZ, sS]
             refine wpAnyH_take (i := 6) (oi := { dst := some 166, op := Op.load 29 (Operand.tmp 165), type := 29, pos := "outright.go:66", after := #[{ on := 5, ground := Ground.data }, { on := 1, ground := Ground.guard }], guard := some (1, false) }) (v := ?_) rfl (by kernel_rfl) (by kernel_rfl) (by kernel_rfl) (fun _ _ _ h => h) (Or.inl ⟨by rfl, ?_⟩) hHeld ?_
             rotate_left
             ·
              intro w hSw
              obtain ⟨c0, c1, c2, c3, c4, c5⟩ := HROWI.out w (HBQ.out.trans (hSw.mono HBQ.out.size))
              obtain ⟨d0, d1, d2, d3, d4, d5⟩ := HROWK.out w (HBQ.out.trans (hSw.mono HBQ.out.size))
              go_simp
              try with_reducible rfl
             try simp only [Act.put, sA, sZ, sS]
             refine wpAnyH_take (i := 7) (oi := { dst := some 167, op := Op.move (Operand.tmp 0), type := 22, pos := "outright.go:66", after := #[{ on := 1, ground := Ground.guard }], guard := some (1, false) }) (v := ?_) rfl (by kernel_rfl) (by kernel_rfl) (by kernel_rfl) (fun _ _ _ h => h) (Or.inl ⟨by rfl, ?_⟩) hHeld ?_
             rotate_left
             ·
              intro w hSw
              clear hSw
              go_simp
              try with_reducible rfl
             try simp only [Act.put, sA, sZ, sS]
             refine wpAnyH_take (i := 8) (oi := { dst := some 168, op := Op.move (Operand.tmp 10), type := 3, pos := "outright.go:66", after := #[{ on := 1, ground := Ground.guard }], guard := some (1, false) }) (v := ?_) rfl (by kernel_rfl) (by kernel_rfl) (by kernel_rfl) (fun _ _ _ h => h) (Or.inl ⟨by rfl, ?_⟩) hHeld ?_
             rotate_left
             ·
              intro w hSw
              clear hSw
              go_simp
              try with_reducible rfl
             try simp only [Act.put, sA, sZ, sS]
             refine wpAnyH_take (i := 9) (oi := { dst := some 169, op := Op.indexAddr 22 (Operand.tmp 167) (Operand.tmp 168), type := 0, pos := "outright.go:66", after := #[{ on := 7, ground := Ground.data }, { on := 8, ground := Ground.data }, { on := 1, ground := Ground.guard }], guard := some (1, false) }) (v := ?_) rfl (by kernel_rfl) (by kernel_rfl) (by kernel_rfl) (fun _ _ _ h => h) (Or.inl ⟨by rfl, ?_⟩) hHeld ?_
             rotate_left
             ·
              intro w hSw
              clear hSw
              go_simp
              try with_reducible rfl
             try simp only [Act.put, sA, sZ, sS]
             refine wpAnyH_take (i := 10) (oi := { dst := some 170, op := Op.fieldAddr 32 (Operand.tmp 169) 0, type := 0, pos := "outright.go:66", after := #[{ on := 9, ground := Ground.data }, { on := 1, ground := Ground.guard }], guard := some (1, false) }) (v := ?_) rfl (by kernel_rfl) (by kernel_rfl) (by kernel_rfl) (fun _ _ _ h => h) (Or.inl ⟨by rfl, ?_⟩) hHeld ?_
             rotate_left
             ·
              intro w hSw
              clear hSw
              go_simp
              try with_reducible rfl
             try simp only [Act.put, sA, sZ, sS]
             refine wpAnyH_take (i := 11) (oi := { dst := some 171, op := Op.load 29 (Operand.tmp 170), type := 29, pos := "outright.go:66", after := #[{ on := 10, ground := Ground.data }, { on := 1, ground := Ground.guard }], guard := some (1, false) }) (v := ?_) rfl (by kernel_rfl) (by kernel_rfl) (by kernel_rfl) (fun _ _ _ h => h) (Or.inl ⟨by rfl, ?_⟩) hHeld ?_
             rotate_left
             ·
              intro w hSw
              obtain ⟨c0, c1, c2, c3, c4, c5⟩ := HROWI.out w (HBQ.out.trans (hSw.mono HBQ.out.size))
              obtain ⟨d0, d1, d2, d3, d4, d5⟩ := HROWK.out w (HBQ.out.trans (hSw.mono HBQ.out.size))
              go_simp
              try with_reducible rfl
             try simp only [Act.put, sA, sZ, sS]
             refine wpAnyH_take (i := 12) (oi := { dst := some 172, op := Op.binOp BinOp.eql 29 (Operand.tmp 166) (Operand.tmp 171) 29, type := 4, pos := "outright.go:66", after := #[{ on := 6, ground := Ground.data }, { on := 11, ground := Ground.data }, { on := 1, ground := Ground.guard }], guard := some (1, false) }) (v := .bool true) rfl (by kernel_rfl) (by kernel_rfl) (by kernel_rfl) (fun _ _ _ h => h) (Or.inl ⟨by rfl, ?_⟩) hHeld ?_
             ·
              intro w hSw
              clear hSw
              go_simp
              all_goals first | exact ⟨HPF.out.1, HPF.out.2.1, by rw [HPF.out.2.2.1], HPF.out.2.2.2⟩ | (rw [HPF.out.1, HPF.out.2.1, HPF.out.2.2.1, HPF.out.2.2.2]; simp) | simp [HPF.out.1, HPF.out.2.1, HPF.out.2.2.1, HPF.out.2.2.2]
             try simp only [Act.put, sA, sZ, sS]
             refine wpAnyH_take (i := 13) (oi := { dst := some 173, op := Op.move (Operand.tmp 172), type := 4, pos := "outright.go:66", after := #[{ on := 12, ground := Ground.data }, { on := 1, ground := Ground.chain }, { on := 1, ground := Ground.guard }], guard := some (1, false) }) (v := ?_) rfl (by kernel_rfl) (by kernel_rfl) (by kernel_rfl) (fun _ _ _ h => h) (Or.inl ⟨by rfl, ?_⟩) hHeld ?_
             rotate_left
             ·
              intro w hSw
              clear hSw
              go_simp
              try with_reducible rfl
             try simp only [Act.put, sA, sZ, sS]
             refine wpAnyH_take (i := 14) (oi := { dst := some 174, op := Op.move (Operand.tmp 0), type := 22, pos := "outright.go:66", after := #[{ on := 13, ground := Ground.guard }], guard := some (13, true) }) (v := ?_) rfl (by kernel_rfl) (by kernel_rfl) (by kernel_rfl) (fun _ _ _ h => h) (Or.inl ⟨by rfl, ?_⟩) hHeld ?_
             rotate_left
             ·
              intro w hSw
              clear hSw
              go_simp
              try with_reducible rfl
             try simp only [Act.put, sA, sZ, sS]
             refine wpAnyH_take (i := 15) (oi := { dst := some 175, op := Op.move (Operand.tmp 17), type := 3, pos := "outright.go:66", after := #[{ on := 13, ground := Ground.guard }], guard := some (13, true) }) (v := ?_) rfl (by kernel_rfl) (by kernel_rfl) (by kernel_rfl) (fun _ _ _ h => h) (Or.inl ⟨by rfl, ?_⟩) hHeld ?_
             rotate_left
             ·
              intro w hSw
              clear hSw
              go_simp
              try with_reducible rfl
             try simp only [Act.put, sA, sZ, sS]
             refine wpAnyH_take (i := 16) (oi := { dst := some 176, op := Op.indexAddr 22 (Operand.tmp 174) (Operand.tmp 175), type := 0, pos := "outright.go:66", after := #[{ on := 14, ground := Ground.data }, { on := 15, ground := Ground.data }, { on := 13, ground := Ground.guard }], guard := some (13, true) }) (v := ?_) rfl (by kernel_rfl) (by kernel_rfl) (by kernel_rfl) (fun _ _ _ h => h) (Or.inl ⟨by rfl, ?_⟩) hHeld ?_
             rotate_left
             ·
              intro w hSw
              clear hSw
              go_simp
              try with_reducible rfl
             try simp only [Act.put, sA, sZ, sS]
             refine wpAnyH_take (i := 17) (oi := { dst := some 177, op := Op.fieldAddr 32 (Operand.tmp 176) 1, type := 0, pos := "outright.go:66", after := #[{ on := 16, ground := Ground.data }, { on := 13, ground := Ground.guard }], guard := some (13, true) }) (v := ?_) rfl (by kernel_rfl) (by kernel_rfl) (by kernel_rfl) (fun _ _ _ h => h) (Or.inl ⟨by rfl, ?_⟩) hHeld ?_
             rotate_left
             ·
              intro w hSw
              clear hSw
              go_simp
              try with_reducible rfl
             try simp only [Act.put, sA, sZ, sS]
             refine wpAnyH_take (i := 18) (oi := { dst := some 178, op := Op.load 30 (Operand.tmp 177), type := 30, pos := "outright.go:66", after := #[{ on := 17, ground := Ground.data }, { on := 13, ground := Ground.guard }], guard := some (13, true) }) (v := ?_) rfl (by kernel_rfl) (by kernel_rfl) (by kernel_rfl) (fun _ _ _ h => h) (Or.inl ⟨by rfl, ?_⟩) hHeld ?_
             rotate_left
             ·
              intro w hSw
              obtain ⟨c0, c1, c2, c3, c4, c5⟩ := HROWI.out w (HBQ.out.trans (hSw.mono HBQ.out.size))
              obtain ⟨d0, d1, d2, d3, d4, d5⟩ := HROWK.out w (HBQ.out.trans (hSw.mono HBQ.out.size))
              go_simp
              try with_reducible rfl
             try simp only [Act.put, sA, sZ, sS]
             refine wpAnyH_take (i := 19) (oi := { dst := some 179, op := Op.move (Operand.tmp 0), type := 22, pos := "outright.go:66", after := #[{ on := 13, ground := Ground.guard }], guard := some (13, true) }) (v := ?_) rfl (by kernel_rfl) (by kernel_rfl) (by kernel_rfl) (fun _ _ _ h => h) (Or.inl ⟨by rfl, ?_⟩) hHeld ?_
             rotate_left
             ·
              intro w hSw
              clear hSw
              go_simp
              try with_reducible rfl
             try simp only [Act.put, sA, sZ, sS]
             refine wpAnyH_take (i := 20) (oi := { dst := some 180, op := Op.move (Operand.tmp 10), type := 3, pos := "outright.go:66", after := #[{ on := 13, ground := Ground.guard }], guard := some (13, true) }) (v := ?_) rfl (by kernel_rfl) (by kernel_rfl) (by kernel_rfl) (fun _ _ _ h => h) (Or.inl ⟨by rfl, ?_⟩) hHeld ?_
             rotate_left
             ·
              intro w hSw
              clear hSw
              go_simp
              try with_reducible rfl
             try simp only [Act.put, sA, sZ, sS]
             refine wpAnyH_take (i := 21) (oi := { dst := some 181, op := Op.indexAddr 22 (Operand.tmp 179) (Operand.tmp 180), type := 0, pos := "outright.go:66", after := #[{ on := 19, ground := Ground.data }, { on := 20, ground := Ground.data }, { on := 13, ground := Ground.guard }], guard := some (13, true) }) (v := ?_) rfl (by kernel_rfl) (by kernel_rfl) (by kernel_rfl) (fun _ _ _ h => h) (Or.inl ⟨by rfl, ?_⟩) hHeld ?_
             rotate_left
             ·
              intro w hSw
              clear hSw
              go_simp
              try with_reducible rfl
             try simp only [Act.put, sA, sZ, sS]
             refine wpAnyH_take (i := 22) (oi := { dst := some 182, op := Op.fieldAddr 32 (Operand.tmp 181) 1, type := 0, pos := "outright.go:66", after := #[{ on := 21, ground := Ground.data }, { on := 13, ground := Ground.guard }], guard := some (13, true) }) (v := ?_) rfl (by kernel_rfl) (by kernel_rfl) (by kernel_rfl) (fun _ _ _ h => h) (Or.inl ⟨by rfl, ?_⟩) hHeld ?_
             rotate_left
             ·
              intro w hSw
              clear hSw
              go_simp
              try with_reducible rfl
             try simp only [Act.put, sA, sZ, sS]
             refine wpAnyH_take (i := 23) (oi := { dst := some 183, op := Op.load 30 (Operand.tmp 182), type := 30, pos := "outright.go:66", after := #[{ on := 22, ground := Ground.data }, { on := 13, ground := Ground.guard }], guard := some (13, true) }) (v := ?_) rfl (by kernel_rfl) (by kernel_rfl) (by kernel_rfl) (fun _ _ _ h => h) (Or.inl ⟨by rfl, ?_⟩) hHeld ?_
             rotate_left
             ·
              intro w hSw
              obtain ⟨c0, c1, c2, c3, c4, c5⟩ := HROWI.out w (HBQ.out.trans (hSw.mono HBQ.out.size))
              obtain ⟨d0, d1, d2, d3, d4, d5⟩ := HROWK.out w (HBQ.out.trans (hSw.mono HBQ.out.size))
              go_simp
              try with_reducible rfl
             try simp only [Act.put, sA, sZ, sS]
             refine wpAnyH_take (i := 24) (oi := { dst := some 184, op := Op.binOp BinOp.eql 30 (Operand.tmp 178) (Operand.tmp 183) 30, type := 4, pos := "outright.go:66", after := #[{ on := 18, ground := Ground.data }, { on := 23, ground := Ground.data }, { on := 13, ground := Ground.guard }], guard := some (13, true) }) (v := .bool false) rfl (by kernel_rfl) (by kernel_rfl) (by kernel_rfl) (fun _ _ _ h => h) (Or.inl ⟨by rfl, ?_⟩) hHeld ?_
             ·
              intro w hSw
              clear hSw
              go_simp
              all_goals first | exact HID.out | (intro h; exact HID.out (by omega)) | simp [HID.out]
             try simp only [Act.put, sA, sZ, sS]
             refine wpAnyH_take (i := 25) (oi := { dst := some 185, op := Op.pick (Operand.tmp 173) (Operand.tmp 184) (Operand.const (Value.bool false)), type := 4, pos := "outright.go:66", after := #[{ on := 13, ground := Ground.data }, { on := 24, ground := Ground.data }, { on := 1, ground := Ground.guard }], guard := some (1, false) }) (v := ?_) rfl (by kernel_rfl) (by kernel_rfl) (by kernel_rfl) (fun _ _ _ h => h) (Or.inl ⟨by rfl, ?_⟩) hHeld ?_
             rotate_left
             ·
              intro w hSw
              clear hSw
              go_simp
              try with_reducible rfl
             try simp only [Act.put, sA, sZ, sS]
             refine wpAnyH_take (i := 26) (oi := { dst := some 186, op := Op.pick (Operand.tmp 161) (Operand.const (Value.bool true)) (Operand.tmp 185), type := 4, pos := "outright.go:66", after := #[{ on := 1, ground := Ground.data }, { on := 25, ground := Ground.data }], guard := none }) (v := ?_) rfl (by kernel_rfl) (by kernel_rfl) (by kernel_rfl) (fun _ _ _ h => h) (Or.inl ⟨by rfl, ?_⟩) hHeld ?_
             rotate_left
             ·
              intro w hSw
              clear hSw
              go_simp
              try with_reducible rfl
             try simp only [Act.put, sA, sZ, sS]
             refine wpAnyH_take (i := 27) (oi := { dst := some 16, op := Op.assign (Operand.tmp 186), type := 4, pos := "outright.go:66", after := #[{ on := 26, ground := Ground.data }, { on := 13, ground := Ground.chain }, { on := 0, ground := Ground.phase }, { on := 1, ground := Ground.phase }, { on := 2, ground := Ground.phase }, { on := 3, ground := Ground.phase }, { on := 4, ground := Ground.phase }, { on := 5, ground := Ground.phase }, { on := 6, ground := Ground.phase }, { on := 7, ground := Ground.phase }, { on := 8, ground := Ground.phase }, { on := 9, ground := Ground.phase }, { on := 10, ground := Ground.phase }, { on := 11, ground := Ground.phase }, { on := 12, ground := Ground.phase }, { on := 13, ground := Ground.phase }, { on := 14, ground := Ground.phase }, { on := 15, ground := Ground.phase }, { on := 16, ground := Ground.phase }, { on := 17, ground := Ground.phase }, { on := 18, ground := Ground.phase }, { on := 19, ground := Ground.phase }, { on := 20, ground := Ground.phase }, { on := 21, ground := Ground.phase }, { on := 22, ground := Ground.phase }, { on := 23, ground := Ground.phase }, { on := 24, ground := Ground.phase }, { on := 25, ground := Ground.phase }, { on := 26, ground := Ground.phase }], guard := none }) (v := ?_) rfl (by kernel_rfl) (by kernel_rfl) (by kernel_rfl) (fun _ _ _ h => h) (Or.inl ⟨by rfl, ?_⟩) hHeld ?_
             rotate_left
             ·
              intro w hSw
              clear hSw
              go_simp
              try with_reducible rfl
             try simp only [Act.put, sA, sZ, sS]
             refine wpAnyH_done (by kernel_rfl) ?_ _
             go_upto_region 29 with fail
             refine rb_name fun Z6 hZ6 => ?_
             have hbZ : Below wq.heap.size wq Z6 := by rw [hZ6]; exact hHeld
             have HB6 : Hid (Below Z5.heap.size Z5 Z6) := HBq.out.trans (hbZ.mono HBq.out.size)
             clear hZ6 hbZ hHeld
             go_wp2_with fail
             exact ⟨⟨k + 1, false, rfl, by go_num, by omega, HBF.out.no HY.out (fun h => HID.out (by have h1 : y = x := h; rw [h1])), HB6.out⟩, by simp [intOf]; omega⟩
           ·
            have HPF := Lib.hid hpf
            clear hpf
            go_upto_region 30 with fail
            refine wp_region_held_drew (S := fun w' => Below wq.heap.size wq w') (by kernel_rfl) (below_drewN (Below.refl _ _) 1) (fun hHeld => ?_)
            refine wpAnyH_take (i := 0) (oi := { dst := some 160, op := Op.move (Operand.tmp 16), type := 4, pos := "outright.go:66", after := #[], guard := none }) (v := ?_) rfl (by kernel_rfl) (by kernel_rfl) (by kernel_rfl) (fun _ _ _ h => h) (Or.inl ⟨by rfl, ?_⟩) hHeld ?_
            rotate_left
            ·
             intro w hSw
             clear hSw
             go_simp
             try with_reducible rfl
            try simp only [Act.put, sA, sZ, sS]
            refine wpAnyH_take (i := 1) (oi := { dst := some 161, op := Op.move (Operand.tmp 160), type := 4, pos := "outright.go:66", after := #[{ on := 0, ground := Ground.data }], guard := none }) (v := ?_) rfl (by kernel_rfl) (by kernel_rfl) (by kernel_rfl) (fun _ _ _ h => h) (Or.inl ⟨by rfl, ?_⟩) hHeld ?_
            rotate_left
            ·
             intro w hSw
             clear hSw
             go_simp
             try with_reducible rfl
            try simp only [Act.put, sA, sZ, sS]
            refine wpAnyH_take (i := 2) (oi := { dst := some 162, op := Op.move (Operand.tmp 0), type := 22, pos := "outright.go:66", after := #[{ on := 1, ground := Ground.guard }], guard := some (1, false) }) (v := ?_) rfl (by kernel_rfl) (by kernel_rfl) (by kernel_rfl) (fun _ _ _ h => h) (Or.inl ⟨by rfl, ?_⟩) hHeld ?_
            rotate_left
            ·
             intro w hSw
             clear hSw
             go_simp
             try with_reducible rfl
            try simp only [Act.put, sA, sZ, sS]
            refine wpAnyH_take (i := 3) (oi := { dst := some 163, op := Op.move (Operand.tmp 17), type := 3, pos := "outright.go:66", after := #[{ on := 1, ground := Ground.guard }], guard := some (1, false) }) (v := ?_) rfl (by kernel_rfl) (by kernel_rfl) (by kernel_rfl) (fun _ _ _ h => h) (Or.inl ⟨by rfl, ?_⟩) hHeld ?_
            rotate_left
            ·
             intro w hSw
             clear hSw
             go_simp
             try with_reducible rfl
            try simp only [Act.put, sA, sZ, sS]
            refine wpAnyH_take (i := 4) (oi := { dst := some 164, op := Op.indexAddr 22 (Operand.tmp 162) (Operand.tmp 163), type := 0, pos := "outright.go:66", after := #[{ on := 2, ground := Ground.data }, { on := 3, ground := Ground.data }, { on := 1, ground := Ground.guard }], guard := some (1, false) }) (v := ?_) rfl (by kernel_rfl) (by kernel_rfl) (by kernel_rfl) (fun _ _ _ h => h) (Or.inl ⟨by rfl, ?_⟩) hHeld ?_
            rotate_left
            ·
             intro w hSw
             clear hSw
             go_simp
             try with_reducible rfl
            try simp only [Act.put, sA, sZ, sS]
            refine wpAnyH_take (i := 5) (oi := { dst := some 165, op := Op.fieldAddr 32 (Operand.tmp 164) 0, type := 0, pos := "outright.go:66", after := #[{ on := 4, ground := Ground.data }, { on := 1, ground := Ground.guard }], guard := some (1, false) }) (v := ?_) rfl (by kernel_rfl) (by kernel_rfl) (by kernel_rfl) (fun _ _ _ h => h) (Or.inl ⟨by rfl, ?_⟩) hHeld ?_
            rotate_left
            ·
             intro w hSw
             clear hSw
             go_simp
             try with_reducible rfl
            try simp only [Act.put, sA, sZ, sS]
            refine wpAnyH_take (i := 6) (oi := { dst := some 166, op := Op.load 29 (Operand.tmp 165), type := 29, pos := "outright.go:66", after := #[{ on := 5, ground := Ground.data }, { on := 1, ground := Ground.guard }], guard := some (1, false) }) (v := ?_) rfl (by kernel_rfl) (by kernel_rfl) (by kernel_rfl) (fun _ _ _ h => h) (Or.inl ⟨by rfl, ?_⟩) hHeld ?_
            rotate_left
            ·
             intro w hSw
             obtain ⟨c0, c1, c2, c3, c4, c5⟩ := HROWI.out w (HBQ.out.trans (hSw.mono HBQ.out.size))
             obtain ⟨d0, d1, d2, d3, d4, d5⟩ := HROWK.out w (HBQ.out.trans (hSw.mono HBQ.out.size))
             go_simp
             try with_reducible rfl
            try simp only [Act.put, sA, sZ, sS]
            refine wpAnyH_take (i := 7) (oi := { dst := some 167, op := Op.move (Operand.tmp 0), type := 22, pos := "outright.go:66", after := #[{ on := 1, ground := Ground.guard }], guard := some (1, false) }) (v := ?_) rfl (by kernel_rfl) (by kernel_rfl) (by kernel_rfl) (fun _ _ _ h => h) (Or.inl ⟨by rfl, ?_⟩) hHeld ?_
            rotate_left
            ·
             intro w hSw
             clear hSw
             go_simp
             try with_reducible rfl
            try simp only [Act.put, sA, sZ, sS]
            refine wpAnyH_take (i := 8) (oi := { dst := some 168, op := Op.move (Operand.tmp 10), type := 3, pos := "outright.go:66", after := #[{ on := 1, ground := Ground.guard }], guard := some (1, false) }) (v := ?_) rfl (by kernel_rfl) (by kernel_rfl) (by kernel_rfl) (fun _ _ _ h => h) (Or.inl ⟨by rfl, ?_⟩) hHeld ?_
            rotate_left
            ·
             intro w hSw
             clear hSw
             go_simp
             try with_reducible rfl
            try simp only [Act.put, sA, sZ, sS]
            refine wpAnyH_take (i := 9) (oi := { dst := some 169, op := Op.indexAddr 22 (Operand.tmp 167) (Operand.tmp 168), type := 0, pos := "outright.go:66", after := #[{ on := 7, ground := Ground.data }, { on := 8, ground := Ground.data }, { on := 1, ground := Ground.guard }], guard := some (1, false) }) (v := ?_) rfl (by kernel_rfl) (by kernel_rfl) (by kernel_rfl) (fun _ _ _ h => h) (Or.inl ⟨by rfl, ?_⟩) hHeld ?_
            rotate_left
            ·
             intro w hSw
             clear hSw
             go_simp
             try with_reducible rfl
            try simp only [Act.put, sA, sZ, sS]
            refine wpAnyH_take (i := 10) (oi := { dst := some 170, op := Op.fieldAddr 32 (Operand.tmp 169) 0, type := 0, pos := "outright.go:66", after := #[{ on := 9, ground := Ground.data }, { on := 1, ground := Ground.guard }], guard := some (1, false) }) (v := ?_) rfl (by kernel_rfl) (by kernel_rfl) (by kernel_rfl) (fun _ _ _ h => h) (Or.inl ⟨by rfl, ?_⟩) hHeld ?_
            rotate_left
            ·
             intro w hSw
             clear hSw
             go_simp
             try with_reducible rfl
            try simp only [Act.put, sA, sZ, sS]
            refine wpAnyH_take (i := 11) (oi := { dst := some 171, op := Op.load 29 (Operand.tmp 170), type := 29, pos := "outright.go:66", after := #[{ on := 10, ground := Ground.data }, { on := 1, ground := Ground.guard }], guard := some (1, false) }) (v := ?_) rfl (by kernel_rfl) (by kernel_rfl) (by kernel_rfl) (fun _ _ _ h => h) (Or.inl ⟨by rfl, ?_⟩) hHeld ?_
            rotate_left
            ·
             intro w hSw
             obtain ⟨c0, c1, c2, c3, c4, c5⟩ := HROWI.out w (HBQ.out.trans (hSw.mono HBQ.out.size))
             obtain ⟨d0, d1, d2, d3, d4, d5⟩ := HROWK.out w (HBQ.out.trans (hSw.mono HBQ.out.size))
             go_simp
             try with_reducible rfl
            try simp only [Act.put, sA, sZ, sS]
            refine wpAnyH_take (i := 12) (oi := { dst := some 172, op := Op.binOp BinOp.eql 29 (Operand.tmp 166) (Operand.tmp 171) 29, type := 4, pos := "outright.go:66", after := #[{ on := 6, ground := Ground.data }, { on := 11, ground := Ground.data }, { on := 1, ground := Ground.guard }], guard := some (1, false) }) (v := .bool false) rfl (by kernel_rfl) (by kernel_rfl) (by kernel_rfl) (fun _ _ _ h => h) (Or.inl ⟨by rfl, ?_⟩) hHeld ?_
            ·
             intro w hSw
             clear hSw
             go_simp
             exact pk_no HPF.out
            try simp only [Act.put, sA, sZ, sS]
            refine wpAnyH_take (i := 13) (oi := { dst := some 173, op := Op.move (Operand.tmp 172), type := 4, pos := "outright.go:66", after := #[{ on := 12, ground := Ground.data }, { on := 1, ground := Ground.chain }, { on := 1, ground := Ground.guard }], guard := some (1, false) }) (v := ?_) rfl (by kernel_rfl) (by kernel_rfl) (by kernel_rfl) (fun _ _ _ h => h) (Or.inl ⟨by rfl, ?_⟩) hHeld ?_
            rotate_left
            ·
             intro w hSw
             clear hSw
             go_simp
             try with_reducible rfl
            try simp only [Act.put, sA, sZ, sS]
            refine wpAnyH_take (i := 14) (oi := { dst := some 174, op := Op.move (Operand.tmp 0), type := 22, pos := "outright.go:66", after := #[{ on := 13, ground := Ground.guard }], guard := some (13, true) }) (v := undef) rfl (by kernel_rfl) (by kernel_rfl) (by kernel_rfl) (fun _ _ _ h => h) (Or.inr ⟨by rfl, rfl⟩) hHeld ?_
            try simp only [Act.put, sA, sZ, sS]
            refine wpAnyH_take (i := 15) (oi := { dst := some 175, op := Op.move (Operand.tmp 17), type := 3, pos := "outright.go:66", after := #[{ on := 13, ground := Ground.guard }], guard := some (13, true) }) (v := undef) rfl (by kernel_rfl) (by kernel_rfl) (by kernel_rfl) (fun _ _ _ h => h) (Or.inr ⟨by rfl, rfl⟩) hHeld ?_
            try simp only [Act.put, sA, sZ, sS]
            refine wpAnyH_take (i := 16) (oi := { dst := some 176, op := Op.indexAddr 22 (Operand.tmp 174) (Operand.tmp 175), type := 0, pos := "outright.go:66", after := #[{ on := 14, ground := Ground.data }, { on := 15, ground := Ground.data }, { on := 13, ground := Ground.guard }], guard := some (13, true) }) (v := undef) rfl (by kernel_rfl) (by kernel_rfl) (by kernel_rfl) (fun _ _ _ h => h) (Or.inr ⟨by rfl, rfl⟩) hHeld ?_
            try simp only [Act.put, sA, sZ, sS]
            refine wpAnyH_take (i := 17) (oi := { dst := some 177, op := Op.fieldAddr 32 (Operand.tmp 176) 1, type := 0, pos := "outright.go:66", after := #[{ on := 16, ground := Ground.data }, { on := 13, ground := Ground.guard }], guard := some (13, true) }) (v := undef) rfl (by kernel_rfl) (by kernel_rfl) (by kernel_rfl) (fun _ _ _ h => h) (Or.inr ⟨by rfl, rfl⟩) hHeld ?_
            try simp only [Act.put, sA, sZ, sS]
            refine wpAnyH_take (i := 18) (oi := { dst := some 178, op := Op.load 30 (Operand.tmp 177), type := 30, pos := "outright.go:66", after := #[{ on := 17, ground := Ground.data }, { on := 13, ground := Ground.guard }], guard := some (13, true) }) (v := undef) rfl (by kernel_rfl) (by kernel_rfl) (by kernel_rfl) (fun _ _ _ h => h) (Or.inr ⟨by rfl, rfl⟩) hHeld ?_
            try simp only [Act.put, sA, sZ, sS]
            refine wpAnyH_take (i := 19) (oi := { dst := some 179, op := Op.move (Operand.tmp 0), type := 22, pos := "outright.go:66", after := #[{ on := 13, ground := Ground.guard }], guard := some (13, true) }) (v := undef) rfl (by kernel_rfl) (by kernel_rfl) (by kernel_rfl) (fun _ _ _ h => h) (Or.inr ⟨by rfl, rfl⟩) hHeld ?_
            try simp only [Act.put, sA, sZ, sS]
            refine wpAnyH_take (i := 20) (oi := { dst := some 180, op := Op.move (Operand.tmp 10), type := 3, pos := "outright.go:66", after := #[{ on := 13, ground := Ground.guard }], guard := some (13, true) }) (v := undef) rfl (by kernel_rfl) (by kernel_rfl) (by kernel_rfl) (fun _ _ _ h => h) (Or.inr ⟨by rfl, rfl⟩) hHeld ?_
            try simp only [Act.put, sA, sZ, sS]
            refine wpAnyH_take (i := 21) (oi := { dst := some 181, op := Op.indexAddr 22 (Operand.tmp 179) (Operand.tmp 180), type := 0, pos := "outright.go:66", after := #[{ on := 19, ground := Ground.data }, { on := 20, ground := Ground.data }, { on := 13, ground := Ground.guard }], guard := some (13, true) }) (v := undef) rfl (by kernel_rfl) (by kernel_rfl) (by kernel_rfl) (fun _ _ _ h => h) (Or.inr ⟨by rfl, rfl⟩) hHeld ?_
            try simp only [Act.put, sA, sZ, sS]
            refine wpAnyH_take (i := 22) (oi := { dst := some 182, op := Op.fieldAddr 32 (Operand.tmp 181) 1, type := 0, pos := "outright.go:66", after := #[{ on := 21, ground := Ground.data }, { on := 13, ground := Ground.guard }], guard := some (13, true) }) (v := undef) rfl (by kernel_rfl) (by kernel_rfl) (by kernel_rfl) (fun _ _ _ h => h) (Or.inr ⟨by rfl, rfl⟩) hHeld ?_
            try simp only [Act.put, sA, sZ, sS]
            refine wpAnyH_take (i := 23) (oi := { dst := some 183, op := Op.load 30 (Operand.tmp 182), type := 30, pos := "outright.go:66", after := #[{ on := 22, ground := Ground.data }, { on := 13, ground := Ground.guard }], guard := some (13, true) }) (v := undef) rfl (by kernel_rfl) (by kernel_rfl) (by kernel_rfl) (fun _ _ _ h => h) (Or.inr ⟨by rfl, rfl⟩) hHeld ?_
            try simp only [Act.put, sA, sZ, sS]
            refine wpAnyH_take (i := 24) (oi := { dst := some 184, op := Op.binOp BinOp.eql 30 (Operand.tmp 178) (Operand.tmp 183) 30, type := 4, pos := "outright.go:66", after := #[{ on := 18, ground := Ground.data }, { on := 23, ground := Ground.data }, { on := 13, ground := Ground.guard }], guard := some (13, true) }) (v := undef) rfl (by kernel_rfl) (by kernel_rfl) (by kernel_rfl) (fun _ _ _ h => h) (Or.inr ⟨by rfl, rfl⟩) hHeld ?_
            try simp only [Act.put, sA, sZ, sS]
            refine wpAnyH_take (i := 25) (oi := { dst := some 185, op := Op.pick (Operand.tmp 173) (Operand.tmp 184) (Operand.const (Value.bool false)), type := 4, pos := "outright.go:66", after := #[{ on := 13, ground := Ground.data }, { on := 24, ground := Ground.data }, { on := 1, ground := Ground.guard }], guard := some (1, false) }) (v := ?_) rfl (by kernel_rfl) (by kernel_rfl) (by kernel_rfl) (fun _ _ _ h => h) (Or.inl ⟨by rfl, ?_⟩) hHeld ?_
            rotate_left
            ·
             intro w hSw
             clear hSw
             go_simp
             try with_reducible rfl
            try simp only [Act.put, sA, sZ, sS]
            refine wpAnyH_take (i := 26) (oi := { dst := some 186, op := Op.pick (Operand.tmp 161) (Operand.const (Value.bool true)) (Operand.tmp 185), type := 4, pos := "outright.go:66", after := #[{ on := 1, ground := Ground.data }, { on := 25, ground := Ground.data }], guard := none }) (v := ?_) rfl (by kernel_rfl) (by kernel_rfl) (by kernel_rfl) (fun _ _ _ h => h) (Or.inl ⟨by rfl, ?_⟩) hHeld ?_
            rotate_left
            ·
             intro w hSw
             clear hSw
             go_simp
             try with_reducible rfl
            try simp only [Act.put, sA, sZ, sS]
            refine wpAnyH_take (i := 27) (oi := { dst := some 16, op := Op.assign (Operand.tmp 186), type := 4, pos := "outright.go:66", after := #[{ on := 26, ground := Ground.data }, { on := 13, ground := Ground.chain }, { on := 0, ground := Ground.phase }, { on := 1, ground := Ground.phase }, { on := 2, ground := Ground.phase }, { on := 3, ground := Ground.phase }, { on := 4, ground := Ground.phase }, { on := 5, ground := Ground.phase }, { on := 6, ground := Ground.phase }, { on := 7, ground := Ground.phase }, { on := 8, ground := Ground.phase }, { on := 9, ground := Ground.phase }, { on := 10, ground := Ground.phase }, { on := 11, ground := Ground.phase }, { on := 12, ground := Ground.phase }, { on := 13, ground := Ground.phase }, { on := 14, ground := Ground.phase }, { on := 15, ground := Ground.phase }, { on := 16, ground := Ground.phase }, { on := 17, ground := Ground.phase }, { on := 18, ground := Ground.phase }, { on := 19, ground := Ground.phase }, { on := 20, ground := Ground.phase }, { on := 21, ground := Ground.phase }, { on := 22, ground := Ground.phase }, { on := 23, ground := Ground.phase }, { on := 24, ground := Ground.phase }, { on := 25, ground := Ground.phase }, { on := 26, ground := Ground.phase }], guard := none }) (v := ?_) rfl (by kernel_rfl) (by kernel_rfl) (by kernel_rfl) (fun _ _ _ h => h) (Or.inl ⟨by rfl, ?_⟩) hHeld ?_
            rotate_left
            ·
             intro w hSw
             clear hSw
             go_simp
             try with_reducible rfl
            try simp only [Act.put, sA, sZ, sS]
            refine wpAnyH_done (by kernel_rfl) ?_ _
            go_upto_region 29 with fail
            refine rb_name fun Z6 hZ6 => ?_
            have hbZ : Below wq.heap.size wq Z6 := by rw [hZ6]; exact hHeld
            have HB6 : Hid (Below Z5.heap.size Z5 Z6) := HBq.out.trans (hbZ.mono HBq.out.size)
            clear hZ6 hbZ hHeld
            go_wp2_with fail
            exact ⟨⟨k + 1, false, rfl, by go_num, by omega, HBF.out.no HY.out (fun h => HPF.out (by have h1 : y = x := h; rw [h1]; exact ⟨rfl, rfl, rfl, rfl⟩)), HB6.out⟩, by simp [intOf]; omega⟩
         ·
          have hkn : n = k := by omega
          subst hkn
          as_aux_lemma =>
          have HR7 := Lib.hid (HRZ5.out.below HBq.out)
          have HP7 := Lib.hid (HPA5.out.below HBq.out HPA5.out.lt)
          obtain ⟨Z7, hZ7⟩ : ∃ x, x = wq := ⟨_, rfl⟩
          subst hZ7
          have HB7 := HBQ
          clear HBQ HBq HRZ5 HBZ5 HPA5
          cases hg : goneB g n with
          | true =>
           have hb := gone_one hg0 hg1 hg
           obtain rfl : wt = false := by rw [HWT.out, hg]; rfl
           obtain rfl : is0 = false := by
            rw [HIS.out, show getC (runN (goneB g) (nlL L) N) x = none from HEND.out.1 hg]
            rfl
           clear HIS HEND HWT HFAx8 hg
           go_upto_region 32 with fail
           refine wp_region_held_drew (S := fun w' => Below Z7.heap.size Z7 w') (by kernel_rfl) (below_drewN (Below.refl _ _) 1) (fun hHeld => ?_)
           refine wpAnyH_take (i := 0) (oi := { dst := some 199, op := Op.move (Operand.tmp 14), type := 4, pos := "outright.go:71", after := #[], guard := none }) (v := ?_) rfl (by kernel_rfl) (by kernel_rfl) (by kernel_rfl) (fun _ _ _ h => h) (Or.inl ⟨by rfl, ?_⟩) hHeld ?_
           rotate_left
           ·
            intro w hSw
            clear hSw
            go_simp
            try with_reducible rfl
           try simp only [Act.put, sA, sZ, sS]
           refine wpAnyH_take (i := 1) (oi := { dst := some 200, op := Op.move (Operand.tmp 15), type := 4, pos := "outright.go:71", after := #[], guard := none }) (v := ?_) rfl (by kernel_rfl) (by kernel_rfl) (by kernel_rfl) (fun _ _ _ h => h) (Or.inl ⟨by rfl, ?_⟩) hHeld ?_
           rotate_left
           ·
            intro w hSw
            clear hSw
            go_simp
            try with_reducible rfl
           try simp only [Act.put, sA, sZ, sS]
           refine wpAnyH_take (i := 2) (oi := { dst := some 201, op := Op.binOp BinOp.neq 4 (Operand.tmp 199) (Operand.tmp 200) 4, type := 4, pos := "outright.go:71", after := #[{ on := 0, ground := Ground.data }, { on := 1, ground := Ground.data }], guard := none }) (v := ?_) rfl (by kernel_rfl) (by kernel_rfl) (by kernel_rfl) (fun _ _ _ h => h) (Or.inl ⟨by rfl, ?_⟩) hHeld ?_
           rotate_left
           ·
            intro w hSw
            clear hSw
            go_simp
            try with_reducible rfl
           try simp only [Act.put, sA, sZ, sS]
           refine wpAnyH_take (i := 3) (oi := { dst := some 202, op := Op.move (Operand.tmp 201), type := 4, pos := "outright.go:71", after := #[{ on := 2, ground := Ground.data }], guard := none }) (v := ?_) rfl (by kernel_rfl) (by kernel_rfl) (by kernel_rfl) (fun _ _ _ h => h) (Or.inl ⟨by rfl, ?_⟩) hHeld ?_
           rotate_left
           ·
            intro w hSw
            clear hSw
            go_simp
            try with_reducible rfl
           try simp only [Act.put, sA, sZ, sS]
           refine wpAnyH_take (i := 4) (oi := { dst := some 203, op := Op.move (Operand.tmp 14), type := 4, pos := "outright.go:71", after := #[{ on := 3, ground := Ground.guard }], guard := some (3, false) }) (v := ?_) rfl (by kernel_rfl) (by kernel_rfl) (by kernel_rfl) (fun _ _ _ h => h) (Or.inl ⟨by rfl, ?_⟩) hHeld ?_
           rotate_left
           ·
            intro w hSw
            clear hSw
            go_simp
            try with_reducible rfl
           try simp only [Act.put, sA, sZ, sS]
           refine wpAnyH_take (i := 5) (oi := { dst := some 204, op := Op.move (Operand.tmp 203), type := 4, pos := "outright.go:71", after := #[{ on := 4, ground := Ground.data }, { on := 3, ground := Ground.chain }, { on := 3, ground := Ground.guard }], guard := some (3, false) }) (v := ?_) rfl (by kernel_rfl) (by kernel_rfl) (by kernel_rfl) (fun _ _ _ h => h) (Or.inl ⟨by rfl, ?_⟩) hHeld ?_
           rotate_left
           ·
            intro w hSw
            clear hSw
            go_simp
            try with_reducible rfl
           try simp only [Act.put, sA, sZ, sS]
           refine wpAnyH_take (i := 6) (oi := { dst := some 205, op := Op.fieldAddr 47 (Operand.tmp 13) 3, type := 0, pos := "outright.go:71", after := #[{ on := 5, ground := Ground.guard }], guard := some (5, true) }) (v := undef) rfl (by kernel_rfl) (by kernel_rfl) (by kernel_rfl) (fun _ _ _ h => h) (Or.inr ⟨by rfl, rfl⟩) hHeld ?_
           try simp only [Act.put, sA, sZ, sS]
           refine wpAnyH_take (i := 7) (oi := { dst := some 206, op := Op.fieldAddr 41 (Operand.tmp 205) 4, type := 0, pos := "outright.go:71", after := #[{ on := 6, ground := Ground.data }, { on := 5, ground := Ground.guard }], guard := some (5, true) }) (v := undef) rfl (by kernel_rfl) (by kernel_rfl) (by kernel_rfl) (fun _ _ _ h => h) (Or.inr ⟨by rfl, rfl⟩) hHeld ?_
           try simp only [Act.put, sA, sZ, sS]
           refine wpAnyH_take (i := 8) (oi := { dst := some 207, op := Op.load 30 (Operand.tmp 206), type := 30, pos := "outright.go:71", after := #[{ on := 7, ground := Ground.data }, { on := 5, ground := Ground.guard }], guard := some (5, true) }) (v := undef) rfl (by kernel_rfl) (by kernel_rfl) (by kernel_rfl) (fun _ _ _ h => h) (Or.inr ⟨by rfl, rfl⟩) hHeld ?_
           try simp only [Act.put, sA, sZ, sS]
           refine wpAnyH_take (i := 9) (oi := { dst := some 208, op := Op.move (Operand.tmp 10), type := 3, pos := "outright.go:71", after := #[{ on := 5, ground := Ground.guard }], guard := some (5, true) }) (v := undef) rfl (by kernel_rfl) (by kernel_rfl) (by kernel_rfl) (fun _ _ _ h => h) (Or.inr ⟨by rfl, rfl⟩) hHeld ?_
           try simp only [Act.put, sA, sZ, sS]
           refine wpAnyH_take (i := 10) (oi := { dst := some 209, op := Op.convert 3 30 (Operand.tmp 208), type := 30, pos := "outright.go:71", after := #[{ on := 9, ground := Ground.data }, { on := 5, ground := Ground.guard }], guard := some (5, true) }) (v := undef) rfl (by kernel_rfl) (by kernel_rfl) (by kernel_rfl) (fun _ _ _ h => h) (Or.inr ⟨by rfl, rfl⟩) hHeld ?_
           try simp only [Act.put, sA, sZ, sS]
           refine wpAnyH_take (i := 11) (oi := { dst := some 210, op := Op.binOp BinOp.neq 30 (Operand.tmp 207) (Operand.tmp 209) 30, type := 4, pos := "outright.go:71", after := #[{ on := 8, ground := Ground.data }, { on := 10, ground := Ground.data }, { on := 5, ground := Ground.guard }], guard := some (5, true) }) (v := undef) rfl (by kernel_rfl) (by kernel_rfl) (by kernel_rfl) (fun _ _ _ h => h) (Or.inr ⟨by rfl, rfl⟩) hHeld ?_
           try simp only [Act.put, sA, sZ, sS]
           refine wpAnyH_take (i := 12) (oi := { dst := some 211, op := Op.move (Operand.tmp 210), type := 4, pos := "outright.go:71", after := #[{ on := 11, ground := Ground.data }, { on := 5, ground := Ground.chain }, { on := 5, ground := Ground.guard }], guard := some (5, true) }) (v := undef) rfl (by kernel_rfl) (by kernel_rfl) (by kernel_rfl) (fun _ _ _ h => h) (Or.inr ⟨by rfl, rfl⟩) hHeld ?_
           try simp only [Act.put, sA, sZ, sS]
           refine wpAnyH_take (i := 13) (oi := { dst := some 212, op := Op.fieldAddr 47 (Operand.tmp 13) 2, type := 0, pos := "outright.go:71", after := #[{ on := 12, ground := Ground.guard }], guard := some (12, false) }) (v := undef) rfl (by kernel_rfl) (by kernel_rfl) (by kernel_rfl) (fun _ _ _ h => h) (Or.inr ⟨by rfl, rfl⟩) hHeld ?_
           try simp only [Act.put, sA, sZ, sS]
           refine wpAnyH_take (i := 14) (oi := { dst := some 213, op := Op.load 30 (Operand.tmp 212), type := 30, pos := "outright.go:71", after := #[{ on := 13, ground := Ground.data }, { on := 12, ground := Ground.guard }], guard := some (12, false) }) (v := undef) rfl (by kernel_rfl) (by kernel_rfl) (by kernel_rfl) (fun _ _ _ h => h) (Or.inr ⟨by rfl, rfl⟩) hHeld ?_
           try simp only [Act.put, sA, sZ, sS]
           refine wpAnyH_take (i := 15) (oi := { dst := some 214, op := Op.move (Operand.tmp 0), type := 22, pos := "outright.go:71", after := #[{ on := 12, ground := Ground.guard }], guard := some (12, false) }) (v := undef) rfl (by kernel_rfl) (by kernel_rfl) (by kernel_rfl) (fun _ _ _ h => h) (Or.inr ⟨by rfl, rfl⟩) hHeld ?_
           try simp only [Act.put, sA, sZ, sS]
           refine wpAnyH_take (i := 16) (oi := { dst := some 215, op := Op.move (Operand.tmp 10), type := 3, pos := "outright.go:71", after := #[{ on := 12, ground := Ground.guard }], guard := some (12, false) }) (v := undef) rfl (by kernel_rfl) (by kernel_rfl) (by kernel_rfl) (fun _ _ _ h => h) (Or.inr ⟨by rfl, rfl⟩) hHeld ?_
           try simp only [Act.put, sA, sZ, sS]
           refine wpAnyH_take (i := 17) (oi := { dst := some 216, op := Op.indexAddr 22 (Operand.tmp 214) (Operand.tmp 215), type := 0, pos := "outright.go:71", after := #[{ on := 15, ground := Ground.data }, { on := 16, ground := Ground.data }, { on := 12, ground := Ground.guard }], guard := some (12, false) }) (v := undef) rfl (by kernel_rfl) (by kernel_rfl) (by kernel_rfl) (fun _ _ _ h => h) (Or.inr ⟨by rfl, rfl⟩) hHeld ?_
           try simp only [Act.put, sA, sZ, sS]
           refine wpAnyH_take (i := 18) (oi := { dst := some 217, op := Op.fieldAddr 32 (Operand.tmp 216) 2, type := 0, pos := "outright.go:71", after := #[{ on := 17, ground := Ground.data }, { on := 12, ground := Ground.guard }], guard := some (12, false) }) (v := undef) rfl (by kernel_rfl) (by kernel_rfl) (by kernel_rfl) (fun _ _ _ h => h) (Or.inr ⟨by rfl, rfl⟩) hHeld ?_
           try simp only [Act.put, sA, sZ, sS]
           refine wpAnyH_take (i := 19) (oi := { dst := some 218, op := Op.load 30 (Operand.tmp 217), type := 30, pos := "outright.go:71", after := #[{ on := 18, ground := Ground.data }, { on := 12, ground := Ground.guard }], guard := some (12, false) }) (v := undef) rfl (by kernel_rfl) (by kernel_rfl) (by kernel_rfl) (fun _ _ _ h => h) (Or.inr ⟨by rfl, rfl⟩) hHeld ?_
           try simp only [Act.put, sA, sZ, sS]
           refine wpAnyH_take (i := 20) (oi := { dst := some 219, op := Op.binOp BinOp.neq 30 (Operand.tmp 213) (Operand.tmp 218) 30, type := 4, pos := "outright.go:71", after := #[{ on := 14, ground := Ground.data }, { on := 19, ground := Ground.data }, { on := 12, ground := Ground.guard }], guard := some (12, false) }) (v := undef) rfl (by kernel_rfl) (by kernel_rfl) (by kernel_rfl) (fun _ _ _ h => h) (Or.inr ⟨by rfl, rfl⟩) hHeld ?_
           try simp only [Act.put, sA, sZ, sS]
           refine wpAnyH_take (i := 21) (oi := { dst := some 220, op := Op.pick (Operand.tmp 211) (Operand.const (Value.bool true)) (Operand.tmp 219), type := 4, pos := "outright.go:71", after := #[{ on := 12, ground := Ground.data }, { on := 20, ground := Ground.data }, { on := 5, ground := Ground.guard }], guard := some (5, true) }) (v := undef) rfl (by kernel_rfl) (by kernel_rfl) (by kernel_rfl) (fun _ _ _ h => h) (Or.inr ⟨by rfl, rfl⟩) hHeld ?_
           try simp only [Act.put, sA, sZ, sS]
           refine wpAnyH_take (i := 22) (oi := { dst := some 221, op := Op.move (Operand.tmp 220), type := 4, pos := "outright.go:71", after := #[{ on := 21, ground := Ground.data }, { on := 12, ground := Ground.chain }, { on := 5, ground := Ground.guard }], guard := some (5, true) }) (v := undef) rfl (by kernel_rfl) (by kernel_rfl) (by kernel_rfl) (fun _ _ _ h => h) (Or.inr ⟨by rfl, rfl⟩) hHeld ?_
           try simp only [Act.put, sA, sZ, sS]
           refine wpAnyH_take (i := 23) (oi := { dst := some 222, op := Op.fieldAddr 47 (Operand.tmp 13) 5, type := 0, pos := "outright.go:71", after := #[{ on := 22, ground := Ground.guard }], guard := some (22, false) }) (v := undef) rfl (by kernel_rfl) (by kernel_rfl) (by kernel_rfl) (fun _ _ _ h => h) (Or.inr ⟨by rfl, rfl⟩) hHeld ?_
           try simp only [Act.put, sA, sZ, sS]
           refine wpAnyH_take (i := 24) (oi := { dst := some 223, op := Op.load 4 (Operand.tmp 222), type := 4, pos := "outright.go:71", after := #[{ on := 23, ground := Ground.data }, { on := 22, ground := Ground.guard }], guard := some (22, false) }) (v := undef) rfl (by kernel_rfl) (by kernel_rfl) (by kernel_rfl) (fun _ _ _ h => h) (Or.inr ⟨by rfl, rfl⟩) hHeld ?_
           try simp only [Act.put, sA, sZ, sS]
           refine wpAnyH_take (i := 25) (oi := { dst := some 224, op := Op.pick (Operand.tmp 221) (Operand.const (Value.bool true)) (Operand.tmp 223), type := 4, pos := "outright.go:71", after := #[{ on := 22, ground := Ground.data }, { on := 24, ground := Ground.data }, { on := 5, ground := Ground.guard }], guard := some (5, true) }) (v := undef) rfl (by kernel_rfl) (by kernel_rfl) (by kernel_rfl) (fun _ _ _ h => h) (Or.inr ⟨by rfl, rfl⟩) hHeld ?_
           try simp only [Act.put, sA, sZ, sS]
           refine wpAnyH_take (i := 26) (oi := { dst := some 225, op := Op.pick (Operand.tmp 204) (Operand.tmp 224) (Operand.const (Value.bool false)), type := 4, pos := "outright.go:71", after := #[{ on := 5, ground := Ground.data }, { on := 25, ground := Ground.data }, { on := 3, ground := Ground.guard }], guard := some (3, false) }) (v := ?_) rfl (by kernel_rfl) (by kernel_rfl) (by kernel_rfl) (fun _ _ _ h => h) (Or.inl ⟨by rfl, ?_⟩) hHeld ?_
           rotate_left
           ·
            intro w hSw
            clear hSw
            go_simp
            try with_reducible rfl
           try simp only [Act.put, sA, sZ, sS]
           refine wpAnyH_take (i := 27) (oi := { dst := some 226, op := Op.pick (Operand.tmp 202) (Operand.const (Value.bool true)) (Operand.tmp 225), type := 4, pos := "outright.go:71", after := #[{ on := 3, ground := Ground.data }, { on := 26, ground := Ground.data }], guard := none }) (v := ?_) rfl (by kernel_rfl) (by kernel_rfl) (by kernel_rfl) (fun _ _ _ h => h) (Or.inl ⟨by rfl, ?_⟩) hHeld ?_
           rotate_left
           ·
            intro w hSw
            clear hSw
            go_simp
            try with_reducible rfl
           try simp only [Act.put, sA, sZ, sS]
           refine wpAnyH_done (by kernel_rfl) ?_ _
           go_upto_region 34 with fail
           refine rb_name fun Z8 hZ8 => ?_
           have hbZ : Below Z7.heap.size Z7 Z8 := by rw [hZ8]; exact hHeld
           have HR8 := Lib.hid (HR7.out.below hbZ)
           have HB8 : Hid (Below w.heap.size w Z8) := HB7.out.trans (hbZ.mono HB7.out.size)
           clear hZ8 hbZ hHeld
           go_wp2_with fail
           exact ⟨⟨n + 1, D, rfl, by go_num, by omega, by omega, HCQ.out.next, HR8.out, HB8.out⟩, by simp [intOf]; omega⟩
          | false =>
           have hb := gone_zero hg0 hg1 hg
           by_cases hm : nlMay (nlk x xl)
           ·
            obtain rfl : wt = true := by rw [HWT.out, hg, decide_eq_true hm]; rfl
            have hget : getC (runN (goneB g) (nlL L) N) x = some ⟨x, xl, medC n, false⟩ := HEND.out.2.1 hg hm
            obtain rfl : is0 = true := by
             rw [HIS.out, hget]
             rfl
            have HADD : Hid (CntQ g L (runN (goneB g) (nlL L) N) N (n + 1) (x :: D)) := HCQ.out.add HX.out hlt (List.mem_map.2 ⟨_, (getC_some hget).1, rfl⟩) (.inr hm) HLQ.out
            obtain ⟨hl8, hac, hs8⟩ := HFAx8.out _ hget
            have hl9 : xl = l8 := hl8.symm
            have hs9 : false = s8 := hs8.symm
            clear hl8 hs8
            subst hl9
            subst hs9
            have hmed : a8.med = n := congrArg AtC.med hac
            have HP3 : Hid (∀ W, Below Z7.heap.size Z7 W → W.cell? ⟨g4, 5, none⟩ = some (.int .u32 (xl : Nat)) ∧ W.cell? ⟨g4, 10, none⟩ = some (.int .u32 (n : Nat)) ∧ W.cell? ⟨g4, 28, none⟩ = some (.bool false)) := fun W hW => by
             have h := path_three (HP7.out.below hW HP7.out.lt)
             rw [hmed] at h
             exact h
            clear HIS HEND HWT HFAx8 hg hm hget hac hmed HP7
            go_upto_region 32 with fail
            refine wp_region_held_drew (S := fun w' => Below Z7.heap.size Z7 w') (by kernel_rfl) (below_drewN (Below.refl _ _) 1) (fun hHeld => ?_)
            refine wpAnyH_take (i := 0) (oi := { dst := some 199, op := Op.move (Operand.tmp 14), type := 4, pos := "outright.go:71", after := #[], guard := none }) (v := ?_) rfl (by kernel_rfl) (by kernel_rfl) (by kernel_rfl) (fun _ _ _ h => h) (Or.inl ⟨by rfl, ?_⟩) hHeld ?_
            rotate_left
            ·
             intro w hSw
             clear hSw
             go_simp
             try with_reducible rfl
            try simp only [Act.put, sA, sZ, sS]
            refine wpAnyH_take (i := 1) (oi := { dst := some 200, op := Op.move (Operand.tmp 15), type := 4, pos := "outright.go:71", after := #[], guard := none }) (v := ?_) rfl (by kernel_rfl) (by kernel_rfl) (by kernel_rfl) (fun _ _ _ h => h) (Or.inl ⟨by rfl, ?_⟩) hHeld ?_
            rotate_left
            ·
             intro w hSw
             clear hSw
             go_simp
             try with_reducible rfl
            try simp only [Act.put, sA, sZ, sS]
            refine wpAnyH_take (i := 2) (oi := { dst := some 201, op := Op.binOp BinOp.neq 4 (Operand.tmp 199) (Operand.tmp 200) 4, type := 4, pos := "outright.go:71", after := #[{ on := 0, ground := Ground.data }, { on := 1, ground := Ground.data }], guard := none }) (v := ?_) rfl (by kernel_rfl) (by kernel_rfl) (by kernel_rfl) (fun _ _ _ h => h) (Or.inl ⟨by rfl, ?_⟩) hHeld ?_
            rotate_left
            ·
             intro w hSw
             clear hSw
             go_simp
             try with_reducible rfl
            try simp only [Act.put, sA, sZ, sS]
            refine wpAnyH_take (i := 3) (oi := { dst := some 202, op := Op.move (Operand.tmp 201), type := 4, pos := "outright.go:71", after := #[{ on := 2, ground := Ground.data }], guard := none }) (v := ?_) rfl (by kernel_rfl) (by kernel_rfl) (by kernel_rfl) (fun _ _ _ h => h) (Or.inl ⟨by rfl, ?_⟩) hHeld ?_
            rotate_left
            ·
             intro w hSw
             clear hSw
             go_simp
             try with_reducible rfl
            try simp only [Act.put, sA, sZ, sS]
            refine wpAnyH_take (i := 4) (oi := { dst := some 203, op := Op.move (Operand.tmp 14), type := 4, pos := "outright.go:71", after := #[{ on := 3, ground := Ground.guard }], guard := some (3, false) }) (v := ?_) rfl (by kernel_rfl) (by kernel_rfl) (by kernel_rfl) (fun _ _ _ h => h) (Or.inl ⟨by rfl, ?_⟩) hHeld ?_
            rotate_left
            ·
             intro w hSw
             clear hSw
             go_simp
             try with_reducible rfl
            try simp only [Act.put, sA, sZ, sS]
            refine wpAnyH_take (i := 5) (oi := { dst := some 204, op := Op.move (Operand.tmp 203), type := 4, pos := "outright.go:71", after := #[{ on := 4, ground := Ground.data }, { on := 3, ground := Ground.chain }, { on := 3, ground := Ground.guard }], guard := some (3, false) }) (v := ?_) rfl (by kernel_rfl) (by kernel_rfl) (by kernel_rfl) (fun _ _ _ h => h) (Or.inl ⟨by rfl, ?_⟩) hHeld ?_
            rotate_left
            ·
             intro w hSw
             clear hSw
             go_simp
             try with_reducible rfl
            try simp only [Act.put, sA, sZ, sS]
            refine wpAnyH_take (i := 6) (oi := { dst := some 205, op := Op.fieldAddr 47 (Operand.tmp 13) 3, type := 0, pos := "outright.go:71", after := #[{ on := 5, ground := Ground.guard }], guard := some (5, true) }) (v := ?_) rfl (by kernel_rfl) (by kernel_rfl) (by kernel_rfl) (fun _ _ _ h => h) (Or.inl ⟨by rfl, ?_⟩) hHeld ?_
            rotate_left
            ·
             intro w hSw
             clear hSw
             go_simp
             try with_reducible rfl
            try simp only [Act.put, sA, sZ, sS]
            refine wpAnyH_take (i := 7) (oi := { dst := some 206, op := Op.fieldAddr 41 (Operand.tmp 205) 4, type := 0, pos := "outright.go:71", after := #[{ on := 6, ground := Ground.data }, { on := 5, ground := Ground.guard }], guard := some (5, true) }) (v := ?_) rfl (by kernel_rfl) (by kernel_rfl) (by kernel_rfl) (fun _ _ _ h => h) (Or.inl ⟨by rfl, ?_⟩) hHeld ?_
            rotate_left
            ·
             intro w hSw
             clear hSw
             go_simp
             try with_reducible rfl
            try simp only [Act.put, sA, sZ, sS]
            refine wpAnyH_take (i := 8) (oi := { dst := some 207, op := Op.load 30 (Operand.tmp 206), type := 30, pos := "outright.go:71", after := #[{ on := 7, ground := Ground.data }, { on := 5, ground := Ground.guard }], guard := some (5, true) }) (v := ?_) rfl (by kernel_rfl) (by kernel_rfl) (by kernel_rfl) (fun _ _ _ h => h) (Or.inl ⟨by rfl, ?_⟩) hHeld ?_
            rotate_left
            ·
             intro w hSw
             obtain ⟨c0, c1, c2, c3, c4, c5⟩ := HROWI.out w (HB7.out.trans (hSw.mono HB7.out.size))
             obtain ⟨p5, p10, p28⟩ := HP3.out w hSw
             go_simp
             try with_reducible rfl
            try simp only [Act.put, sA, sZ, sS]
            refine wpAnyH_take (i := 9) (oi := { dst := some 208, op := Op.move (Operand.tmp 10), type := 3, pos := "outright.go:71", after := #[{ on := 5, ground := Ground.guard }], guard := some (5, true) }) (v := ?_) rfl (by kernel_rfl) (by kernel_rfl) (by kernel_rfl) (fun _ _ _ h => h) (Or.inl ⟨by rfl, ?_⟩) hHeld ?_
            rotate_left
            ·
             intro w hSw
             clear hSw
             go_simp
             try with_reducible rfl
            try simp only [Act.put, sA, sZ, sS]
            refine wpAnyH_take (i := 10) (oi := { dst := some 209, op := Op.convert 3 30 (Operand.tmp 208), type := 30, pos := "outright.go:71", after := #[{ on := 9, ground := Ground.data }, { on := 5, ground := Ground.guard }], guard := some (5, true) }) (v := ?_) rfl (by kernel_rfl) (by kernel_rfl) (by kernel_rfl) (fun _ _ _ h => h) (Or.inl ⟨by rfl, ?_⟩) hHeld ?_
            rotate_left
            ·
             intro w hSw
             clear hSw
             go_simp
             try with_reducible rfl
            try simp only [Act.put, sA, sZ, sS]
            refine wpAnyH_take (i := 11) (oi := { dst := some 210, op := Op.binOp BinOp.neq 30 (Operand.tmp 207) (Operand.tmp 209) 30, type := 4, pos := "outright.go:71", after := #[{ on := 8, ground := Ground.data }, { on := 10, ground := Ground.data }, { on := 5, ground := Ground.guard }], guard := some (5, true) }) (v := ?_) rfl (by kernel_rfl) (by kernel_rfl) (by kernel_rfl) (fun _ _ _ h => h) (Or.inl ⟨by rfl, ?_⟩) hHeld ?_
            rotate_left
            ·
             intro w hSw
             clear hSw
             go_simp
             try with_reducible rfl
            try simp only [Act.put, sA, sZ, sS]
            refine wpAnyH_take (i := 12) (oi := { dst := some 211, op := Op.move (Operand.tmp 210), type := 4, pos := "outright.go:71", after := #[{ on := 11, ground := Ground.data }, { on := 5, ground := Ground.chain }, { on := 5, ground := Ground.guard }], guard := some (5, true) }) (v := ?_) rfl (by kernel_rfl) (by kernel_rfl) (by kernel_rfl) (fun _ _ _ h => h) (Or.inl ⟨by rfl, ?_⟩) hHeld ?_
            rotate_left
            ·
             intro w hSw
             clear hSw
             go_simp
             try with_reducible rfl
            try simp only [Act.put, sA, sZ, sS]
            refine wpAnyH_take (i := 13) (oi := { dst := some 212, op := Op.fieldAddr 47 (Operand.tmp 13) 2, type := 0, pos := "outright.go:71", after := #[{ on := 12, ground := Ground.guard }], guard := some (12, false) }) (v := ?_) rfl (by kernel_rfl) (by kernel_rfl) (by kernel_rfl) (fun _ _ _ h => h) (Or.inl ⟨by rfl, ?_⟩) hHeld ?_
            rotate_left
            ·
             intro w hSw
             clear hSw
             go_simp
             try with_reducible rfl
            try simp only [Act.put, sA, sZ, sS]
            refine wpAnyH_take (i := 14) (oi := { dst := some 213, op := Op.load 30 (Operand.tmp 212), type := 30, pos := "outright.go:71", after := #[{ on := 13, ground := Ground.data }, { on := 12, ground := Ground.guard }], guard := some (12, false) }) (v := ?_) rfl (by kernel_rfl) (by kernel_rfl) (by kernel_rfl) (fun _ _ _ h => h) (Or.inl ⟨by rfl, ?_⟩) hHeld ?_
            rotate_left
            ·
             intro w hSw
             obtain ⟨c0, c1, c2, c3, c4, c5⟩ := HROWI.out w (HB7.out.trans (hSw.mono HB7.out.size))
             obtain ⟨p5, p10, p28⟩ := HP3.out w hSw
             go_simp
             try with_reducible rfl
            try simp only [Act.put, sA, sZ, sS]
            refine wpAnyH_take (i := 15) (oi := { dst := some 214, op := Op.move (Operand.tmp 0), type := 22, pos := "outright.go:71", after := #[{ on := 12, ground := Ground.guard }], guard := some (12, false) }) (v := ?_) rfl (by kernel_rfl) (by kernel_rfl) (by kernel_rfl) (fun _ _ _ h => h) (Or.inl ⟨by rfl, ?_⟩) hHeld ?_
            rotate_left
            ·
             intro w hSw
             clear hSw
             go_simp
             try with_reducible rfl
            try simp only [Act.put, sA, sZ, sS]
            refine wpAnyH_take (i := 16) (oi := { dst := some 215, op := Op.move (Operand.tmp 10), type := 3, pos := "outright.go:71", after := #[{ on := 12, ground := Ground.guard }], guard := some (12, false) }) (v := ?_) rfl (by kernel_rfl) (by kernel_rfl) (by kernel_rfl) (fun _ _ _ h => h) (Or.inl ⟨by rfl, ?_⟩) hHeld ?_
            rotate_left
            ·
             intro w hSw
             clear hSw
             go_simp
             try with_reducible rfl
            try simp only [Act.put, sA, sZ, sS]
            refine wpAnyH_take (i := 17) (oi := { dst := some 216, op := Op.indexAddr 22 (Operand.tmp 214) (Operand.tmp 215), type := 0, pos := "outright.go:71", after := #[{ on := 15, ground := Ground.data }, { on := 16, ground := Ground.data }, { on := 12, ground := Ground.guard }], guard := some (12, false) }) (v := ?_) rfl (by kernel_rfl) (by kernel_rfl) (by kernel_rfl) (fun _ _ _ h => h) (Or.inl ⟨by rfl, ?_⟩) hHeld ?_
            rotate_left
            ·
             intro w hSw
             clear hSw
             go_simp
             try with_reducible rfl
            try simp only [Act.put, sA, sZ, sS]
            refine wpAnyH_take (i := 18) (oi := { dst := some 217, op := Op.fieldAddr 32 (Operand.tmp 216) 2, type := 0, pos := "outright.go:71", after := #[{ on := 17, ground := Ground.data }, { on := 12, ground := Ground.guard }], guard := some (12, false) }) (v := ?_) rfl (by kernel_rfl) (by kernel_rfl) (by kernel_rfl) (fun _ _ _ h => h) (Or.inl ⟨by rfl, ?_⟩) hHeld ?_
            rotate_left
            ·
             intro w hSw
             clear hSw
             go_simp
             try with_reducible rfl
            try simp only [Act.put, sA, sZ, sS]
            refine wpAnyH_take (i := 19) (oi := { dst := some 218, op := Op.load 30 (Operand.tmp 217), type := 30, pos := "outright.go:71", after := #[{ on := 18, ground := Ground.data }, { on := 12, ground := Ground.guard }], guard := some (12, false) }) (v := ?_) rfl (by kernel_rfl) (by kernel_rfl) (by kernel_rfl) (fun _ _ _ h => h) (Or.inl ⟨by rfl, ?_⟩) hHeld ?_
            rotate_left
            ·
             intro w hSw
             obtain ⟨c0, c1, c2, c3, c4, c5⟩ := HROWI.out w (HB7.out.trans (hSw.mono HB7.out.size))
             obtain ⟨p5, p10, p28⟩ := HP3.out w hSw
             go_simp
             try with_reducible rfl
            try simp only [Act.put, sA, sZ, sS]
            refine wpAnyH_take (i := 20) (oi := { dst := some 219, op := Op.binOp BinOp.neq 30 (Operand.tmp 213) (Operand.tmp 218) 30, type := 4, pos := "outright.go:71", after := #[{ on := 14, ground := Ground.data }, { on := 19, ground := Ground.data }, { on := 12, ground := Ground.guard }], guard := some (12, false) }) (v := ?_) rfl (by kernel_rfl) (by kernel_rfl) (by kernel_rfl) (fun _ _ _ h => h) (Or.inl ⟨by rfl, ?_⟩) hHeld ?_
            rotate_left
            ·
             intro w hSw
             clear hSw
             go_simp
             try with_reducible rfl
            try simp only [Act.put, sA, sZ, sS]
            refine wpAnyH_take (i := 21) (oi := { dst := some 220, op := Op.pick (Operand.tmp 211) (Operand.const (Value.bool true)) (Operand.tmp 219), type := 4, pos := "outright.go:71", after := #[{ on := 12, ground := Ground.data }, { on := 20, ground := Ground.data }, { on := 5, ground := Ground.guard }], guard := some (5, true) }) (v := ?_) rfl (by kernel_rfl) (by kernel_rfl) (by kernel_rfl) (fun _ _ _ h => h) (Or.inl ⟨by rfl, ?_⟩) hHeld ?_
            rotate_left
            ·
             intro w hSw
             clear hSw
             go_simp
             try with_reducible rfl
            try simp only [Act.put, sA, sZ, sS]
            refine wpAnyH_take (i := 22) (oi := { dst := some 221, op := Op.move (Operand.tmp 220), type := 4, pos := "outright.go:71", after := #[{ on := 21, ground := Ground.data }, { on := 12, ground := Ground.chain }, { on := 5, ground := Ground.guard }], guard := some (5, true) }) (v := ?_) rfl (by kernel_rfl) (by kernel_rfl) (by kernel_rfl) (fun _ _ _ h => h) (Or.inl ⟨by rfl, ?_⟩) hHeld ?_
            rotate_left
            ·
             intro w hSw
             clear hSw
             go_simp
             try with_reducible rfl
            try simp only [Act.put, sA, sZ, sS]
            refine wpAnyH_take (i := 23) (oi := { dst := some 222, op := Op.fieldAddr 47 (Operand.tmp 13) 5, type := 0, pos := "outright.go:71", after := #[{ on := 22, ground := Ground.guard }], guard := some (22, false) }) (v := ?_) rfl (by kernel_rfl) (by kernel_rfl) (by kernel_rfl) (fun _ _ _ h => h) (Or.inl ⟨by rfl, ?_⟩) hHeld ?_
            rotate_left
            ·
             intro w hSw
             clear hSw
             go_simp
             try with_reducible rfl
            try simp only [Act.put, sA, sZ, sS]
            refine wpAnyH_take (i := 24) (oi := { dst := some 223, op := Op.load 4 (Operand.tmp 222), type := 4, pos := "outright.go:71", after := #[{ on := 23, ground := Ground.data }, { on := 22, ground := Ground.guard }], guard := some (22, false) }) (v := ?_) rfl (by kernel_rfl) (by kernel_rfl) (by kernel_rfl) (fun _ _ _ h => h) (Or.inl ⟨by rfl, ?_⟩) hHeld ?_
            rotate_left
            ·
             intro w hSw
             obtain ⟨c0, c1, c2, c3, c4, c5⟩ := HROWI.out w (HB7.out.trans (hSw.mono HB7.out.size))
             obtain ⟨p5, p10, p28⟩ := HP3.out w hSw
             go_simp
             try with_reducible rfl
            try simp only [Act.put, sA, sZ, sS]
            refine wpAnyH_take (i := 25) (oi := { dst := some 224, op := Op.pick (Operand.tmp 221) (Operand.const (Value.bool true)) (Operand.tmp 223), type := 4, pos := "outright.go:71", after := #[{ on := 22, ground := Ground.data }, { on := 24, ground := Ground.data }, { on := 5, ground := Ground.guard }], guard := some (5, true) }) (v := ?_) rfl (by kernel_rfl) (by kernel_rfl) (by kernel_rfl) (fun _ _ _ h => h) (Or.inl ⟨by rfl, ?_⟩) hHeld ?_
            rotate_left
            ·
             intro w hSw
             clear hSw
             go_simp
             try with_reducible rfl
            try simp only [Act.put, sA, sZ, sS]
            refine wpAnyH_take (i := 26) (oi := { dst := some 225, op := Op.pick (Operand.tmp 204) (Operand.tmp 224) (Operand.const (Value.bool false)), type := 4, pos := "outright.go:71", after := #[{ on := 5, ground := Ground.data }, { on := 25, ground := Ground.data }, { on := 3, ground := Ground.guard }], guard := some (3, false) }) (v := ?_) rfl (by kernel_rfl) (by kernel_rfl) (by kernel_rfl) (fun _ _ _ h => h) (Or.inl ⟨by rfl, ?_⟩) hHeld ?_
            rotate_left
            ·
             intro w hSw
             clear hSw
             go_simp
             try with_reducible rfl
            try simp only [Act.put, sA, sZ, sS]
            refine wpAnyH_take (i := 27) (oi := { dst := some 226, op := Op.pick (Operand.tmp 202) (Operand.const (Value.bool true)) (Operand.tmp 225), type := 4, pos := "outright.go:71", after := #[{ on := 3, ground := Ground.data }, { on := 26, ground := Ground.data }], guard := none }) (v := ?_) rfl (by kernel_rfl) (by kernel_rfl) (by kernel_rfl) (fun _ _ _ h => h) (Or.inl ⟨by rfl, ?_⟩) hHeld ?_
            rotate_left
            ·
             intro w hSw
             clear hSw
             go_simp
             try with_reducible rfl
            try simp only [Act.put, sA, sZ, sS]
            refine wpAnyH_done (by kernel_rfl) ?_ _
            go_upto_region 34 with fail
            refine rb_name fun Z8 hZ8 => ?_
            have hbZ : Below Z7.heap.size Z7 Z8 := by rw [hZ8]; exact hHeld
            have HR8 := Lib.hid (HR7.out.below hbZ)
            have HB8 : Hid (Below w.heap.size w Z8) := HB7.out.trans (hbZ.mono HB7.out.size)
            clear hZ8 hbZ hHeld
            go_wp2_with fail
            exact ⟨⟨n + 1, x :: D, by go_num, by go_num, by omega, by rw [List.length_cons]; omega, HADD.out, HR8.out, HB8.out⟩, by simp [intOf]; omega⟩
           ·
            obtain rfl : wt = false := by rw [HWT.out, hg, decide_eq_false hm]; rfl
            cases bf with
            | true =>
             clear HIS HEND HWT HFAx8 hg hm
             go_wp2_with fail
             exact ⟨⟨n + 1, D, rfl, by go_num, by omega, by omega, HCQ.out.next, HR7.out, HB7.out⟩, by simp [intOf]; omega⟩
            | false =>
             have hnone : getC (runN (goneB g) (nlL L) N) x = none := HEND.out.2.2 hg hm fun j y h1 h2 h3 => by
              have := HBF.out.2 ⟨j, y, h1, h2, h3⟩
              cases this
             obtain rfl : is0 = false := by
              rw [HIS.out, hnone]
              rfl
             clear HIS HEND HWT HFAx8 hg hm hnone
             go_upto_region 32 with fail
             refine wp_region_held_drew (S := fun w' => Below Z7.heap.size Z7 w') (by kernel_rfl) (below_drewN (Below.refl _ _) 1) (fun hHeld => ?_)
             refine wpAnyH_take (i := 0) (oi := { dst := some 199, op := Op.move (Operand.tmp 14), type := 4, pos := "outright.go:71", after := #[], guard := none }) (v := ?_) rfl (by kernel_rfl) (by kernel_rfl) (by kernel_rfl) (fun _ _ _ h => h) (Or.inl ⟨by rfl, ?_⟩) hHeld ?_
             rotate_left
             ·
              intro w hSw
              clear hSw
              go_simp
              try with_reducible rfl
             try simp only [Act.put, sA, sZ, sS]
             refine wpAnyH_take (i := 1) (oi := { dst := some 200, op := Op.move (Operand.tmp 15), type := 4, pos := "outright.go:71", after := #[], guard := none }) (v := ?_) rfl (by kernel_rfl) (by kernel_rfl) (by kernel_rfl) (fun _ _ _ h => h) (Or.inl ⟨by rfl, ?_⟩) hHeld ?_
             rotate_left
             ·
              intro w hSw
              clear hSw
              go_simp
              try with_reducible rfl
             try simp only [Act.put, sA, sZ, sS]
             refine wpAnyH_take (i := 2) (oi := { dst := some 201, op := Op.binOp BinOp.neq 4 (Operand.tmp 199) (Operand.tmp 200) 4, type := 4, pos := "outright.go:71", after := #[{ on := 0, ground := Ground.data }, { on := 1, ground := Ground.data }], guard := none }) (v := ?_) rfl (by kernel_rfl) (by kernel_rfl) (by kernel_rfl) (fun _ _ _ h => h) (Or.inl ⟨by rfl, ?_⟩) hHeld ?_
             rotate_left
             ·
              intro w hSw
              clear hSw
              go_simp
              try with_reducible rfl
             try simp only [Act.put, sA, sZ, sS]
             refine wpAnyH_take (i := 3) (oi := { dst := some 202, op := Op.move (Operand.tmp 201), type := 4, pos := "outright.go:71", after := #[{ on := 2, ground := Ground.data }], guard := none }) (v := ?_) rfl (by kernel_rfl) (by kernel_rfl) (by kernel_rfl) (fun _ _ _ h => h) (Or.inl ⟨by rfl, ?_⟩) hHeld ?_
             rotate_left
             ·
              intro w hSw
              clear hSw
              go_simp
              try with_reducible rfl
             try simp only [Act.put, sA, sZ, sS]
             refine wpAnyH_take (i := 4) (oi := { dst := some 203, op := Op.move (Operand.tmp 14), type := 4, pos := "outright.go:71", after := #[{ on := 3, ground := Ground.guard }], guard := some (3, false) }) (v := ?_) rfl (by kernel_rfl) (by kernel_rfl) (by kernel_rfl) (fun _ _ _ h => h) (Or.inl ⟨by rfl, ?_⟩) hHeld ?_
             rotate_left
             ·
              intro w hSw
              clear hSw
              go_simp
              try with_reducible rfl
             try simp only [Act.put, sA, sZ, sS]
             refine wpAnyH_take (i := 5) (oi := { dst := some 204, op := Op.move (Operand.tmp 203), type := 4, pos := "outright.go:71", after := #[{ on := 4, ground := Ground.data }, { on := 3, ground := Ground.chain }, { on := 3, ground := Ground.guard }], guard := some (3, false) }) (v := ?_) rfl (by kernel_rfl) (by kernel_rfl) (by kernel_rfl) (fun _ _ _ h => h) (Or.inl ⟨by rfl, ?_⟩) hHeld ?_
             rotate_left
             ·
              intro w hSw
              clear hSw
              go_simp
              try with_reducible rfl
             try simp only [Act.put, sA, sZ, sS]
             refine wpAnyH_take (i := 6) (oi := { dst := some 205, op := Op.fieldAddr 47 (Operand.tmp 13) 3, type := 0, pos := "outright.go:71", after := #[{ on := 5, ground := Ground.guard }], guard := some (5, true) }) (v := undef) rfl (by kernel_rfl) (by kernel_rfl) (by kernel_rfl) (fun _ _ _ h => h) (Or.inr ⟨by rfl, rfl⟩) hHeld ?_
             try simp only [Act.put, sA, sZ, sS]
             refine wpAnyH_take (i := 7) (oi := { dst := some 206, op := Op.fieldAddr 41 (Operand.tmp 205) 4, type := 0, pos := "outright.go:71", after := #[{ on := 6, ground := Ground.data }, { on := 5, ground := Ground.guard }], guard := some (5, true) }) (v := undef) rfl (by kernel_rfl) (by kernel_rfl) (by kernel_rfl) (fun _ _ _ h => h) (Or.inr ⟨by rfl, rfl⟩) hHeld ?_
             try simp only [Act.put, sA, sZ, sS]
             refine wpAnyH_take (i := 8) (oi := { dst := some 207, op := Op.load 30 (Operand.tmp 206), type := 30, pos := "outright.go:71", after := #[{ on := 7, ground := Ground.data }, { on := 5, ground := Ground.guard }], guard := some (5, true) }) (v := undef) rfl (by kernel_rfl) (by kernel_rfl) (by kernel_rfl) (fun _ _ _ h => h) (Or.inr ⟨by rfl, rfl⟩) hHeld ?_
             try simp only [Act.put, sA, sZ, sS]
             refine wpAnyH_take (i := 9) (oi := { dst := some 208, op := Op.move (Operand.tmp 10), type := 3, pos := "outright.go:71", after := #[{ on := 5, ground := Ground.guard }], guard := some (5, true) }) (v := undef) rfl (by kernel_rfl) (by kernel_rfl) (by kernel_rfl) (fun _ _ _ h => h) (Or.inr ⟨by rfl, rfl⟩) hHeld ?_
             try simp only [Act.put, sA, sZ, sS]
             refine wpAnyH_take (i := 10) (oi := { dst := some 209, op := Op.convert 3 30 (Operand.tmp 208), type := 30, pos := "outright.go:71", after := #[{ on := 9, ground := Ground.data }, { on := 5, ground := Ground.guard }], guard := some (5, true) }) (v := undef) rfl (by kernel_rfl) (by kernel_rfl) (by kernel_rfl) (fun _ _ _ h => h) (Or.inr ⟨by rfl, rfl⟩) hHeld ?_
             try simp only [Act.put, sA, sZ, sS]
             refine wpAnyH_take (i := 11) (oi := { dst := some 210, op := Op.binOp BinOp.neq 30 (Operand.tmp 207) (Operand.tmp 209) 30, type := 4, pos := "outright.go:71", after := #[{ on := 8, ground := Ground.data }, { on := 10, ground := Ground.data }, { on := 5, ground := Ground.guard }], guard := some (5, true) }) (v := undef) rfl (by kernel_rfl) (by kernel_rfl) (by kernel_rfl) (fun _ _ _ h => h) (Or.inr ⟨by rfl, rfl⟩) hHeld ?_
             try simp only [Act.put, sA, sZ, sS]
             refine wpAnyH_take (i := 12) (oi := { dst := some 211, op := Op.move (Operand.tmp 210), type := 4, pos := "outright.go:71", after := #[{ on := 11, ground := Ground.data }, { on := 5, ground := Ground.chain }, { on := 5, ground := Ground.guard }], guard := some (5, true) }) (v := undef) rfl (by kernel_rfl) (by kernel_rfl) (by kernel_rfl) (fun _ _ _ h => h) (Or.inr ⟨by rfl, rfl⟩) hHeld ?_
             try simp only [Act.put, sA, sZ, sS]
             refine wpAnyH_take (i := 13) (oi := { dst := some 212, op := Op.fieldAddr 47 (Operand.tmp 13) 2, type := 0, pos := "outright.go:71", after := #[{ on := 12, ground := Ground.guard }], guard := some (12, false) }) (v := undef) rfl (by kernel_rfl) (by kernel_rfl) (by kernel_rfl) (fun _ _ _ h => h) (Or.inr ⟨by rfl, rfl⟩) hHeld ?_
             try simp only [Act.put, sA, sZ, sS]
             refine wpAnyH_take (i := 14) (oi := { dst := some 213, op := Op.load 30 (Operand.tmp 212), type := 30, pos := "outright.go:71", after := #[{ on := 13, ground := Ground.data }, { on := 12, ground := Ground.guard }], guard := some (12, false) }) (v := undef) rfl (by kernel_rfl) (by kernel_rfl) (by kernel_rfl) (fun _ _ _ h => h) (Or.inr ⟨by rfl, rfl⟩) hHeld ?_
             try simp only [Act.put, sA, sZ, sS]
             refine wpAnyH_take (i := 15) (oi := { dst := some 214, op := Op.move (Operand.tmp 0), type := 22, pos := "outright.go:71", after := #[{ on := 12, ground := Ground.guard }], guard := some (12, false) }) (v := undef) rfl (by kernel_rfl) (by kernel_rfl) (by kernel_rfl) (fun _ _ _ h => h) (Or.inr ⟨by rfl, rfl⟩) hHeld ?_
             try simp only [Act.put, sA, sZ, sS]
             refine wpAnyH_take (i := 16) (oi := { dst := some 215, op := Op.move (Operand.tmp 10), type := 3, pos := "outright.go:71", after := #[{ on := 12, ground := Ground.guard }], guard := some (12, false) }) (v := undef) rfl (by kernel_rfl) (by kernel_rfl) (by kernel_rfl) (fun _ _ _ h => h) (Or.inr ⟨by rfl, rfl⟩) hHeld ?_
             try simp only [Act.put, sA, sZ, sS]
             refine wpAnyH_take (i := 17) (oi := { dst := some 216, op := Op.indexAddr 22 (Operand.tmp 214) (Operand.tmp 215), type := 0, pos := "outright.go:71", after := #[{ on := 15, ground := Ground.data }, { on := 16, ground := Ground.data }, { on := 12, ground := Ground.guard }], guard := some (12, false) }) (v := undef) rfl (by kernel_rfl) (by kernel_rfl) (by kernel_rfl) (fun _ _ _ h => h) (Or.inr ⟨by rfl, rfl⟩) hHeld ?_
             try simp only [Act.put, sA, sZ, sS]
             refine wpAnyH_take (i := 18) (oi := { dst := some 217, op := Op.fieldAddr 32 (Operand.tmp 216) 2, type := 0, pos := "outright.go:71", after := #[{ on := 17, ground := Ground.data }, { on := 12, ground := Ground.guard }], guard := some (12, false) }) (v := undef) rfl (by kernel_rfl) (by kernel_rfl) (by kernel_rfl) (fun _ _ _ h => h) (Or.inr ⟨by rfl, rfl⟩) hHeld ?_
             try simp only [Act.put, sA, sZ, sS]
             refine wpAnyH_take (i := 19) (oi := { dst := some 218, op := Op.load 30 (Operand.tmp 217), type := 30, pos := "outright.go:71", after := #[{ on := 18, ground := Ground.data }, { on := 12, ground := Ground.guard }], guard := some (12, false) }) (v := undef) rfl (by kernel_rfl) (by kernel_rfl) (by kernel_rfl) (fun _ _ _ h => h) (Or.inr ⟨by rfl, rfl⟩) hHeld ?_
             try simp only [Act.put, sA, sZ, sS]
             refine wpAnyH_take (i := 20) (oi := { dst := some 219, op := Op.binOp BinOp.neq 30 (Operand.tmp 213) (Operand.tmp 218) 30, type := 4, pos := "outright.go:71", after := #[{ on := 14, ground := Ground.data }, { on := 19, ground := Ground.data }, { on := 12, ground := Ground.guard }], guard := some (12, false) }) (v := undef) rfl (by kernel_rfl) (by kernel_rfl) (by kernel_rfl) (fun _ _ _ h => h) (Or.inr ⟨by rfl, rfl⟩) hHeld ?_
             try simp only [Act.put, sA, sZ, sS]
             refine wpAnyH_take (i := 21) (oi := { dst := some 220, op := Op.pick (Operand.tmp 211) (Operand.const (Value.bool true)) (Operand.tmp 219), type := 4, pos := "outright.go:71", after := #[{ on := 12, ground := Ground.data }, { on := 20, ground := Ground.data }, { on := 5, ground := Ground.guard }], guard := some (5, true) }) (v := undef) rfl (by kernel_rfl) (by kernel_rfl) (by kernel_rfl) (fun _ _ _ h => h) (Or.inr ⟨by rfl, rfl⟩) hHeld ?_
             try simp only [Act.put, sA, sZ, sS]
             refine wpAnyH_take (i := 22) (oi := { dst := some 221, op := Op.move (Operand.tmp 220), type := 4, pos := "outright.go:71", after := #[{ on := 21, ground := Ground.data }, { on := 12, ground := Ground.chain }, { on := 5, ground := Ground.guard }], guard := some (5, true) }) (v := undef) rfl (by kernel_rfl) (by kernel_rfl) (by kernel_rfl) (fun _ _ _ h => h) (Or.inr ⟨by rfl, rfl⟩) hHeld ?_
             try simp only [Act.put, sA, sZ, sS]
             refine wpAnyH_take (i := 23) (oi := { dst := some 222, op := Op.fieldAddr 47 (Operand.tmp 13) 5, type := 0, pos := "outright.go:71", after := #[{ on := 22, ground := Ground.guard }], guard := some (22, false) }) (v := undef) rfl (by kernel_rfl) (by kernel_rfl) (by kernel_rfl) (fun _ _ _ h => h) (Or.inr ⟨by rfl, rfl⟩) hHeld ?_
             try simp only [Act.put, sA, sZ, sS]
             refine wpAnyH_take (i := 24) (oi := { dst := some 223, op := Op.load 4 (Operand.tmp 222), type := 4, pos := "outright.go:71", after := #[{ on := 23, ground := Ground.data }, { on := 22, ground := Ground.guard }], guard := some (22, false) }) (v := undef) rfl (by kernel_rfl) (by kernel_rfl) (by kernel_rfl) (fun _ _ _ h => h) (Or.inr ⟨by rfl, rfl⟩) hHeld ?_
             try simp only [Act.put, sA, sZ, sS]
             refine wpAnyH_take (i := 25) (oi := { dst := some 224, op := Op.pick (Operand.tmp 221) (Operand.const (Value.bool true)) (Operand.tmp 223), type := 4, pos := "outright.go:71", after := #[{ on := 22, ground := Ground.data }, { on := 24, ground := Ground.data }, { on := 5, ground := Ground.guard }], guard := some (5, true) }) (v := undef) rfl (by kernel_rfl) (by kernel_rfl) (by kernel_rfl) (fun _ _ _ h => h) (Or.inr ⟨by rfl, rfl⟩) hHeld ?_
             try simp only [Act.put, sA, sZ, sS]
             refine wpAnyH_take (i := 26) (oi := { dst := some 225, op := Op.pick (Operand.tmp 204) (Operand.tmp 224) (Operand.const (Value.bool false)), type := 4, pos := "outright.go:71", after := #[{ on := 5, ground := Ground.data }, { on := 25, ground := Ground.data }, { on := 3, ground := Ground.guard }], guard := some (3, false) }) (v := ?_) rfl (by kernel_rfl) (by kernel_rfl) (by kernel_rfl) (fun _ _ _ h => h) (Or.inl ⟨by rfl, ?_⟩) hHeld ?_
             rotate_left
             ·
              intro w hSw
              clear hSw
              go_simp
              try with_reducible rfl
             try simp only [Act.put, sA, sZ, sS]
             refine wpAnyH_take (i := 27) (oi := { dst := some 226, op := Op.pick (Operand.tmp 202) (Operand.const (Value.bool true)) (Operand.tmp 225), type := 4, pos := "outright.go:71", after := #[{ on := 3, ground := Ground.data }, { on := 26, ground := Ground.data }], guard := none }) (v := ?_) rfl (by kernel_rfl) (by kernel_rfl) (by kernel_rfl) (fun _ _ _ h => h) (Or.inl ⟨by rfl, ?_⟩) hHeld ?_
             rotate_left
             ·
              intro w hSw
              clear hSw
              go_simp
              try with_reducible rfl
             try simp only [Act.put, sA, sZ, sS]
             refine wpAnyH_done (by kernel_rfl) ?_ _
             go_upto_region 34 with fail
             refine rb_name fun Z8 hZ8 => ?_
             have hbZ : Below Z7.heap.size Z7 Z8 := by rw [hZ8]; exact hHeld
             have HR8 := Lib.hid (HR7.out.below hbZ)
             have HB8 : Hid (Below w.heap.size w Z8) := HB7.out.trans (hbZ.mono HB7.out.size)
             clear hZ8 hbZ hHeld
             go_wp2_with fail
             exact ⟨⟨n + 1, D, rfl, by go_num, by omega, by omega, HCQ.out.next, HR8.out, HB8.out⟩, by simp [intOf]; omega⟩
       ·
        have hlab : ((la : Int) != (n : Int)) = true := bne_iff_ne.2 (by omega)
        go_wp2_with fail
        exact ⟨⟨n + 1, D, rfl, by go_num, by omega, by omega, HCQ.out.next, HRZ4.out, HBZ4.out⟩, by simp [intOf]; omega⟩
    ·
     have hnN : N = n := by omega
     subst hnN
     as_aux_lemma =>
     have HS5 : Hid (sumC (runN (goneB g) (nlL L) N) 5 = (runN (goneB g) (nlL L) N).length) := sum_all (run_fams _ _ _)
     have hge : D.length ≤ (runN (goneB g) (nlL L) N).length := HCQ.out.le
     have hml : (runN (goneB g) (nlL L) N).length ≤ N := run_len _ _ _
     clear HCQ HL
     generalize runN (goneB g) (nlL L) N = MF at HS5 hge hml HRz
     generalize hD : D.length = dl at hge ⊢
     clear hD
     go_wp2_with fail
     go_loopw [18, 19] (fun al fa wr => ∃ f : Nat, f ≤ 5 ∧ fa = .int .i64 (f + 1 : Nat) ∧ al = .int .i64 (sumC MF f : Nat) ∧ Hid (RibM wr bs b m 0 MF) ∧ Hid (Below w.heap.size w wr)) (fun _ fa _ => 7 - (intOf fa).toNat)
     case atStart => exact ⟨0, by omega, rfl, rfl, HRz.out, HBz.out⟩
     case round =>
      clear HRz HBz
      obtain ⟨wy, hwy⟩ : ∃ x, x = wr := ⟨_, rfl⟩
      subst hwy
      obtain ⟨f, hf, rfl, rfl, HRy, HBy⟩ := hrel
      by_cases hf5 : f < 5
      ·
       have HCT := Lib.hid (rcountM_any HRy.out (f + 1 : Nat))
       have hsum : Hid (sumC MF (f + 1) = sumC MF f + cntC MF (f + 1 : Nat)) := rfl
       have hle : cntC MF (f + 1 : Nat) ≤ MF.length := List.length_filter_le ..
       have hle2 : sumC MF f ≤ f * MF.length := sum_le MF f
       have hfm : f * MF.length ≤ 5 * 60 := Nat.mul_le_mul (by omega) (by omega)
       generalize cntC MF (f + 1 : Nat) = ct at HCT hsum hle
       generalize hsf : sumC MF f = sf at hsum hle2 ⊢
       have hw1 : IntKind.i64.wrap ((sf : Int) + ct) = ((sf + ct : Nat) : Int) := by rw [IntWalk.i64_in _ (by omega)]; omega
       clear hsf hle hle2 hml hfm
       go_wp2_with fail
       refine HCT.out.mono ?_
       rintro e w4 ⟨rfl, hb4⟩
       have HR4 := Lib.hid (HRy.out.below hb4)
       have HB4 : Hid (Below w.heap.size w w4) := HBy.out.trans (hb4.mono HBy.out.size)
       clear hb4
       go_wp2_with fail
       exact ⟨⟨f + 1, by omega, by go_num, by rw [hsum.out, Int.natCast_add], HR4.out, HB4.out⟩, by simp [intOf]; omega⟩
      ·
       obtain rfl : f = 5 := by omega
       rw [HS5.out]
       go_wp2_with fail
       go_ret
       exact ⟨by rfl, HBy.out⟩
set_option maxHeartbeats 4000000 in
set_option maxRecDepth 100000 in
theorem ribNewest_lifted (os : Os) (started : os.Started) (H : Type) (enc : TypeId × Value → H) :
    ReturnsInHanded {} Try.checked os 3 .any (Rows.ribNewestSpec.pre6 enc Try.prog Try.f3 Rows.ribNewestRow.domain false) (Rows.ribNewestSpec.post enc Try.prog Try.f3 false true false false) := by
  refine returnsInHanded_of_change_sized (C := Try.checked) own started (by kernel_rfl) Try.func3
    (ChangeSpec.witness6 (enc := enc) (C := Try.checked) false ⟨#[], #[.slice none 0 0, .int .u64 0], []⟩ 8 (by kernel_rfl) (by kernel_rfl) (by kernel_rfl) (by kernel_rfl)) ?_
  intro W base args ds gs before hval0 hW hcnd hsz _
  have hval : ∀ (j : Nat) t v, Try.f3.params[j]? = some t → args[j]? = some v → Value.okWide Try.prog W .any base t v := hval0
  have hW' := hW
  obtain ⟨p, q, hA0, hV, rfl, hfz, hnd⟩ := hW
  have hA : DataW.TrodAll enc Try.prog W 0 (fun _ => true) true Try.f3.params.toList args.toList ds p := hA0
  rw [Try.params3] at hA hval
  obtain ⟨v0, vs0, d0, ds0, p0, q0, hargs, rfl, rfl, h0, r0⟩ := trodAll_cons hA
  obtain ⟨v1, vs1, d1, ds1, p1, q1, rfl, rfl, rfl, h1, r1⟩ := trodAll_cons r0
  obtain ⟨rfl, rfl, rfl⟩ := trodAll_nil r1
  obtain rfl : args = #[v0, v1] := by cases args; simp_all
  obtain ⟨rfl, rfl⟩ := trodVars_none hV
  obtain ⟨A0, len0, cap0, rfl⟩ := okWide_slice Try.underlying22 (hval 0 22 v0 rfl rfl)
  obtain ⟨fu0, hf0⟩ := h0
  obtain ⟨A, l, cap, hv0, hok⟩ := open_nrs (v := .slice A0 len0 cap0) (x := (d0, p0)) hf0 (light_of hsz (j := 0) rfl rfl)
  injection hv0 with ea0 eb0 ec0
  subst ea0
  subst eb0
  subst ec0
  obtain ⟨g, rfl, rfl, rfl, wf_g⟩ := open_int Try.underlying23 (hval 1 23 v1 rfl rfl) h1
  obtain ⟨hg0, hg1⟩ : 0 ≤ g ∧ g ≤ 18446744073709551615 := by simpa [Lit.wf, IntKind.min, IntKind.max, IntKind.signed, IntKind.bits] using wf_g
  refine (newest_walk A0 l cap0 g hg0 (by omega) W hok).mono fun e W' ⟨he, bel⟩ => ?_
  exact ⟨_, he, law_post laidOut (by kernel_rfl) rfl (by kernel_rfl) Try.underlying4 hW' rfl bel⟩

theorem ribNewest_holds : Rows.RibNewestSaid :=
  OpenClaim.holds_of_wide 3 Try.f3 rfl rfl rfl rfl rfl rfl rfl ⟨rfl, rfl, rfl, rfl, rfl⟩ rfl rfl rfl rfl rfl (by kernel_rfl) Try.func3 (by kernel_rfl)
    (of_decide_eq_true (by kernel_rfl)) (by unfold Func.isWrapper; first | (rw [if_pos (by decide +kernel)]; kernel_rfl) | (rw [if_neg (by decide +kernel)]; exact ⟨rfl, rfl⟩))
    (fun os started H enc _ => ribNewest_lifted os started H enc)
end Go.Proofs.Ytldpcliahfiloaa
