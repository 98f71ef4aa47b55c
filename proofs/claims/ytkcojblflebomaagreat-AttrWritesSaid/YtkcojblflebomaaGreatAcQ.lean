/-
  attr.Write and heraldref06.Write at any attributes. Conditions: sizes.
-/
import Derived.Test.YtkcojblflebomaaGreatAcM
import Derived.Test.YtkcojblflebomaaGreatAcK
import Derived.Test.YtkcojblflebomaaGreatAbO
set_option linter.unusedVariables false
set_option linter.unusedSimpArgs false
namespace Go.Proofs.YtkcojblflebomaaGreat
open Go.RowKit Go.MapKept Go.Shelf
open Go.Lib hiding intOf

set_option maxRecDepth 100000 in
set_option maxHeartbeats 4000000 in
theorem write_no (a : Atr) (four : Bool) (w : World) (h : AtrOk w a) (hno : atOk a.c = false) :
    Calls Tryz.prog 25 #[.agg a.ar, .bool four] w fun e w' => e = .returned (.tuple #[.slice none 0 0, .int .i64 2]) ∧ Below w.heap.size w w' := by
  have HA := Lib.hid h
  have HCK : Hid (∀ W, AtrOk W a → Calls Tryz.prog 26 #[.agg a.ar] W fun e w' => e = .returned (.int .i64 2) ∧ Below W.heap.size W w') := fun W h => by
    have h2 := check_any a W h
    rwa [hno] at h2
  clear h hno
  obtain ⟨V, hV⟩ : ∃ V, V = w.alloc (.cells a.ar 40) := ⟨_, rfl⟩
  have HC : Hid (CellsAt V w.heap.size a.ar 40) := by rw [hV]; exact CellsAt.new _ _ _
  have HB : Hid (Below w.heap.size w V) := by rw [hV]; exact (Below.refl _ _).alloc (Nat.le_refl _) _
  go_enter Tryz.func25, Tryz.ntmps25
  go_upto_region 1 with fail
  rw [← hV]
  clear hV
  go_wp2_with (with_reducible show wpList _ _ _ (_ :: _) _ _; refine wpList_load_attrs rfl (.tmp 2) rfl w.heap.size rfl a HC.out ?_)
  refine (HCK.out _ (HA.out.below HB.out (Nat.le_refl _))).mono ?_
  rintro e V1 ⟨rfl, hb⟩
  have HB1 : Hid (Below w.heap.size w V1) := HB.out.trans (hb.mono HB.out.size)
  clear hb HB HC
  go_wp2_with fail
  go_ret2
  exact ⟨rfl, HB1.out⟩
set_option maxRecDepth 100000 in
set_option maxHeartbeats 4000000 in
theorem rwrite_no (a : Atr) (four : Bool) (w : World) (h : AtrOk w a) (hno : atOk a.c = false) :
    Calls Tryz.prog 28 #[.agg a.ar, .bool four] w fun e w' => e = .returned (.tuple #[.slice none 0 0, .int .i64 2]) ∧ Below w.heap.size w w' := by
  have HA := Lib.hid h
  have HCK : Hid (∀ W, AtrOk W a → Calls Tryz.prog 29 #[.agg a.ar] W fun e w' => e = .returned (.int .i64 2) ∧ Below W.heap.size W w') := fun W h => by
    have h2 := rcheck_any a W h
    rwa [hno] at h2
  clear h hno
  obtain ⟨V, hV⟩ : ∃ V, V = w.alloc (.cells a.ar 40) := ⟨_, rfl⟩
  have HC : Hid (CellsAt V w.heap.size a.ar 40) := by rw [hV]; exact CellsAt.new _ _ _
  have HB : Hid (Below w.heap.size w V) := by rw [hV]; exact (Below.refl _ _).alloc (Nat.le_refl _) _
  go_enter Tryz.func28, Tryz.ntmps28
  go_upto_region 1 with fail
  rw [← hV]
  clear hV
  go_wp2_with (with_reducible show wpList _ _ _ (_ :: _) _ _; refine wpList_load_attrs rfl (.tmp 2) rfl w.heap.size rfl a HC.out ?_)
  refine (HCK.out _ (HA.out.below HB.out (Nat.le_refl _))).mono ?_
  rintro e V1 ⟨rfl, hb⟩
  have HB1 : Hid (Below w.heap.size w V1) := HB.out.trans (hb.mono HB.out.size)
  clear hb HB HC
  go_wp2_with fail
  go_ret2
  exact ⟨rfl, HB1.out⟩
theorem bts_fits {l : List UInt8} {n : Nat} (h : l.length ≤ n) : (bts l).size ≤ n := by rw [bts_size]; exact h
theorem optR_fits {is : Bool} {f t : UInt8} {v : ByteArray} {n : Nat} (h : v.size ≤ n) : ∀ r ∈ optR is f t v, r.v.size ≤ n := fun r hr => by
  unfold optR at hr
  split at hr
  · rw [List.mem_singleton.1 hr]; exact h
  · cases hr
theorem as_len (four : Bool) : ∀ l : List Nat, (l.flatMap (asB four)).length ≤ 4 * l.length
  | [] => by simp
  | n :: r => by
    rw [List.flatMap_cons, List.length_append, List.length_cons]
    have h1 : (asB four n).length ≤ 4 := by
      unfold asB
      split
      · rw [beB_len]; exact Nat.le_refl _
      · split
        · rw [beB_len]; omega
        · rw [beB_len]; omega
    have h2 := as_len four r
    omega
theorem path_len (four : Bool) : ∀ l : List (Int × List Nat), (∀ s ∈ l, segOk s = true) → (pathB four l).length ≤ 1022 * l.length
  | [], _ => by simp [pathB]
  | s :: r, h => by
    show (segB four s ++ pathB four r).length ≤ _
    rw [List.length_append, List.length_cons]
    have h1 := path_len four r (fun q hq => h q (List.mem_cons_of_mem _ hq))
    have h2 := segOk_parts (h s (List.mem_cons_self ..))
    have h3 : (segB four s).length ≤ 1022 := by
      unfold segB
      rw [List.length_append, List.length_append, beB_len, beB_len]
      have := as_len four s.2
      omega
    omega
theorem writeF_fits {c : AtC} (four : Bool) (h : atOk c = true) : ∀ r ∈ writeF c four, r.v.size ≤ 20000 := by
  have hp := pathOk_parts (atOk_path h).1
  have hk := (atOk_path h).2.2.2
  have hq := path_len four c.path hp.2
  unfold atOk at h
  simp only [Bool.and_eq_true] at h
  have hn := h.1.1.2
  have hL := h.2
  unfold listsOk at hL
  simp only [Bool.and_eq_true, decide_eq_true_eq] at hL
  obtain ⟨⟨⟨_, _, hm⟩, _, hx⟩, _, hl⟩ := hL
  have hns : c.next.size ≤ 16 := by
    unfold nextOk at hn
    simp only [Bool.or_eq_true, beq_iff_eq] at hn
    omega
  intro r hr
  unfold writeF W1 W2 W3 W4 at hr
  simp only [List.mem_append] at hr
  have b1 := beB_len c.origin.toNat 1 1
  have b2 := beB_len c.med 4 4
  have b3 := beB_len c.pref 4 4
  have b4 := beB_len c.orig 4 4
  have ba : (aggB four c.aggAs ++ beB c.aggId 4 4).length ≤ 8 := by
    rw [List.length_append, beB_len]
    have : (aggB four c.aggAs).length ≤ 4 := by
      unfold aggB
      split
      · rw [beB_len]; exact Nat.le_refl _
      · split
        · rw [beB_len]; omega
        · rw [beB_len]; omega
    omega
  have w1 := words_len c.comms
  have w2 := words_len c.clus
  have w3 := exts_len c.exts
  have w4 := lgs_len c.larges
  rcases hr with (((((hr | hr) | hr) | ((hr | hr) | hr)) | ((hr | hr) | hr)) | ((hr | hr) | hr))
  · exact optR_fits (bts_fits (by omega)) r hr
  · exact optR_fits (bts_fits (by omega)) r hr
  · exact optR_fits (by omega) r hr
  · exact optR_fits (bts_fits (by omega)) r hr
  · exact optR_fits (bts_fits (by omega)) r hr
  · exact optR_fits (bts_fits (by simp)) r hr
  · exact optR_fits (bts_fits (by omega)) r hr
  · exact optR_fits (bts_fits (by omega)) r hr
  · exact optR_fits (bts_fits (by omega)) r hr
  · exact optR_fits (bts_fits (by omega)) r hr
  · exact optR_fits (bts_fits (by omega)) r hr
  · exact optR_fits (bts_fits (by omega)) r hr
def wrL (c : AtC) (four : Bool) : List Rw := if atOk c = true then writeF c four else []
def wrE (c : AtC) : Int := if atOk c = true then 0 else 2
theorem write_any (a : Atr) (four : Bool) (w : World) (h : AtrOk w a) :
    Calls Tryz.prog 25 #[.agg a.ar, .bool four] w fun e w' => (∃ A c, e = .returned (.tuple #[.slice A (wrL a.c four).length c, .int .i64 (wrE a.c)]) ∧ RwsOk w' A c (wrL a.c four)) ∧ Below w.heap.size w w' := by
  unfold wrL wrE
  cases hok : atOk a.c with
  | true =>
    rw [if_pos rfl, if_pos rfl]
    refine (write_ok a four w h hok (enc_spec hok)).mono ?_
    rintro e w' ⟨⟨v, rfl, ho⟩, hb⟩
    obtain ⟨A, c, rfl, hr⟩ := ho.raws (fun r hr => Nat.le_trans (writeF_fits four hok r hr) (by decide))
    exact ⟨⟨A, c, rfl, hr⟩, hb⟩
  | false =>
    rw [if_neg (by simp), if_neg (by simp)]
    refine (write_no a four w h hok).mono ?_
    rintro e w' ⟨rfl, hb⟩
    exact ⟨⟨none, 0, rfl, ⟨fun hl => absurd hl (by simp), Nat.le_refl _, by decide, fun r hr => by cases hr⟩⟩, hb⟩
theorem rwrite_any (a : Atr) (four : Bool) (w : World) (h : AtrOk w a) :
    Calls Tryz.prog 28 #[.agg a.ar, .bool four] w fun e w' => (∃ A c, e = .returned (.tuple #[.slice A (wrL a.c four).length c, .int .i64 (wrE a.c)]) ∧ RwsOk w' A c (wrL a.c four)) ∧ Below w.heap.size w w' := by
  unfold wrL wrE
  cases hok : atOk a.c with
  | true =>
    rw [if_pos rfl, if_pos rfl]
    refine (rwrite_ok a four w h hok).mono ?_
    rintro e w' ⟨⟨v, rfl, ho⟩, hb⟩
    obtain ⟨A, c, rfl, hr⟩ := ho.raws (fun r hr => Nat.le_trans (writeF_fits four hok r hr) (by decide))
    exact ⟨⟨A, c, rfl, hr⟩, hb⟩
  | false =>
    rw [if_neg (by simp), if_neg (by simp)]
    refine (rwrite_no a four w h hok).mono ?_
    rintro e w' ⟨rfl, hb⟩
    exact ⟨⟨none, 0, rfl, ⟨fun hl => absurd hl (by simp), Nat.le_refl _, by decide, fun r hr => by cases hr⟩⟩, hb⟩
end Go.Proofs.YtkcojblflebomaaGreat
