/-
  Several texts in one.
-/
import Derived.Test.YtldpcliahfiloaaKW53
set_option linter.unusedVariables false
set_option linter.unusedSimpArgs false
namespace Go.Proofs.Ytldpcliahfiloaa
open Go.RowKit Go.MapKept Go.Shelf
open Go.ChangeShapes Go.WideShapes Go.ChangeAt
open Go.ChangeMaps (open_string shut_string)
open Go.Lib hiding intOf
open Go.Sort hiding Below

/-- a rib that is none -/
def NoRib (w : World) (v : Value) : Prop := ∀ W, Below w.heap.size w W → Calls Try.prog 23 #[v] W fun e w' => e = .returned (.bool true) ∧ w' = W
theorem NoRib.below {w w' : World} {v : Value} (h : NoRib w v) (hb : Below w.heap.size w w') : NoRib w' v := fun W hW => h W (hb.trans (hW.mono hb.size))
theorem no_nil (w : World) : NoRib w (.pointer none) := fun W _ => by
  go_enter Try.func23, Try.ntmps23
  go_wp2_with fail
  go_ret
  exact ⟨rfl, rfl⟩
theorem no_empty {w : World} {b : Nat} (h : CellsAt w b #[.int .i64 0, .map none] 63) : NoRib w (.pointer (some ⟨b, 0, none⟩)) := fun W hW => by
  have q1 := fun (w : World) (r : Option Nat) => run_eql_map_nil (P := Try.prog) w 61 _ _ r Try.underlying61
  obtain ⟨c0, c1⟩ := (h.below hW h.lt).c2
  go_enter Try.func23, Try.ntmps23
  go_wp2_with fail
  go_ret
  exact ⟨rfl, rfl⟩
theorem nput_any {w : World} {v : Value} (h : NoRib w v) (k : Pk) (label : Nat) (a : Atr) :
    Calls Try.prog 10 #[v, .agg (nlA k label), .agg a.ar] w fun e w' => e = .returned (.tuple #[.bool false, .int .i64 1]) ∧ Below w.heap.size w w' := by
  have H := Lib.hid h
  clear h
  unfold nlA
  go_enter Try.func10, Try.ntmps10
  go_upto_region 1 with fail
  refine rb_name fun V0 hV0 => ?_
  have HB0 : Hid (Below w.heap.size w V0) := by rw [hV0]; exact ((Below.refl _ _).alloc (Nat.le_refl _) _).alloc (by simp) _
  clear hV0
  go_wp2_with fail
  refine (H.out V0 HB0.out).mono ?_
  rintro e w2 ⟨rfl, hw2⟩
  subst w2
  go_wp2_with fail
  go_ret2
  exact ⟨rfl, HB0.out⟩
theorem nget_any {w : World} {v : Value} (h : NoRib w v) (k : Pk) :
    Calls Try.prog 13 #[v, .agg k.pf, .int .u32 (k.id : Nat)] w fun e w' => e = .returned (.tuple #[.agg (pathAr noPk 0 noAtr false), .bool false]) ∧ Below w.heap.size w w' := by
  have H := Lib.hid h
  clear h
  unfold Pk.pf
  go_enter Try.func13, Try.ntmps13
  go_upto_region 1 with fail
  refine rb_name fun V0 hV0 => ?_
  obtain ⟨s, hs⟩ : ∃ s, s = w.heap.size := ⟨_, rfl⟩
  have HQ0 : Hid (CellsAt V0 (s + 1) (pathAr noPk 0 noAtr false) 47) := by
    have h := CellsAt.new (w.alloc (.cells (#[.int .i64 k.fam, .int .u64 k.rd, .string k.addr, .int .i64 k.len]) 29)) (pathAr noPk 0 noAtr false) 47
    rw [World.size_alloc] at h
    rw [hV0, hs]
    exact h
  have HB0 : Hid (Below w.heap.size w V0) := by rw [hV0]; exact ((Below.refl _ _).alloc (Nat.le_refl _) _).alloc (by simp) _
  have HS : Hid (s = w.heap.size) := hs
  rw [← hs]
  clear hV0 hs
  go_wp2_with fail
  refine (H.out V0 HB0.out).mono ?_
  rintro e w2 ⟨rfl, hw2⟩
  subst w2
  go_wp2_with (with_reducible show wpList _ _ _ (_ :: _) _ _; refine wpList_store_path rfl (.tmp 6) (.tmp 13) rfl (s + 1) rfl noPk 0 noAtr false rfl _ HQ0.out rfl ?_)
  have HF : Hid (CellsAt (V0.setRow (s + 1) (pathAr noPk 0 noAtr false)) (s + 1) (pathAr noPk 0 noAtr false) 47) := HQ0.out.setRow' _
  have HBF : Hid (Below w.heap.size w (V0.setRow (s + 1) (pathAr noPk 0 noAtr false))) := HB0.out.grown (grown_setRow' _ _ _) HB0.out.size (fun q hq => by cases hq; have := HS.out; omega)
  exact bodyPost_ret (results_path2 rfl _ _ (s + 1) _ rfl (.bool false) rfl rfl HF.out) rfl ⟨rfl, HBF.out⟩
theorem ngone_any {w : World} {v : Value} (h : NoRib w v) (k : Pk) (label : Nat) :
    Calls Try.prog 9 #[v, .agg (nlA k label)] w fun e w' => e = .returned (.bool false) ∧ Below w.heap.size w w' := by
  have H := Lib.hid h
  clear h
  unfold nlA
  go_enter Try.func9, Try.ntmps9
  go_upto_region 1 with fail
  refine rb_name fun V0 hV0 => ?_
  have HB0 : Hid (Below w.heap.size w V0) := by rw [hV0]; exact (Below.refl _ _).alloc (Nat.le_refl _) _
  clear hV0
  go_wp2_with fail
  refine (H.out V0 HB0.out).mono ?_
  rintro e w2 ⟨rfl, hw2⟩
  subst w2
  go_wp2_with fail
  go_ret
  exact ⟨rfl, HB0.out⟩
theorem nplaces_any {w : World} {v : Value} (h : NoRib w v) (fam : Int) (g : Value) :
    Calls Try.prog 29 #[v, .int .i64 fam, g] w fun e w' => e = .returned (.slice none 0 0) ∧ w' = w := by
  have H := Lib.hid (h w (Below.refl _ _))
  clear h
  go_enter Try.func29, Try.ntmps29
  go_wp2_with fail
  refine H.out.mono ?_
  rintro e w2 ⟨rfl, hw2⟩
  subst w2
  go_wp2_with fail
  go_ret
  exact ⟨rfl, rfl⟩
theorem ncount_any {w : World} {v : Value} (h : NoRib w v) (fam : Int) :
    Calls Try.prog 14 #[v, .int .i64 fam] w fun e w' => e = .returned (.int .i64 0) ∧ w' = w := by
  have H := Lib.hid (fun g => nplaces_any h fam g)
  clear h
  go_enter Try.func14, Try.ntmps14
  go_wp2_with fail
  refine (H.out _).mono ?_
  rintro e w2 ⟨rfl, hw2⟩
  subst w2
  go_wp2_with fail
  go_ret
  exact ⟨rfl, rfl⟩
theorem nmark_any {w : World} {v : Value} (h : NoRib w v) (fam : Int) :
    Calls Try.prog 16 #[v, .int .i64 fam] w fun e w' => e = .returned (.int .i64 0) ∧ w' = w := by
  have H := Lib.hid (fun g => nplaces_any h fam g)
  clear h
  go_enter Try.func16, Try.ntmps16
  go_wp2_with fail
  refine (H.out _).mono ?_
  rintro e w2 ⟨rfl, hw2⟩
  subst w2
  go_wp2_with fail
  go_loopw [14] (fun jv wr => jv = .int .i64 0 ∧ wr = w) (fun _ _ => 0)
  case atStart => exact ⟨rfl, rfl⟩
  case round =>
    obtain ⟨rfl, rfl⟩ := hrel
    go_wp2_with fail
    go_ret
    exact ⟨rfl, rfl⟩
theorem ntake_none (v : Value) (w : World) :
    Calls Try.prog 35 #[v, .slice none 0 0] w fun e w' => e = .returned (.slice none 0 0) ∧ w' = w := by
  go_enter Try.func35, Try.ntmps35
  go_wp2_with fail
  go_loopw [10, 5] (fun jv ov wr => jv = .int .i64 0 ∧ ov = .slice none 0 0 ∧ wr = w) (fun _ _ _ => 0)
  case atStart => exact ⟨rfl, rfl, rfl⟩
  case round =>
    obtain ⟨rfl, rfl, rfl⟩ := hrel
    go_wp2_with fail
    go_ret
    exact ⟨rfl, rfl⟩
theorem nsweep_any {w : World} {v : Value} (h : NoRib w v) (fam : Int) :
    Calls Try.prog 18 #[v, .int .i64 fam] w fun e w' => e = .returned (.slice none 0 0) ∧ w' = w := by
  have H := Lib.hid (fun g => nplaces_any h fam g)
  have HT := Lib.hid (ntake_none v w)
  clear h
  go_enter Try.func18, Try.ntmps18
  go_wp2_with fail
  refine (H.out _).mono ?_
  rintro e w2 ⟨rfl, hw2⟩
  subst w2
  go_wp2_with fail
  refine HT.out.mono ?_
  rintro e w2 ⟨rfl, hw2⟩
  subst w2
  go_wp2_with fail
  go_ret
  exact ⟨rfl, rfl⟩
theorem nclear_any {w : World} {v : Value} (h : NoRib w v) (fam : Int) :
    Calls Try.prog 22 #[v, .int .i64 fam] w fun e w' => e = .returned (.slice none 0 0) ∧ w' = w := by
  have H := Lib.hid (fun g => nplaces_any h fam g)
  have HT := Lib.hid (ntake_none v w)
  clear h
  go_enter Try.func22, Try.ntmps22
  go_wp2_with fail
  refine (H.out _).mono ?_
  rintro e w2 ⟨rfl, hw2⟩
  subst w2
  go_wp2_with fail
  refine HT.out.mono ?_
  rintro e w2 ⟨rfl, hw2⟩
  subst w2
  go_wp2_with fail
  go_ret
  exact ⟨rfl, rfl⟩
theorem nall_any {w : World} {v : Value} (h : NoRib w v) (fam : Int) :
    Calls Try.prog 20 #[v, .int .i64 fam] w fun e w' => e = .returned (.slice none 0 0) ∧ w' = w := by
  have H := Lib.hid (fun g => nplaces_any h fam g)
  clear h
  go_enter Try.func20, Try.ntmps20
  go_wp2_with fail
  refine (H.out _).mono ?_
  rintro e w2 ⟨rfl, hw2⟩
  subst w2
  go_wp2_with fail
  go_loopw [12, 5] (fun jv ov wr => jv = .int .i64 0 ∧ ov = .slice none 0 0 ∧ wr = w) (fun _ _ _ => 0)
  case atStart => exact ⟨rfl, rfl, rfl⟩
  case round =>
    obtain ⟨rfl, rfl, rfl⟩ := hrel
    go_wp2_with fail
    go_ret
    exact ⟨rfl, rfl⟩
theorem ncopy_any {w : World} {v : Value} (h : NoRib w v) :
    Calls Try.prog 17 #[v] w fun e w' => e = .returned (.pointer none) ∧ w' = w := by
  have H := Lib.hid (h w (Below.refl _ _))
  clear h
  go_enter Try.func17, Try.ntmps17
  go_wp2_with fail
  refine H.out.mono ?_
  rintro e w2 ⟨rfl, hw2⟩
  subst w2
  go_wp2_with fail
  go_ret
  exact ⟨rfl, rfl⟩
end Go.Proofs.Ytldpcliahfiloaa
