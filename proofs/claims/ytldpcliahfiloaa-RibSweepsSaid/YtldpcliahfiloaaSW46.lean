/-
  Several texts in one.
-/
import Derived.Test.YtldpcliahfiloaaSW45
set_option linter.unusedVariables false
set_option linter.unusedSimpArgs false
namespace Go.Proofs.Ytldpcliahfiloaa
open Go.RowKit Go.MapKept Go.Shelf
open Go.Lib hiding intOf
open Go.Sort hiding Below
open Go.Maps (Keyed)

def nlA (k : Pk) (label : Nat) : Array Value := #[.int .i64 k.fam, .int .u64 k.rd, .string k.addr, .int .i64 k.len, .int .u32 (k.id : Nat), .int .u32 (label : Nat)]
theorem rnewM_any (most : Int) (w : World) : Calls Try.prog 8 #[.int .i64 most] w fun e w' => ∃ b m, e = .returned (.pointer (some ⟨b, 0, none⟩)) ∧ RibM w' w.heap.size b m most [] ∧ Below w.heap.size w w' ∧ w.heap.size ≤ m ∧ w.heap.size ≤ b :=
  (rnew_any most w).mono fun e w' ⟨h1, h2, h3⟩ => ⟨_, _, h1, ⟨[], h2, rfl⟩, h3, Nat.le_refl _, by omega⟩
theorem rputM_any {w : World} {base b m : Nat} {most : Int} {M : List TdC} (h : RibM w base b m most M) (k : Pk) (label : Nat) (hk : k.Ok) (hlab : label < 4294967296) (a : Atr) (ha : AtrOk w a) (hz : AtrSz a.c) (hlen : M.length < 1000) :
    Calls Try.prog 10 #[.pointer (some ⟨b, 0, none⟩), .agg (nlA k label), .agg a.ar] w fun e w' => PutPost base b m most M (nlk k label) a.c w' e ∧ GrownX (fun i => i = m) w w' := by
  obtain ⟨S, h1, rfl⟩ := h
  exact rput_any w base b m most S h1 k label hk hlab a ha hz (by rwa [List.length_map] at hlen)
theorem rgetM_any {w : World} {base b m : Nat} {most : Int} {M : List TdC} (h : RibM w base b m most M) (k : Pk) (hk : k.Ok) :
    Calls Try.prog 13 #[.pointer (some ⟨b, 0, none⟩), .agg k.pf, .int .u32 (k.id : Nat)] w fun e w' => GetPost w.heap.size M k w' e ∧ Below w.heap.size w w' := by
  obtain ⟨S, h1, rfl⟩ := h
  exact rget_any w base b m most S h1 k hk
theorem rcountM_any {w : World} {base b m : Nat} {most : Int} {M : List TdC} (h : RibM w base b m most M) (fam : Int) :
    Calls Try.prog 14 #[.pointer (some ⟨b, 0, none⟩), .int .i64 fam] w fun e w' => e = .returned (.int .i64 (cntC M fam : Nat)) ∧ Below w.heap.size w w' := by
  obtain ⟨S, h1, rfl⟩ := h
  exact rcount_any w base b m most S h1 fam
theorem GrownX.toBelow {w w' : World} {m B : Nat} (h : GrownX (fun i => i = m) w w') (hm : B ≤ m) (hB : B ≤ w.heap.size) : Below B w w' :=
  h.below (Below.refl B w) (fun i hi => by rw [hi]; exact hm) hB
theorem of_any (n : Nat) (w : World) : Calls Try.prog 11 #[.int .u32 (n : Nat)] w fun e w' => e = .returned (.agg (medA n).ar) ∧ Below w.heap.size w w' := by
  have HZ : Hid (∀ cs : Array Value, CellsAt (w.alloc (.cells cs 41)) w.heap.size cs 41) := fun cs => CellsAt.new _ _ _
  go_enter Try.func11, Try.ntmps11
  go_wp2_with (with_reducible show wpList _ _ _ (_ :: _) _ _; refine wpList_store_attrs rfl (.tmp 2) (.tmp 4) rfl w.heap.size rfl (medA n) rfl noAtr (HZ.out _) ?_)
  have HF : Hid (CellsAt ((w.alloc (.cells noAtr.ar 41)).setRow w.heap.size (medA n).ar) w.heap.size (medA n).ar 41) := (HZ.out _).setRow' _
  have HB : Hid (Below w.heap.size w ((w.alloc (.cells noAtr.ar 41)).setRow w.heap.size (medA n).ar)) := ((Below.refl _ _).alloc (Nat.le_refl _) _).grown (grown_setRow' _ _ _) (by simp) (fun q hq => by cases hq; exact Nat.le_refl _)
  exact bodyPost_ret (results_attrs rfl _ _ w.heap.size (medA n) rfl HF.out) rfl ⟨rfl, HB.out⟩
def atK (c : UInt8) (id : Nat) : Pk := ⟨1, 0, ⟨#[c, 0, 0, 0]⟩, 8, id⟩
theorem rconv4 {W : World} {b : Nat} {T : TypeId} (x : UInt8) (h : CellsAt W b #[.int .u8 (x.toNat : Nat), .int .u8 0, .int .u8 0, .int .u8 0] T) : (convert 88 9 (.slice (some ⟨b, 0, none⟩) 4 4)).run Try.prog W = .ok (.string ⟨#[x, 0, 0, 0]⟩) W := by
  refine run_convert_bytes_back (P := Try.prog) W 88 9 5 ⟨b, 0, none⟩ 4 [x, 0, 0, 0] Try.underlying88 Try.underlying5 Try.underlying9 (fun j hj => ?_)
  rw [add_flat, h.c j]
  have hj4 : j < 4 := hj
  rcases (show j = 0 ∨ j = 1 ∨ j = 2 ∨ j = 3 by omega) with rfl | rfl | rfl | rfl <;> rfl
set_option maxRecDepth 100000 in
set_option maxHeartbeats 4000000 in
theorem at_any (c : UInt8) (id : Nat) (w : World) : Calls Try.prog 21 #[.int .u8 (c.toNat : Nat), .int .u32 (id : Nat)] w fun e w' => e = .returned (.agg (nlA (atK c id) 0)) ∧ Below w.heap.size w w' := by
  have hC : CellsAt ((w.alloc (.cells #[.int .i64 0, .int .u64 0, .string ⟨#[]⟩, .int .i64 0, .int .u32 0, .int .u32 0] 32)).alloc (.cells #[.int .u8 (c.toNat : Nat), .int .u8 0, .int .u8 0, .int .u8 0] 5)) (w.heap.size + 1) #[.int .u8 (c.toNat : Nat), .int .u8 0, .int .u8 0, .int .u8 0] 5 := by
    have h := CellsAt.new (w.alloc (.cells #[.int .i64 0, .int .u64 0, .string ⟨#[]⟩, .int .i64 0, .int .u32 0, .int .u32 0] 32)) #[.int .u8 (c.toNat : Nat), .int .u8 0, .int .u8 0, .int .u8 0] 5
    rwa [World.size_alloc] at h
  have hcv := rconv4 c hC
  have HB : Hid (Below w.heap.size w ((w.alloc (.cells #[.int .i64 0, .int .u64 0, .string ⟨#[]⟩, .int .i64 0, .int .u32 0, .int .u32 0] 32)).alloc (.cells #[.int .u8 (c.toNat : Nat), .int .u8 0, .int .u8 0, .int .u8 0] 5))) := by
    show Below _ _ _
    exact ((Below.refl _ _).alloc (Nat.le_refl _) _).alloc (by simp) _
  clear hC
  go_enter Try.func21, Try.ntmps21
  go_wp2_with fail
  try simp only [Exit.inBlock, Exit.then]
  refine bodyPost_ret (v := .agg (nlA (atK c id) 0)) (by rw [rb_results1 rfl]; unfold nlA atK; go_simp) rfl ⟨rfl, ?_⟩
  clear hcv
  repeat' (first | with_reducible exact HB.out | with_reducible exact Below.refl _ _ | with_reducible refine Below.setCell ?_ (by simp) _ | with_reducible refine Below.alloc ?_ (by simp <;> omega) _)
theorem at_ok (c : UInt8) (id : Nat) (h : id < 4294967296) : (atK c id).Ok := ⟨by show (-9223372036854775808 : Int) ≤ 1 ∧ (1 : Int) ≤ 9223372036854775807; decide, by show (0 : Int) ≤ 0 ∧ (0 : Int) < 18446744073709551616; decide, by show (4 : Nat) ≤ 9223372036854775807; decide, by show (-9223372036854775808 : Int) ≤ 8 ∧ (8 : Int) ≤ 9223372036854775807; decide, h⟩
end Go.Proofs.Ytldpcliahfiloaa
