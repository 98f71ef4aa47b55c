/-
  Several texts in one.
-/
import Derived.Test.YtkcojblflebomaaGreatNR6
import Derived.Test.YtkcojblflebomaaGreatNR9
import Derived.Test.YtkcojblflebomaaGreatNR12
import Derived.Deep.MidRow
import Derived.Laws.EntriesVeiled
set_option linter.unusedVariables false
set_option linter.unusedSimpArgs false
namespace Go.Proofs.YtkcojblflebomaaGreat
open Go.RowKit Go.MapKept Go.Shelf
open Go.Lib hiding intOf

theorem attrs_size : (Tryz.prog.info? 40).map (·.size) = some 16 := by kernel_rfl
theorem attrs_under : ∃ fs, Tryz.prog.underlying 40 = some (.struct fs) := ⟨_, Tryz.underlying40⟩
theorem CellsAt.range {w : World} {b : Nat} {T : TypeId} {cs : Array Value} (h : CellsAt w b cs T) : w.rangeAt b 0 cs.toList := fun j v hv => by
  rw [Nat.zero_add, h.c j]
  simpa using hv
theorem wpList_load_attrs {ops : Array Oper} {rest : List Oper} {op : Oper} {a : Act} {w : World} {Q : Exit → Act → World → Prop} (hgd : op.guard = none) (src : Operand) (ho : op.op = .load 40 src) (b : Nat) (hx : a.eval src = .pointer (some ⟨b, 0, none⟩)) (p : Atr) (hc : CellsAt w b p.ar 40)
    (h : wpList Tryz.prog ops Q rest (a.put op.dst p.v) w) : wpList Tryz.prog ops Q (op :: rest) a w := by
  obtain ⟨fs, hu⟩ := attrs_under
  exact wpList_load_mid hgd 40 src ho b 0 hx p.ar.toList _ hc.range hu rfl (by rw [attrs_size]; rfl) h
def optR (is : Bool) (f t : UInt8) (v : ByteArray) : List Rw := if is = true then [⟨f, t, v⟩] else []
theorem CellsAt.setOne {w : World} {b : Nat} {x u : Value} {T : TypeId} (h : CellsAt w b #[x] T) : CellsAt (w.setCell ⟨b, 0, none⟩ u) b #[u] T := by
  have h2 : w.heap[b]? = some (.cells #[x] T (0, 0)) := h
  unfold CellsAt
  rw [setCell_eq_setRow w b 0 _ _ _ _ h2]
  exact setRow_heap w b _ _ _ _ h2
theorem CellsAt.unfrozen {w : World} {b : Nat} {cs : Array Value} {T : TypeId} (h : CellsAt w b cs T) (i : Nat) : w.frozen? ⟨b, i, none⟩ = false := by
  have h2 : w.heap[b]? = some (.cells cs T (0, 0)) := h
  simp only [World.frozen?, h2]
  exact Bool.and_eq_false_iff.2 (.inr (by simp))
/-- the list that is written, in its variable -/
structure OutV (w : World) (b : Nat) (L : List Rw) : Prop where
  c : ∃ v, CellsAt w b #[v] 22 ∧ OwnL w (b + 1) 32 3 Rw.cs v L
theorem OutV.below {w w' : World} {b : Nat} {L : List Rw} (h : OutV w b L) (hb : Below w.heap.size w w') : OutV w' b L := by
  obtain ⟨v, h1, h2⟩ := h.c
  exact ⟨v, h1.below hb h1.lt, h2.below hb (Nat.le_refl _)⟩
set_option maxHeartbeats 8000000 in
theorem wput_any (b : Nat) (L : List Rw) (f t : UInt8) (is : Bool) (s : ByteArray) (w : World) (h : OutV w b L) (hl : L.length ≤ 100) :
    Calls Tryz.prog 49 #[.int .u8 f.toNat, .int .u8 t.toNat, .bool is, .string s, .pointer (some ⟨b, 0, none⟩)] w fun e w' => e = .returned (.tuple #[]) ∧ OutV w' b (L ++ optR is f t s) ∧ Below b w w' := by
  obtain ⟨i0, hi, hz0, hz1, hz2⟩ := info_parts infoRaw
  have HI := Lib.hid hi
  have HZ0 := Lib.hid hz0
  have HZ1 := Lib.hid hz1
  have HZ2 := Lib.hid hz2
  obtain ⟨v, hc, ho⟩ := h.c
  have HC := Lib.hid hc
  have HO := Lib.hid ho
  have c0 := hc.c1
  have hlt := hc.lt
  have HH := Lib.hid h
  clear hi hz0 hz1 hz2 hc ho h
  cases is with
  | false =>
    go_enter Tryz.func49, Tryz.ntmps49
    go_wp2_with fail
    go_end0
    refine ⟨rfl, ?_, Below.refl _ _⟩
    show OutV _ _ (L ++ [])
    rw [List.append_nil]
    exact HH.out
  | true =>
    obtain ⟨A, c, rfl⟩ := HO.out.form
    have HCB : Hid (CellsAt (w.alloc (.cells #[.int .u8 f.toNat, .int .u8 t.toNat, .string s] 32)) w.heap.size #[.int .u8 f.toNat, .int .u8 t.toNat, .string s] 32) := CellsAt.new _ _ _
    have HS := Lib.hid (Src.block (P := Tryz.prog) (t2 := 22) (size := 3) (m := 1) (c := 1) Tryz.underlying22 HCB.out rfl (by simp [Value.oneCell']))
    have HOa := Lib.hid (HO.out.alloc (.cells #[.int .u8 f.toNat, .int .u8 t.toNat, .string s] 32))
    have HCa := Lib.hid (HC.out.alloc (.cells #[.int .u8 f.toNat, .int .u8 t.toNat, .string s] 32))
    have HBa : Hid (Below w.heap.size w (w.alloc (.cells #[.int .u8 f.toNat, .int .u8 t.toNat, .string s] 32))) := (Below.refl _ _).alloc (Nat.le_refl _) _
    have HBS : Hid (b + 1 ≤ (w.alloc (.cells #[.int .u8 f.toNat, .int .u8 t.toNat, .string s] 32)).heap.size) := by show _ ≤ _; simp; omega
    have HM : Hid (L.length + 1 ≤ maxLen) := by show _ ≤ _; unfold maxLen; omega
    have HY : Hid ((L.length + 1) * 24 ≤ 140737488355328) := by show _ ≤ _; omega
    go_enter Tryz.func49, Tryz.ntmps49
    go_wp2_with (at_builtin; refine wpList_append_m rfl (.tmp 10) (.tmp 15) 22 22 rfl (b + 1) 32 i0 _ 3 24 Tryz.underlying22 HI.out HZ0.out HZ1.out HZ2.out rfl (by decide) (.slice A L.length c) L.length (L.flatMap Rw.cs) rfl HOa.out _ 1 _ rfl HS.out HM.out HY.out HBS.out ?_)
    intro v' w5 hown hgr hat
    obtain ⟨A6, c6, rfl⟩ := hown.form
    have HN5 : Hid (OwnL w5 (b + 1) 32 3 Rw.cs (.slice A6 (L.length + 1) c6) (L ++ [⟨f, t, s⟩])) := OwnL.snoc hown
    have HB5 : Hid (Below (b + 1) w w5) := OwnM.below_grown HOa.out hgr (HBa.out.mono (show b + 1 ≤ w.heap.size from hlt)) HBS.out (Nat.le_refl _)
    have HC5 : Hid (CellsAt w5 b #[.slice A L.length c] 22) := HCa.out.own hgr (fun e => by
      have := (OwnM.lt HOa.out b e.symm).1
      omega)
    have HB6 : Hid (Below b w w5) := HB5.out.mono (Nat.le_succ b)
    have d0 := HC5.out.c1
    have df := HC5.out.unfrozen 0
    clear hown hgr hat c0
    go_wp2_with fail
    go_end0
    refine ⟨rfl, ⟨_, HC5.out.setOne, OwnM.setCell HN5.out (fun k hk => by
      have := (OwnM.lt HN5.out k hk).1
      show k ≠ b
      omega) _⟩, Below.setCell HB6.out (Nat.le_refl _) _⟩
end Go.Proofs.YtkcojblflebomaaGreat
set_option linter.unusedVariables false
set_option linter.unusedSimpArgs false
namespace Go.Proofs.YtkcojblflebomaaGreat
open Go.RowKit Go.MapKept Go.Shelf
open Go.Lib hiding intOf

/-- a known type's bits, what is done with a wrong one, is it of an internal neighbour alone, and what takes it -/
def rowF (t : Nat) : Option (Int × Int × Bool × FuncId) :=
  if t = 1 then some (64, 2, false, 73) else
  if t = 2 then some (64, 2, false, 74) else
  if t = 3 then some (64, 2, false, 76) else
  if t = 4 then some (128, 2, false, 77) else
  if t = 5 then some (64, 2, true, 79) else
  if t = 6 then some (64, 1, false, 80) else
  if t = 7 then some (192, 1, false, 81) else
  if t = 8 then some (192, 2, false, 82) else
  if t = 9 then some (128, 2, true, 84) else
  if t = 10 then some (128, 2, true, 85) else
  if t = 16 then some (192, 2, false, 86) else
  if t = 32 then some (192, 2, false, 88) else
  none
def rowV : Option (Int × Int × Bool × FuncId) → Value
  | none => .tuple #[.agg #[.int .u8 0, .int .i64 0, .bool false, .nilFunc], .bool false]
  | some (b, wr, i, f) => .tuple #[.agg #[.int .u8 b, .int .i64 wr, .bool i, .func (.func f) #[] #[]], .bool true]
set_option maxHeartbeats 4000000 in
theorem row_1 (w : World) : Calls Tryz.prog 39 #[.int .u8 1] w fun e w' => e = .returned (rowV (rowF 1)) ∧ Below w.heap.size w w' := by
  go_enter Tryz.func39, Tryz.ntmps39
  go_wp2_with fail
  exact bodyPost_ret (v := .tuple #[.agg #[.int .u8 64, .int .i64 2, .bool false, .func (.func 73) #[] #[]], .bool true]) (by simp [results, Tryz.results39, go_sem]) rfl ⟨rfl, (Below.refl _ _).alloc (Nat.le_refl _) _⟩
set_option maxHeartbeats 4000000 in
theorem row_2 (w : World) : Calls Tryz.prog 39 #[.int .u8 2] w fun e w' => e = .returned (rowV (rowF 2)) ∧ Below w.heap.size w w' := by
  go_enter Tryz.func39, Tryz.ntmps39
  go_wp2_with fail
  exact bodyPost_ret (v := .tuple #[.agg #[.int .u8 64, .int .i64 2, .bool false, .func (.func 74) #[] #[]], .bool true]) (by simp [results, Tryz.results39, go_sem]) rfl ⟨rfl, (Below.refl _ _).alloc (Nat.le_refl _) _⟩
set_option maxHeartbeats 4000000 in
theorem row_3 (w : World) : Calls Tryz.prog 39 #[.int .u8 3] w fun e w' => e = .returned (rowV (rowF 3)) ∧ Below w.heap.size w w' := by
  go_enter Tryz.func39, Tryz.ntmps39
  go_wp2_with fail
  exact bodyPost_ret (v := .tuple #[.agg #[.int .u8 64, .int .i64 2, .bool false, .func (.func 76) #[] #[]], .bool true]) (by simp [results, Tryz.results39, go_sem]) rfl ⟨rfl, (Below.refl _ _).alloc (Nat.le_refl _) _⟩
set_option maxHeartbeats 4000000 in
theorem row_4 (w : World) : Calls Tryz.prog 39 #[.int .u8 4] w fun e w' => e = .returned (rowV (rowF 4)) ∧ Below w.heap.size w w' := by
  go_enter Tryz.func39, Tryz.ntmps39
  go_wp2_with fail
  exact bodyPost_ret (v := .tuple #[.agg #[.int .u8 128, .int .i64 2, .bool false, .func (.func 77) #[] #[]], .bool true]) (by simp [results, Tryz.results39, go_sem]) rfl ⟨rfl, (Below.refl _ _).alloc (Nat.le_refl _) _⟩
set_option maxHeartbeats 4000000 in
theorem row_5 (w : World) : Calls Tryz.prog 39 #[.int .u8 5] w fun e w' => e = .returned (rowV (rowF 5)) ∧ Below w.heap.size w w' := by
  go_enter Tryz.func39, Tryz.ntmps39
  go_wp2_with fail
  exact bodyPost_ret (v := .tuple #[.agg #[.int .u8 64, .int .i64 2, .bool true, .func (.func 79) #[] #[]], .bool true]) (by simp [results, Tryz.results39, go_sem]) rfl ⟨rfl, (Below.refl _ _).alloc (Nat.le_refl _) _⟩
set_option maxHeartbeats 4000000 in
theorem row_6 (w : World) : Calls Tryz.prog 39 #[.int .u8 6] w fun e w' => e = .returned (rowV (rowF 6)) ∧ Below w.heap.size w w' := by
  go_enter Tryz.func39, Tryz.ntmps39
  go_wp2_with fail
  exact bodyPost_ret (v := .tuple #[.agg #[.int .u8 64, .int .i64 1, .bool false, .func (.func 80) #[] #[]], .bool true]) (by simp [results, Tryz.results39, go_sem]) rfl ⟨rfl, (Below.refl _ _).alloc (Nat.le_refl _) _⟩
set_option maxHeartbeats 4000000 in
theorem row_7 (w : World) : Calls Tryz.prog 39 #[.int .u8 7] w fun e w' => e = .returned (rowV (rowF 7)) ∧ Below w.heap.size w w' := by
  go_enter Tryz.func39, Tryz.ntmps39
  go_wp2_with fail
  exact bodyPost_ret (v := .tuple #[.agg #[.int .u8 192, .int .i64 1, .bool false, .func (.func 81) #[] #[]], .bool true]) (by simp [results, Tryz.results39, go_sem]) rfl ⟨rfl, (Below.refl _ _).alloc (Nat.le_refl _) _⟩
set_option maxHeartbeats 4000000 in
theorem row_8 (w : World) : Calls Tryz.prog 39 #[.int .u8 8] w fun e w' => e = .returned (rowV (rowF 8)) ∧ Below w.heap.size w w' := by
  go_enter Tryz.func39, Tryz.ntmps39
  go_wp2_with fail
  exact bodyPost_ret (v := .tuple #[.agg #[.int .u8 192, .int .i64 2, .bool false, .func (.func 82) #[] #[]], .bool true]) (by simp [results, Tryz.results39, go_sem]) rfl ⟨rfl, (Below.refl _ _).alloc (Nat.le_refl _) _⟩
set_option maxHeartbeats 4000000 in
theorem row_9 (w : World) : Calls Tryz.prog 39 #[.int .u8 9] w fun e w' => e = .returned (rowV (rowF 9)) ∧ Below w.heap.size w w' := by
  go_enter Tryz.func39, Tryz.ntmps39
  go_wp2_with fail
  exact bodyPost_ret (v := .tuple #[.agg #[.int .u8 128, .int .i64 2, .bool true, .func (.func 84) #[] #[]], .bool true]) (by simp [results, Tryz.results39, go_sem]) rfl ⟨rfl, (Below.refl _ _).alloc (Nat.le_refl _) _⟩
set_option maxHeartbeats 4000000 in
theorem row_10 (w : World) : Calls Tryz.prog 39 #[.int .u8 10] w fun e w' => e = .returned (rowV (rowF 10)) ∧ Below w.heap.size w w' := by
  go_enter Tryz.func39, Tryz.ntmps39
  go_wp2_with fail
  exact bodyPost_ret (v := .tuple #[.agg #[.int .u8 128, .int .i64 2, .bool true, .func (.func 85) #[] #[]], .bool true]) (by simp [results, Tryz.results39, go_sem]) rfl ⟨rfl, (Below.refl _ _).alloc (Nat.le_refl _) _⟩
set_option maxHeartbeats 4000000 in
theorem row_16 (w : World) : Calls Tryz.prog 39 #[.int .u8 16] w fun e w' => e = .returned (rowV (rowF 16)) ∧ Below w.heap.size w w' := by
  go_enter Tryz.func39, Tryz.ntmps39
  go_wp2_with fail
  exact bodyPost_ret (v := .tuple #[.agg #[.int .u8 192, .int .i64 2, .bool false, .func (.func 86) #[] #[]], .bool true]) (by simp [results, Tryz.results39, go_sem]) rfl ⟨rfl, (Below.refl _ _).alloc (Nat.le_refl _) _⟩
set_option maxHeartbeats 4000000 in
theorem row_32 (w : World) : Calls Tryz.prog 39 #[.int .u8 32] w fun e w' => e = .returned (rowV (rowF 32)) ∧ Below w.heap.size w w' := by
  go_enter Tryz.func39, Tryz.ntmps39
  go_wp2_with fail
  exact bodyPost_ret (v := .tuple #[.agg #[.int .u8 192, .int .i64 2, .bool false, .func (.func 88) #[] #[]], .bool true]) (by simp [results, Tryz.results39, go_sem]) rfl ⟨rfl, (Below.refl _ _).alloc (Nat.le_refl _) _⟩
set_option maxHeartbeats 8000000 in
theorem row_none (t : UInt8) (w : World) (h : rowF t.toNat = none) : Calls Tryz.prog 39 #[.int .u8 t.toNat] w fun e w' => e = .returned (rowV none) ∧ Below w.heap.size w w' := by
  have q1 : ((t.toNat : Int) == 1) = false := beq_eq_false_iff_ne.2 (fun e => by rw [show t.toNat = 1 by omega] at h; cases h)
  have q2 : ((t.toNat : Int) == 2) = false := beq_eq_false_iff_ne.2 (fun e => by rw [show t.toNat = 2 by omega] at h; cases h)
  have q3 : ((t.toNat : Int) == 3) = false := beq_eq_false_iff_ne.2 (fun e => by rw [show t.toNat = 3 by omega] at h; cases h)
  have q4 : ((t.toNat : Int) == 4) = false := beq_eq_false_iff_ne.2 (fun e => by rw [show t.toNat = 4 by omega] at h; cases h)
  have q5 : ((t.toNat : Int) == 5) = false := beq_eq_false_iff_ne.2 (fun e => by rw [show t.toNat = 5 by omega] at h; cases h)
  have q6 : ((t.toNat : Int) == 6) = false := beq_eq_false_iff_ne.2 (fun e => by rw [show t.toNat = 6 by omega] at h; cases h)
  have q7 : ((t.toNat : Int) == 7) = false := beq_eq_false_iff_ne.2 (fun e => by rw [show t.toNat = 7 by omega] at h; cases h)
  have q8 : ((t.toNat : Int) == 8) = false := beq_eq_false_iff_ne.2 (fun e => by rw [show t.toNat = 8 by omega] at h; cases h)
  have q9 : ((t.toNat : Int) == 9) = false := beq_eq_false_iff_ne.2 (fun e => by rw [show t.toNat = 9 by omega] at h; cases h)
  have q10 : ((t.toNat : Int) == 10) = false := beq_eq_false_iff_ne.2 (fun e => by rw [show t.toNat = 10 by omega] at h; cases h)
  have q16 : ((t.toNat : Int) == 16) = false := beq_eq_false_iff_ne.2 (fun e => by rw [show t.toNat = 16 by omega] at h; cases h)
  have q32 : ((t.toNat : Int) == 32) = false := beq_eq_false_iff_ne.2 (fun e => by rw [show t.toNat = 32 by omega] at h; cases h)
  clear h
  generalize t.toNat = n at *
  go_enter Tryz.func39, Tryz.ntmps39
  go_wp2_with fail
  exact bodyPost_ret (v := .tuple #[.agg #[.int .u8 0, .int .i64 0, .bool false, .nilFunc], .bool false]) (by simp [results, Tryz.results39, go_sem]) rfl ⟨rfl, (Below.refl _ _).alloc (Nat.le_refl _) _⟩
theorem row_any (t : UInt8) (w : World) : Calls Tryz.prog 39 #[.int .u8 t.toNat] w fun e w' => e = .returned (rowV (rowF t.toNat)) ∧ Below w.heap.size w w' := by
  by_cases h1 : t.toNat = 1
  · rw [h1]; exact row_1 w
  by_cases h2 : t.toNat = 2
  · rw [h2]; exact row_2 w
  by_cases h3 : t.toNat = 3
  · rw [h3]; exact row_3 w
  by_cases h4 : t.toNat = 4
  · rw [h4]; exact row_4 w
  by_cases h5 : t.toNat = 5
  · rw [h5]; exact row_5 w
  by_cases h6 : t.toNat = 6
  · rw [h6]; exact row_6 w
  by_cases h7 : t.toNat = 7
  · rw [h7]; exact row_7 w
  by_cases h8 : t.toNat = 8
  · rw [h8]; exact row_8 w
  by_cases h9 : t.toNat = 9
  · rw [h9]; exact row_9 w
  by_cases h10 : t.toNat = 10
  · rw [h10]; exact row_10 w
  by_cases h16 : t.toNat = 16
  · rw [h16]; exact row_16 w
  by_cases h32 : t.toNat = 32
  · rw [h32]; exact row_32 w
  have h : rowF t.toNat = none := by
    unfold rowF
    rw [if_neg h1, if_neg h2, if_neg h3, if_neg h4, if_neg h5, if_neg h6, if_neg h7, if_neg h8, if_neg h9, if_neg h10, if_neg h16, if_neg h32]
  rw [h]
  exact row_none t w h
end Go.Proofs.YtkcojblflebomaaGreat
