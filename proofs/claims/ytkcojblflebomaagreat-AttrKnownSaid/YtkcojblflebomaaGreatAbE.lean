/-
  Attributes written as raw ones: attr.Write walked. Conditions: sizes; what lays the lists of communities.
-/
import Derived.Test.YtkcojblflebomaaGreatAbC
import Derived.Test.YtkcojblflebomaaGreatAbD
import Derived.Test.YtkcojblflebomaaGreatAaI
import Derived.Deep.MidRow
set_option linter.unusedVariables false
set_option linter.unusedSimpArgs false
namespace Go.Proofs.YtkcojblflebomaaGreat
open Go.RowKit Go.MapKept Go.Shelf
open Go.Lib hiding intOf

theorem attrs_size : (Tryz.prog.info? 40).map (·.size) = some 16 := by kernel_rfl
theorem attrs_under : ∃ fs, Tryz.prog.underlying 40 = some (.struct fs) := ⟨_, Tryz.underlying40⟩
theorem CellsAt.range {w : World} {b : Nat} {T : TypeId} {cs : Array Value} (h : CellsAt w b cs T) : w.rangeAt b 0 cs.toList := fun j v hv => by
  rw [Nat.zero_add, h.c j]
  simpa using hv
theorem wpList_load_attrs {ops : Array Oper} {rest : List Oper} {op : Oper} {a : Act} {w : World} {Q : Exit → Act → World → Prop} (hgd : op.guard = none) (src : Operand) (ho : op.op = .load 40 src) (b : Nat) (hx : a.eval src = .pointer (some ⟨b, 0, none⟩)) (p : Atr) (hc : CellsAt w b p.ar 40)
    (h : wpList Tryz.prog ops Q rest (a.put op.dst p.v) w) : wpList Tryz.prog ops Q (op :: rest) a w := by
  obtain ⟨fs, hu⟩ := attrs_under
  exact wpList_load_mid hgd 40 src ho b 0 hx p.ar.toList _ hc.range hu rfl (by rw [attrs_size]; rfl) h
def optR (is : Bool) (f t : UInt8) (v : ByteArray) : List Rw := if is = true then [⟨f, t, v⟩] else []
theorem CellsAt.setOne {w : World} {b : Nat} {x u : Value} {T : TypeId} (h : CellsAt w b #[x] T) : CellsAt (w.setCell ⟨b, 0, none⟩ u) b #[u] T := by
  have h2 : w.heap[b]? = some (.cells #[x] T (0, 0)) := h
  unfold CellsAt
  rw [setCell_eq_setRow w b 0 _ _ _ _ h2]
  exact setRow_heap w b _ _ _ _ h2
theorem CellsAt.unfrozen {w : World} {b : Nat} {cs : Array Value} {T : TypeId} (h : CellsAt w b cs T) (i : Nat) : w.frozen? ⟨b, i, none⟩ = false := by
  have h2 : w.heap[b]? = some (.cells cs T (0, 0)) := h
  simp only [World.frozen?, h2]
  exact Bool.and_eq_false_iff.2 (.inr (by simp))
/-- the list that is written, in its variable -/
structure OutV (w : World) (b : Nat) (L : List Rw) : Prop where
  c : ∃ v, CellsAt w b #[v] 22 ∧ OwnL w (b + 1) 32 3 Rw.cs v L
theorem OutV.below {w w' : World} {b : Nat} {L : List Rw} (h : OutV w b L) (hb : Below w.heap.size w w') : OutV w' b L := by
  obtain ⟨v, h1, h2⟩ := h.c
  exact ⟨v, h1.below hb h1.lt, h2.below hb (Nat.le_refl _)⟩
set_option maxHeartbeats 8000000 in
theorem wput_any (b : Nat) (L : List Rw) (f t : UInt8) (is : Bool) (s : ByteArray) (w : World) (h : OutV w b L) (hl : L.length ≤ 100) :
    Calls Tryz.prog 49 #[.int .u8 f.toNat, .int .u8 t.toNat, .bool is, .string s, .pointer (some ⟨b, 0, none⟩)] w fun e w' => e = .returned (.tuple #[]) ∧ OutV w' b (L ++ optR is f t s) ∧ Below b w w' := by
  obtain ⟨i0, hi, hz0, hz1, hz2⟩ := info_parts infoRaw
  have HI := Lib.hid hi
  have HZ0 := Lib.hid hz0
  have HZ1 := Lib.hid hz1
  have HZ2 := Lib.hid hz2
  obtain ⟨v, hc, ho⟩ := h.c
  have HC := Lib.hid hc
  have HO := Lib.hid ho
  have c0 := hc.c1
  have hlt := hc.lt
  have HH := Lib.hid h
  clear hi hz0 hz1 hz2 hc ho h
  cases is with
  | false =>
    go_enter Tryz.func49, Tryz.ntmps49
    go_wp2_with fail
    go_end0
    refine ⟨rfl, ?_, Below.refl _ _⟩
    show OutV _ _ (L ++ [])
    rw [List.append_nil]
    exact HH.out
  | true =>
    obtain ⟨A, c, rfl⟩ := HO.out.form
    have HCB : Hid (CellsAt (w.alloc (.cells #[.int .u8 f.toNat, .int .u8 t.toNat, .string s] 32)) w.heap.size #[.int .u8 f.toNat, .int .u8 t.toNat, .string s] 32) := CellsAt.new _ _ _
    have HS := Lib.hid (Src.block (P := Tryz.prog) (t2 := 22) (size := 3) (m := 1) (c := 1) Tryz.underlying22 HCB.out rfl (by simp [Value.oneCell']))
    have HOa := Lib.hid (HO.out.alloc (.cells #[.int .u8 f.toNat, .int .u8 t.toNat, .string s] 32))
    have HCa := Lib.hid (HC.out.alloc (.cells #[.int .u8 f.toNat, .int .u8 t.toNat, .string s] 32))
    have HBa : Hid (Below w.heap.size w (w.alloc (.cells #[.int .u8 f.toNat, .int .u8 t.toNat, .string s] 32))) := (Below.refl _ _).alloc (Nat.le_refl _) _
    have HBS : Hid (b + 1 ≤ (w.alloc (.cells #[.int .u8 f.toNat, .int .u8 t.toNat, .string s] 32)).heap.size) := by show _ ≤ _; simp; omega
    have HM : Hid (L.length + 1 ≤ maxLen) := by show _ ≤ _; unfold maxLen; omega
    have HY : Hid ((L.length + 1) * 24 ≤ 140737488355328) := by show _ ≤ _; omega
    go_enter Tryz.func49, Tryz.ntmps49
    go_wp2_with (at_builtin; refine wpList_append_m rfl (.tmp 10) (.tmp 15) 22 22 rfl (b + 1) 32 i0 _ 3 24 Tryz.underlying22 HI.out HZ0.out HZ1.out HZ2.out rfl (by decide) (.slice A L.length c) L.length (L.flatMap Rw.cs) rfl HOa.out _ 1 _ rfl HS.out HM.out HY.out HBS.out ?_)
    intro v' w5 hown hgr hat
    obtain ⟨A6, c6, rfl⟩ := hown.form
    have HN5 : Hid (OwnL w5 (b + 1) 32 3 Rw.cs (.slice A6 (L.length + 1) c6) (L ++ [⟨f, t, s⟩])) := OwnL.snoc hown
    have HB5 : Hid (Below (b + 1) w w5) := OwnM.below_grown HOa.out hgr (HBa.out.mono (show b + 1 ≤ w.heap.size from hlt)) HBS.out (Nat.le_refl _)
    have HC5 : Hid (CellsAt w5 b #[.slice A L.length c] 22) := HCa.out.own hgr (fun e => by
      have := (OwnM.lt HOa.out b e.symm).1
      omega)
    have HB6 : Hid (Below b w w5) := HB5.out.mono (Nat.le_succ b)
    have d0 := HC5.out.c1
    have df := HC5.out.unfrozen 0
    clear hown hgr hat c0
    go_wp2_with fail
    go_end0
    refine ⟨rfl, ⟨_, HC5.out.setOne, OwnM.setCell HN5.out (fun k hk => by
      have := (OwnM.lt HN5.out k hk).1
      show k ≠ b
      omega) _⟩, Below.setCell HB6.out (Nat.le_refl _) _⟩
end Go.Proofs.YtkcojblflebomaaGreat
