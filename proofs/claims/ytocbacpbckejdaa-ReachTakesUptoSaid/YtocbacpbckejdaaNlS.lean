/-
  Contracts of reach.TakeGone, reach.Take. Conditions: sizes.
-/
import Derived.Test.YtocbacpbckejdaaNlP
import Derived.Test.YtocbacpbckejdaaNlQ
import Derived.BigRegion
set_option linter.unusedVariables false
set_option linter.unusedSimpArgs false
namespace Go.Proofs.Ytocbacpbckejdaa
open Go.RowKit

theorem results_tmp4 {fn : Func} {t u v x : Tmp} (h : fn.results = #[.tmp t, .tmp u, .tmp v, .tmp x]) (tmps : Array Value) (P : Program) (w : World) :
    (results fn tmps).run P w = .ok (.tuple #[tmps.getD t undef, tmps.getD u undef, tmps.getD v undef, tmps.getD x undef]) w := by
  simp [results, h]
theorem pairF_in (s : ByteArray) : pairF s = 0 ∨ (1 ≤ pairF s ∧ pairF s ≤ 5) := by
  unfold pairF famOf
  repeat' split
  all_goals omega
theorem restF_size (s : ByteArray) : (restF s).size ≤ s.size := by
  unfold restF
  rw [ByteArray.size_extract, ByteArray.size_extract]
  omega
theorem NlOwn.low {w : World} {base b : Nat} {v : Value} {L : List Nl} (h : NlOwn w base v L) (hb : b ≤ base) : NlOwn w b v L := OwnM.lower h hb
/-- the answer of TakeGone -/
def goneF (s : ByteArray) (adds : List Int) : Except Int (Int × List Nl) :=
  if s.size < 3 then .error 4 else if pairF s = 0 then .error 5 else match decAll (pairF s) (hasI adds (pairF s)) (restF s) with
    | none => .error 4
    | some L => .ok (pairF s, L)
def TGPost (w : World) (r : Except Int (Int × List Nl)) (e : Ending) (w' : World) : Prop := Below w.heap.size w w' ∧ match r with
  | .error z => e = .returned (.tuple #[.int .i64 0, .slice none 0 0, .int .i64 z])
  | .ok (f, L) => ∃ v, e = .returned (.tuple #[.int .i64 f, v, .int .i64 0]) ∧ NlOwn w' w.heap.size v L
theorem TGPost.no {w w' : World} {r : Except Int (Int × List Nl)} {e : Ending} {z : Int} (h : r = .error z) (he : e = .returned (.tuple #[.int .i64 0, .slice none 0 0, .int .i64 z])) (hb : Below w.heap.size w w') : TGPost w r e w' := by
  refine ⟨hb, ?_⟩
  rw [h]
  exact he
theorem TGPost.yes {w w' : World} {r : Except Int (Int × List Nl)} {e : Ending} {f : Int} {L : List Nl} {v : Value} (h : r = .ok (f, L)) (he : e = .returned (.tuple #[.int .i64 f, v, .int .i64 0])) (ho : NlOwn w' w.heap.size v L) (hb : Below w.heap.size w w') : TGPost w r e w' := by
  refine ⟨hb, ?_⟩
  rw [h]
  exact ⟨v, he, ho⟩

set_option maxRecDepth 100000 in
set_option maxHeartbeats 4000000 in
theorem takegone_any (s : ByteArray) (A : Option Addr) (cap : Nat) (adds : List Int) (w : World) (hi : IntAt w A cap adds) (hs : s.size ≤ 1100000) :
    Calls Try.prog 23 #[.string s, .slice A adds.length cap] w (TGPost w (goneF s adds)) := by
  have HI := Lib.hid hi
  clear hi
  by_cases h3 : s.size < 3
  · have HR : Hid (goneF s adds = .error 4) := if_pos h3
    have HB := Lib.hid (fun w => begin_short s w h3)
    clear h3
    go_enter Try.func23, Try.ntmps23
    go_wp2_with fail
    refine (HB.out _).mono ?_
    rintro e w1 ⟨rfl, hb⟩
    have HB1 := Lib.hid hb
    clear hb HB
    go_wp2_with fail
    go_ret3
    exact TGPost.no HR.out rfl HB1.out
  have HBG := Lib.hid (fun w => begin_any s w (by omega) (by omega))
  have hrs := restF_size s
  have hin := pairF_in s
  by_cases hf : pairF s = 0
  · have HR : Hid (goneF s adds = .error 5) := (if_neg h3).trans (if_pos hf)
    rw [hf, if_pos rfl] at HBG
    clear h3 hf hin hrs
    go_enter Try.func23, Try.ntmps23
    go_wp2_with fail
    refine (HBG.out _).mono ?_
    rintro e w1 ⟨rfl, hb⟩
    have HB1 := Lib.hid hb.bl
    clear hb HBG
    go_wp2_with fail
    go_ret3
    exact TGPost.no HR.out rfl HB1.out
  have HG : Hid (goneF s adds = match decAll (pairF s) (hasI adds (pairF s)) (restF s) with | none => .error 4 | some L => .ok (pairF s, L)) := (if_neg h3).trans (if_neg hf)
  rw [if_neg hf] at HBG
  obtain ⟨f, hfe⟩ : ∃ f, f = pairF s := ⟨_, rfl⟩
  obtain ⟨t, hte⟩ : ∃ t, t = restF s := ⟨_, rfl⟩
  rw [← hfe, ← hte] at HBG HG
  have hf1 : 1 ≤ f ∧ f ≤ 5 := by
    rcases hin with h | h
    · exact absurd h hf
    · rw [hfe]; exact h
  have htm : t.size ≤ 1100000 := by rw [hte]; omega
  obtain ⟨f1, f2⟩ := hf1
  clear hf hin hrs hfe hte h3
  go_enter Try.func23, Try.ntmps23
  go_wp2_with fail
  refine (HBG.out _).mono ?_
  rintro e w1 ⟨rfl, hb⟩
  have HH := Lib.hid hb
  clear hb HBG
  go_wp2_with fail
  refine (rest_any _ t _ HH.out.rd (by omega)).mono ?_
  rintro e w2 ⟨rfl, hw⟩
  have HH2 := Lib.hid (HH.out.set ByteArray.empty)
  rw [← hw] at HH2
  clear hw HH
  go_wp2_with fail
  refine (contains_int A cap adds f _ (HI.out.below HH2.out.bl (Nat.le_refl _))).mono ?_
  rintro e w3 ⟨rfl, hw⟩
  rw [hw]
  clear hw
  go_wp2_with fail
  obtain ⟨b, hbe⟩ : ∃ b, b = hasI adds f := ⟨_, rfl⟩
  rw [← hbe] at HG ⊢
  clear hbe
  refine (decode_any t f b _ f1 f2 htm).mono ?_
  rintro e w3 ⟨hb, hm⟩
  have HB3 := Lib.hid (HH2.out.bl.trans (hb.mono HH2.out.bl.size))
  cases hd : decAll f b t with
  | none =>
    rw [hd] at hm HG
    obtain rfl : e = _ := hm
    clear hb hd
    go_wp2_with fail
    go_ret3
    exact TGPost.no HG.out rfl HB3.out
  | some L =>
    rw [hd] at hm HG
    obtain ⟨v, rfl, ho⟩ := hm
    obtain ⟨A2, c2, rfl⟩ := OwnM.form ho
    have HO := Lib.hid (ho.low HH2.out.bl.size)
    clear hb hd ho
    go_wp2_with fail
    go_ret3
    exact TGPost.yes HG.out rfl HO.out HB3.out

/-- the next hop of a value -/
def hopF (f : Int) (n : Nat) (h : ByteArray) : ByteArray := if f = 2 ∧ n = 32 then h.extract 0 16 else h
def noughts (Z : Nat) : ByteArray := ⟨Array.replicate Z 0⟩
/-- the answer of Take -/
def takeF (s : ByteArray) (adds : List Int) : Except Int (Int × ByteArray × List Nl) :=
  if s.size < 3 then .error 4 else if pairF s = 0 then .error 5 else
  if (tR (restF s) 1).size < tN (restF s) 1 then .error 4 else
  if ((tR (restF s) 1).extract (tN (restF s) 1) (tR (restF s) 1).size).size < 1 then .error 4 else
  if (hopF (pairF s) (tN (restF s) 1) ((tR (restF s) 1).extract 0 (tN (restF s) 1))).size ≠ (zeroV (pairF s)).toNat + (sizeV (pairF s)).toNat then .error 4 else
  if (hopF (pairF s) (tN (restF s) 1) ((tR (restF s) 1).extract 0 (tN (restF s) 1))).extract 0 (zeroV (pairF s)).toNat ≠ noughts (zeroV (pairF s)).toNat then .error 4 else
  match decAll (pairF s) (hasI adds (pairF s)) (((tR (restF s) 1).extract (tN (restF s) 1) (tR (restF s) 1).size).extract 1 ((tR (restF s) 1).extract (tN (restF s) 1) (tR (restF s) 1).size).size) with
  | none => .error 4
  | some L => .ok (pairF s, (hopF (pairF s) (tN (restF s) 1) ((tR (restF s) 1).extract 0 (tN (restF s) 1))).extract (zeroV (pairF s)).toNat (hopF (pairF s) (tN (restF s) 1) ((tR (restF s) 1).extract 0 (tN (restF s) 1))).size, L)
def TKPost (w : World) (r : Except Int (Int × ByteArray × List Nl)) (e : Ending) (w' : World) : Prop := Below w.heap.size w w' ∧ match r with
  | .error z => e = .returned (.tuple #[.int .i64 0, .string ⟨#[]⟩, .slice none 0 0, .int .i64 z])
  | .ok (f, h, L) => ∃ v, e = .returned (.tuple #[.int .i64 f, .string h, v, .int .i64 0]) ∧ NlOwn w' w.heap.size v L
theorem TKPost.no {w w' : World} {r : Except Int (Int × ByteArray × List Nl)} {e : Ending} {z : Int} (h : r = .error z) (he : e = .returned (.tuple #[.int .i64 0, .string ⟨#[]⟩, .slice none 0 0, .int .i64 z])) (hb : Below w.heap.size w w') : TKPost w r e w' := by
  refine ⟨hb, ?_⟩
  rw [h]
  exact he
theorem TKPost.yes {w w' : World} {r : Except Int (Int × ByteArray × List Nl)} {e : Ending} {f : Int} {hp : ByteArray} {L : List Nl} {v : Value} (h : r = .ok (f, hp, L)) (he : e = .returned (.tuple #[.int .i64 f, .string hp, v, .int .i64 0])) (ho : NlOwn w' w.heap.size v L) (hb : Below w.heap.size w w') : TKPost w r e w' := by
  refine ⟨hb, ?_⟩
  rw [h]
  exact ⟨v, he, ho⟩

def tkS (s : ByteArray) (n : Nat) : ByteArray := if n ≤ s.size then s.extract 0 n else ByteArray.empty
theorem wtake_any (b : Nat) (s : ByteArray) (n : Nat) (w : World) (h : RdAt w b s) (hm : (s.size : Int) ≤ 9223372036854775807) {z : Int} (hz : (n : Int) = z) :
    Calls Try.prog 39 #[.pointer (some ⟨b, 0, none⟩), .int .i64 z] w fun e w' => e = .returned (.tuple #[.string (tkS s n), .bool (decide (n ≤ s.size))]) ∧ RdAt w' b (tR s n) ∧ w.grownBy w' (some b) := by
  subst hz
  by_cases hs : n ≤ s.size
  · refine (take_ok b s n w h (by omega) (by omega) hm).mono ?_
    rintro e w' ⟨rfl, rfl⟩
    rw [Int.toNat_natCast, decide_eq_true hs, show tkS s n = s.extract 0 n from if_pos hs, show tR s n = s.extract n s.size from if_pos hs]
    exact ⟨rfl, h.set _, grown_setCell w _ _⟩
  · refine (take_no b s n w h (by omega) hm).mono ?_
    rintro e w' ⟨rfl, rfl⟩
    rw [decide_eq_false hs, show tkS s n = ByteArray.empty from if_neg hs, show tR s n = s from if_neg hs]
    exact ⟨rfl, h, grown_refl _ _⟩
abbrev tO0 : Oper := { dst := some 59, op := Op.move (Operand.tmp 12), type := 4, pos := "reach.go:103", after := #[], guard := none }
abbrev tO1 : Oper := { dst := some 60, op := Op.unOp UnOp.not 4 (Operand.tmp 59), type := 4, pos := "reach.go:103", after := #[{ on := 0, ground := Ground.data }], guard := none }
abbrev tO2 : Oper := { dst := some 61, op := Op.move (Operand.tmp 60), type := 4, pos := "reach.go:103", after := #[{ on := 1, ground := Ground.data }], guard := none }
abbrev tO3 : Oper := { dst := some 62, op := Op.move (Operand.tmp 14), type := 4, pos := "reach.go:103", after := #[{ on := 2, ground := Ground.guard }], guard := some (2, false) }
abbrev tO4 : Oper := { dst := some 63, op := Op.unOp UnOp.not 4 (Operand.tmp 62), type := 4, pos := "reach.go:103", after := #[{ on := 3, ground := Ground.data }, { on := 2, ground := Ground.guard }], guard := some (2, false) }
abbrev tO5 : Oper := { dst := some 64, op := Op.pick (Operand.tmp 61) (Operand.const (Value.bool true)) (Operand.tmp 63), type := 4, pos := "reach.go:103", after := #[{ on := 2, ground := Ground.data }, { on := 4, ground := Ground.data }], guard := none }
abbrev tO6 : Oper := { dst := some 65, op := Op.move (Operand.tmp 64), type := 4, pos := "reach.go:103", after := #[{ on := 5, ground := Ground.data }, { on := 2, ground := Ground.chain }], guard := none }
abbrev tO7 : Oper := { dst := some 66, op := Op.move (Operand.tmp 11), type := 9, pos := "reach.go:103", after := #[{ on := 6, ground := Ground.guard }], guard := some (6, false) }
abbrev tO8 : Oper := { dst := some 67, op := Op.call { callee := Callee.builtin Builtin.len, args := #[Operand.tmp 66], argTypes := #[9] }, type := 3, pos := "reach.go:103", after := #[{ on := 7, ground := Ground.data }, { on := 6, ground := Ground.guard }], guard := some (6, false) }
abbrev tO9 : Oper := { dst := some 68, op := Op.fieldAddr 55 (Operand.tmp 15) 2, type := 0, pos := "reach.go:103", after := #[{ on := 6, ground := Ground.guard }], guard := some (6, false) }
abbrev tO10 : Oper := { dst := some 69, op := Op.load 3 (Operand.tmp 68), type := 3, pos := "reach.go:103", after := #[{ on := 9, ground := Ground.data }, { on := 6, ground := Ground.guard }], guard := some (6, false) }
abbrev tO11 : Oper := { dst := some 70, op := Op.fieldAddr 55 (Operand.tmp 15) 3, type := 0, pos := "reach.go:103", after := #[{ on := 6, ground := Ground.guard }], guard := some (6, false) }
abbrev tO12 : Oper := { dst := some 71, op := Op.load 3 (Operand.tmp 70), type := 3, pos := "reach.go:103", after := #[{ on := 11, ground := Ground.data }, { on := 6, ground := Ground.guard }], guard := some (6, false) }
abbrev tO13 : Oper := { dst := some 72, op := Op.binOp BinOp.add 3 (Operand.tmp 69) (Operand.tmp 71) 3, type := 3, pos := "reach.go:103", after := #[{ on := 10, ground := Ground.data }, { on := 12, ground := Ground.data }, { on := 6, ground := Ground.guard }], guard := some (6, false) }
abbrev tO14 : Oper := { dst := some 73, op := Op.binOp BinOp.neq 3 (Operand.tmp 67) (Operand.tmp 72) 3, type := 4, pos := "reach.go:103", after := #[{ on := 8, ground := Ground.data }, { on := 13, ground := Ground.data }, { on := 6, ground := Ground.guard }], guard := some (6, false) }
abbrev tO15 : Oper := { dst := some 74, op := Op.pick (Operand.tmp 65) (Operand.const (Value.bool true)) (Operand.tmp 73), type := 4, pos := "reach.go:103", after := #[{ on := 6, ground := Ground.data }, { on := 14, ground := Ground.data }], guard := none }
abbrev tO16 : Oper := { dst := some 75, op := Op.move (Operand.tmp 74), type := 4, pos := "reach.go:103", after := #[{ on := 15, ground := Ground.data }, { on := 6, ground := Ground.chain }], guard := none }
abbrev tO17 : Oper := { dst := some 76, op := Op.move (Operand.tmp 11), type := 9, pos := "reach.go:103", after := #[{ on := 16, ground := Ground.guard }], guard := some (16, false) }
abbrev tO18 : Oper := { dst := some 77, op := Op.fieldAddr 55 (Operand.tmp 15) 2, type := 0, pos := "reach.go:103", after := #[{ on := 16, ground := Ground.guard }], guard := some (16, false) }
abbrev tO19 : Oper := { dst := some 78, op := Op.load 3 (Operand.tmp 77), type := 3, pos := "reach.go:103", after := #[{ on := 18, ground := Ground.data }, { on := 16, ground := Ground.guard }], guard := some (16, false) }
abbrev tO20 : Oper := { dst := some 79, op := Op.slice 9 (Operand.tmp 76) none (some (Operand.tmp 78)) none, type := 9, pos := "reach.go:103", after := #[{ on := 17, ground := Ground.data }, { on := 19, ground := Ground.data }, { on := 16, ground := Ground.guard }], guard := some (16, false) }
abbrev tO21 : Oper := { dst := some 80, op := Op.fieldAddr 55 (Operand.tmp 15) 2, type := 0, pos := "reach.go:103", after := #[{ on := 16, ground := Ground.guard }], guard := some (16, false) }
abbrev tO22 : Oper := { dst := some 81, op := Op.load 3 (Operand.tmp 80), type := 3, pos := "reach.go:103", after := #[{ on := 21, ground := Ground.data }, { on := 16, ground := Ground.guard }], guard := some (16, false) }
abbrev tO23 : Oper := { dst := some 82, op := Op.makeSlice 52 (Operand.tmp 81) (Operand.tmp 81), type := 52, pos := "reach.go:103", after := #[{ on := 22, ground := Ground.data }, { on := 22, ground := Ground.data }, { on := 16, ground := Ground.guard }], guard := some (16, false) }
abbrev tO24 : Oper := { dst := some 83, op := Op.convert 52 9 (Operand.tmp 82), type := 9, pos := "reach.go:103", after := #[{ on := 23, ground := Ground.data }, { on := 16, ground := Ground.guard }], guard := some (16, false) }
abbrev tO25 : Oper := { dst := some 84, op := Op.binOp BinOp.neq 9 (Operand.tmp 79) (Operand.tmp 83) 9, type := 4, pos := "reach.go:103", after := #[{ on := 20, ground := Ground.data }, { on := 24, ground := Ground.data }, { on := 16, ground := Ground.guard }], guard := some (16, false) }
abbrev tO26 : Oper := { dst := some 85, op := Op.pick (Operand.tmp 75) (Operand.const (Value.bool true)) (Operand.tmp 84), type := 4, pos := "reach.go:103", after := #[{ on := 16, ground := Ground.data }, { on := 25, ground := Ground.data }], guard := none }
set_option maxRecDepth 100000 in
set_option maxHeartbeats 8000000 in
theorem take_gen (s : ByteArray) (f : Int) (Z SZ n : Nat) (t t1 t2 t3 h0 hop : ByteArray) (b1 b2 : Bool) (A : Option Addr) (cap : Nat) (adds : List Int) (w : World) (r : Except Int (Int × ByteArray × List Nl)) (hi : IntAt w A cap adds) (f1 : 1 ≤ f) (f2 : f ≤ 5) (hZ : Z ≤ 8) (hSZ : SZ ≤ 16) (hn : n < 256) (ht3 : t3.size ≤ 1100000) (hh0 : h0.size ≤ 1100000)
    (hbg : ∀ w, Calls Try.prog 37 #[.string s] w fun e w' => e = .returned (.tuple #[.pointer (some ⟨w.heap.size, 0, none⟩), .int .i64 f, .int .i64 0]) ∧ HeadAt w w' t)
    (hnum : ∀ b w, RdAt w b t → Calls Try.prog 38 #[.pointer (some ⟨b, 0, none⟩), .int .i64 1] w fun e w' => (∃ q, e = .returned (.tuple #[.int .u64 (n : Nat), .bool q])) ∧ RdAt w' b t1 ∧ w.grownBy w' (some b))
    (htk1 : ∀ b w, RdAt w b t1 → Calls Try.prog 39 #[.pointer (some ⟨b, 0, none⟩), .int .i64 (n : Nat)] w fun e w' => e = .returned (.tuple #[.string h0, .bool b1]) ∧ RdAt w' b t2 ∧ w.grownBy w' (some b))
    (htk2 : ∀ b w, RdAt w b t2 → Calls Try.prog 39 #[.pointer (some ⟨b, 0, none⟩), .int .i64 1] w fun e w' => (∃ q, e = .returned (.tuple #[.string q, .bool b2])) ∧ RdAt w' b t3 ∧ w.grownBy w' (some b))
    (hrow : ∀ w, ∃ afi safi, Calls Try.prog 27 #[.int .i64 f] w fun e w' => e = .returned (.tuple #[.agg #[.int .u16 afi, .int .u8 safi, .int .i64 (Z : Nat), .int .i64 (SZ : Nat)], .bool true]) ∧ Below w.heap.size w w')
    (hhop : b1 = true → hopF f n h0 = hop) (h16 : b1 = true → f = 2 ∧ n = 32 → h0.size = 32)
    (r1 : b1 = false → r = .error 4) (r2 : b2 = false → r = .error 4) (r3 : b1 = true → hop.size ≠ Z + SZ → r = .error 4) (r4 : b1 = true → hop.extract 0 Z ≠ noughts Z → r = .error 4)
    (r5 : b1 = true → b2 = true → hop.size = Z + SZ → hop.extract 0 Z = noughts Z → r = match decAll f (hasI adds f) t3 with | none => .error 4 | some L => .ok (f, hop.extract Z hop.size, L)) :
    Calls Try.prog 20 #[.string s, .slice A adds.length cap] w (TKPost w r) := by
  have HI := Lib.hid hi
  have HBG := Lib.hid hbg
  have HNUM := Lib.hid hnum
  have HTK1 := Lib.hid htk1
  have HTK2 := Lib.hid htk2
  have HROW := Lib.hid hrow
  have HHOP := Lib.hid hhop
  have H16 := Lib.hid h16
  have R1 := Lib.hid r1
  have R2 := Lib.hid r2
  have R3 := Lib.hid r3
  have R4 := Lib.hid r4
  have R5 := Lib.hid r5
  clear hi hbg hnum htk1 htk2 hrow hhop h16 r1 r2 r3 r4 r5
  go_enter Try.func20, Try.ntmps20
  go_wp2_with fail
  refine (HBG.out _).mono ?_
  rintro e w1 ⟨rfl, hb⟩
  have HH := Lib.hid hb
  clear hb HBG
  go_wp2_with fail
  refine (HNUM.out _ _ HH.out.rd).mono ?_
  rintro e w2 ⟨⟨q1, rfl⟩, hr, hg⟩
  have HH2 := Lib.hid (HH.out.grown hr hg)
  clear hr hg HH HNUM
  go_wp2_with fail
  refine (HTK1.out _ _ HH2.out.rd).mono ?_
  rintro e w3 ⟨rfl, hr, hg⟩
  have HH3 := Lib.hid (HH2.out.grown hr hg)
  clear hr hg HH2 HTK1
  go_wp2_with fail
  refine (HTK2.out _ _ HH3.out.rd).mono ?_
  rintro e w4 ⟨⟨q2, rfl⟩, hr, hg⟩
  have HH4 := Lib.hid (HH3.out.grown hr hg)
  clear hr hg HH3 HTK2
  go_wp2_with fail
  obtain ⟨afi, safi, hro⟩ := HROW.out w4
  refine hro.mono ?_
  rintro e w5 ⟨rfl, hb⟩
  have HH5 := Lib.hid ((HH4.out.below hb).below ((Below.refl _ _).alloc (Nat.le_refl _) (.cells #[.int .u16 afi, .int .u8 safi, .int .i64 (Z : Nat), .int .i64 (SZ : Nat)] 55)))
  have HX : Hid (CellsAt (w5.alloc (.cells #[.int .u16 afi, .int .u8 safi, .int .i64 (Z : Nat), .int .i64 (SZ : Nat)] 55)) w5.heap.size #[.int .u16 afi, .int .u8 safi, .int .i64 (Z : Nat), .int .i64 (SZ : Nat)] 55) := CellsAt.new _ _ _
  have HH4L := Lib.hid (Nat.lt_of_lt_of_le HH4.out.rd.lt hb.size)
  clear hb hro HROW HH4
  obtain ⟨x0, x1, x2, x3⟩ := HX.out.c4
  have hxl := HX.out.lt
  cases b1 with
  | false =>
    have HR := Lib.hid (R1.out rfl)
    clear R1 R2 R3 R4 R5 HHOP H16
    by_cases hf2 : f = 2
    · have g1 : (f == 2) = true := by rw [beq_iff_eq]; exact hf2
      by_cases hn2 : n = 32
      · have g2 : (((n : Nat) : Int) == 32) = true := by rw [beq_iff_eq]; omega
        clear hf2 hn2
        go_wp2_with fail
        refine wp_region_held_drew (S := fun w' => Below (w5.alloc (.cells #[.int .u16 afi, .int .u8 safi, .int .i64 (Z : Nat), .int .i64 (SZ : Nat)] 55)).heap.size (w5.alloc (.cells #[.int .u16 afi, .int .u8 safi, .int .i64 (Z : Nat), .int .i64 (SZ : Nat)] 55)) w') (by kernel_rfl) (below_drewN (Below.refl _ _) 1) (fun hHeld => ?_)
        refine wpAnyH_take (i := 0) (oi := tO0) (v := ?_) rfl (by kernel_rfl) (by kernel_rfl) (by kernel_rfl) (fun _ _ _ h => h) (Or.inl ⟨by rfl, ?_⟩) hHeld ?_
        rotate_left
        · intro w hSw
          clear hSw
          try dsimp only [tO0]
          go_simp
          try with_reducible rfl
        try simp only [tO0, Act.put, List.setIfInBounds_toArray, List.set_cons_zero, List.set_cons_succ]
        refine wpAnyH_take (i := 1) (oi := tO1) (v := ?_) rfl (by kernel_rfl) (by kernel_rfl) (by kernel_rfl) (fun _ _ _ h => h) (Or.inl ⟨by rfl, ?_⟩) hHeld ?_
        rotate_left
        · intro w hSw
          clear hSw
          try dsimp only [tO1]
          go_simp
          try with_reducible rfl
        try simp only [tO1, Act.put, List.setIfInBounds_toArray, List.set_cons_zero, List.set_cons_succ]
        refine wpAnyH_take (i := 2) (oi := tO2) (v := ?_) rfl (by kernel_rfl) (by kernel_rfl) (by kernel_rfl) (fun _ _ _ h => h) (Or.inl ⟨by rfl, ?_⟩) hHeld ?_
        rotate_left
        · intro w hSw
          clear hSw
          try dsimp only [tO2]
          go_simp
          try with_reducible rfl
        try simp only [tO2, Act.put, List.setIfInBounds_toArray, List.set_cons_zero, List.set_cons_succ]
        refine wpAnyH_take (i := 3) (oi := tO3) (v := undef) rfl (by kernel_rfl) (by kernel_rfl) (by kernel_rfl) (fun _ _ _ h => h) (Or.inr ⟨by rfl, rfl⟩) hHeld ?_
        try simp only [tO3, Act.put, List.setIfInBounds_toArray, List.set_cons_zero, List.set_cons_succ]
        refine wpAnyH_take (i := 4) (oi := tO4) (v := undef) rfl (by kernel_rfl) (by kernel_rfl) (by kernel_rfl) (fun _ _ _ h => h) (Or.inr ⟨by rfl, rfl⟩) hHeld ?_
        try simp only [tO4, Act.put, List.setIfInBounds_toArray, List.set_cons_zero, List.set_cons_succ]
        refine wpAnyH_take (i := 5) (oi := tO5) (v := ?_) rfl (by kernel_rfl) (by kernel_rfl) (by kernel_rfl) (fun _ _ _ h => h) (Or.inl ⟨by rfl, ?_⟩) hHeld ?_
        rotate_left
        · intro w hSw
          clear hSw
          try dsimp only [tO5]
          go_simp
          try with_reducible rfl
        try simp only [tO5, Act.put, List.setIfInBounds_toArray, List.set_cons_zero, List.set_cons_succ]
        refine wpAnyH_take (i := 6) (oi := tO6) (v := ?_) rfl (by kernel_rfl) (by kernel_rfl) (by kernel_rfl) (fun _ _ _ h => h) (Or.inl ⟨by rfl, ?_⟩) hHeld ?_
        rotate_left
        · intro w hSw
          clear hSw
          try dsimp only [tO6]
          go_simp
          try with_reducible rfl
        try simp only [tO6, Act.put, List.setIfInBounds_toArray, List.set_cons_zero, List.set_cons_succ]
        refine wpAnyH_take (i := 7) (oi := tO7) (v := undef) rfl (by kernel_rfl) (by kernel_rfl) (by kernel_rfl) (fun _ _ _ h => h) (Or.inr ⟨by rfl, rfl⟩) hHeld ?_
        try simp only [tO7, Act.put, List.setIfInBounds_toArray, List.set_cons_zero, List.set_cons_succ]
        refine wpAnyH_take (i := 8) (oi := tO8) (v := undef) rfl (by kernel_rfl) (by kernel_rfl) (by kernel_rfl) (fun _ _ _ h => h) (Or.inr ⟨by rfl, rfl⟩) hHeld ?_
        try simp only [tO8, Act.put, List.setIfInBounds_toArray, List.set_cons_zero, List.set_cons_succ]
        refine wpAnyH_take (i := 9) (oi := tO9) (v := undef) rfl (by kernel_rfl) (by kernel_rfl) (by kernel_rfl) (fun _ _ _ h => h) (Or.inr ⟨by rfl, rfl⟩) hHeld ?_
        try simp only [tO9, Act.put, List.setIfInBounds_toArray, List.set_cons_zero, List.set_cons_succ]
        refine wpAnyH_take (i := 10) (oi := tO10) (v := undef) rfl (by kernel_rfl) (by kernel_rfl) (by kernel_rfl) (fun _ _ _ h => h) (Or.inr ⟨by rfl, rfl⟩) hHeld ?_
        try simp only [tO10, Act.put, List.setIfInBounds_toArray, List.set_cons_zero, List.set_cons_succ]
        refine wpAnyH_take (i := 11) (oi := tO11) (v := undef) rfl (by kernel_rfl) (by kernel_rfl) (by kernel_rfl) (fun _ _ _ h => h) (Or.inr ⟨by rfl, rfl⟩) hHeld ?_
        try simp only [tO11, Act.put, List.setIfInBounds_toArray, List.set_cons_zero, List.set_cons_succ]
        refine wpAnyH_take (i := 12) (oi := tO12) (v := undef) rfl (by kernel_rfl) (by kernel_rfl) (by kernel_rfl) (fun _ _ _ h => h) (Or.inr ⟨by rfl, rfl⟩) hHeld ?_
        try simp only [tO12, Act.put, List.setIfInBounds_toArray, List.set_cons_zero, List.set_cons_succ]
        refine wpAnyH_take (i := 13) (oi := tO13) (v := undef) rfl (by kernel_rfl) (by kernel_rfl) (by kernel_rfl) (fun _ _ _ h => h) (Or.inr ⟨by rfl, rfl⟩) hHeld ?_
        try simp only [tO13, Act.put, List.setIfInBounds_toArray, List.set_cons_zero, List.set_cons_succ]
        refine wpAnyH_take (i := 14) (oi := tO14) (v := undef) rfl (by kernel_rfl) (by kernel_rfl) (by kernel_rfl) (fun _ _ _ h => h) (Or.inr ⟨by rfl, rfl⟩) hHeld ?_
        try simp only [tO14, Act.put, List.setIfInBounds_toArray, List.set_cons_zero, List.set_cons_succ]
        refine wpAnyH_take (i := 15) (oi := tO15) (v := ?_) rfl (by kernel_rfl) (by kernel_rfl) (by kernel_rfl) (fun _ _ _ h => h) (Or.inl ⟨by rfl, ?_⟩) hHeld ?_
        rotate_left
        · intro w hSw
          clear hSw
          try dsimp only [tO15]
          go_simp
          try with_reducible rfl
        try simp only [tO15, Act.put, List.setIfInBounds_toArray, List.set_cons_zero, List.set_cons_succ]
        refine wpAnyH_take (i := 16) (oi := tO16) (v := ?_) rfl (by kernel_rfl) (by kernel_rfl) (by kernel_rfl) (fun _ _ _ h => h) (Or.inl ⟨by rfl, ?_⟩) hHeld ?_
        rotate_left
        · intro w hSw
          clear hSw
          try dsimp only [tO16]
          go_simp
          try with_reducible rfl
        try simp only [tO16, Act.put, List.setIfInBounds_toArray, List.set_cons_zero, List.set_cons_succ]
        refine wpAnyH_take (i := 17) (oi := tO17) (v := undef) rfl (by kernel_rfl) (by kernel_rfl) (by kernel_rfl) (fun _ _ _ h => h) (Or.inr ⟨by rfl, rfl⟩) hHeld ?_
        try simp only [tO17, Act.put, List.setIfInBounds_toArray, List.set_cons_zero, List.set_cons_succ]
        refine wpAnyH_take (i := 18) (oi := tO18) (v := undef) rfl (by kernel_rfl) (by kernel_rfl) (by kernel_rfl) (fun _ _ _ h => h) (Or.inr ⟨by rfl, rfl⟩) hHeld ?_
        try simp only [tO18, Act.put, List.setIfInBounds_toArray, List.set_cons_zero, List.set_cons_succ]
        refine wpAnyH_take (i := 19) (oi := tO19) (v := undef) rfl (by kernel_rfl) (by kernel_rfl) (by kernel_rfl) (fun _ _ _ h => h) (Or.inr ⟨by rfl, rfl⟩) hHeld ?_
        try simp only [tO19, Act.put, List.setIfInBounds_toArray, List.set_cons_zero, List.set_cons_succ]
        refine wpAnyH_take (i := 20) (oi := tO20) (v := undef) rfl (by kernel_rfl) (by kernel_rfl) (by kernel_rfl) (fun _ _ _ h => h) (Or.inr ⟨by rfl, rfl⟩) hHeld ?_
        try simp only [tO20, Act.put, List.setIfInBounds_toArray, List.set_cons_zero, List.set_cons_succ]
        refine wpAnyH_take (i := 21) (oi := tO21) (v := undef) rfl (by kernel_rfl) (by kernel_rfl) (by kernel_rfl) (fun _ _ _ h => h) (Or.inr ⟨by rfl, rfl⟩) hHeld ?_
        try simp only [tO21, Act.put, List.setIfInBounds_toArray, List.set_cons_zero, List.set_cons_succ]
        refine wpAnyH_take (i := 22) (oi := tO22) (v := undef) rfl (by kernel_rfl) (by kernel_rfl) (by kernel_rfl) (fun _ _ _ h => h) (Or.inr ⟨by rfl, rfl⟩) hHeld ?_
        try simp only [tO22, Act.put, List.setIfInBounds_toArray, List.set_cons_zero, List.set_cons_succ]
        refine wpAnyH_take (i := 23) (oi := tO23) (v := undef) rfl (by kernel_rfl) (by kernel_rfl) (by kernel_rfl) (fun _ _ _ h => h) (Or.inr ⟨by rfl, rfl⟩) hHeld ?_
        try simp only [tO23, Act.put, List.setIfInBounds_toArray, List.set_cons_zero, List.set_cons_succ]
        refine wpAnyH_take (i := 24) (oi := tO24) (v := undef) rfl (by kernel_rfl) (by kernel_rfl) (by kernel_rfl) (fun _ _ _ h => h) (Or.inr ⟨by rfl, rfl⟩) hHeld ?_
        try simp only [tO24, Act.put, List.setIfInBounds_toArray, List.set_cons_zero, List.set_cons_succ]
        refine wpAnyH_take (i := 25) (oi := tO25) (v := undef) rfl (by kernel_rfl) (by kernel_rfl) (by kernel_rfl) (fun _ _ _ h => h) (Or.inr ⟨by rfl, rfl⟩) hHeld ?_
        try simp only [tO25, Act.put, List.setIfInBounds_toArray, List.set_cons_zero, List.set_cons_succ]
        refine wpAnyH_take (i := 26) (oi := tO26) (v := ?_) rfl (by kernel_rfl) (by kernel_rfl) (by kernel_rfl) (fun _ _ _ h => h) (Or.inl ⟨by rfl, ?_⟩) hHeld ?_
        rotate_left
        · intro w hSw
          clear hSw
          try dsimp only [tO26]
          go_simp
          try with_reducible rfl
        try simp only [tO26, Act.put, List.setIfInBounds_toArray, List.set_cons_zero, List.set_cons_succ]
        refine wpAnyH_done (by as_aux_lemma => kernel_rfl) ?_ _
        have HB6 := Lib.hid (HH5.out.bl.trans (hHeld.mono HH5.out.bl.size))
        have HH6 := Lib.hid (HH5.out.below hHeld)
        have HX6 := Lib.hid (HX.out.below hHeld hxl)
        clear hHeld
        go_wp2_with fail
        try simp only [Exit.inBlock, Exit.then]
        refine bodyPost_ret (results_tmp4 rfl _ _ _) rfl ?_
        exact TKPost.no HR.out rfl HB6.out
      · have g2 : (((n : Nat) : Int) == 32) = false := by rw [beq_eq_false_iff_ne]; omega
        clear hf2 hn2
        go_wp2_with fail
        refine wp_region_held_drew (S := fun w' => Below (w5.alloc (.cells #[.int .u16 afi, .int .u8 safi, .int .i64 (Z : Nat), .int .i64 (SZ : Nat)] 55)).heap.size (w5.alloc (.cells #[.int .u16 afi, .int .u8 safi, .int .i64 (Z : Nat), .int .i64 (SZ : Nat)] 55)) w') (by kernel_rfl) (below_drewN (Below.refl _ _) 1) (fun hHeld => ?_)
        refine wpAnyH_take (i := 0) (oi := tO0) (v := ?_) rfl (by kernel_rfl) (by kernel_rfl) (by kernel_rfl) (fun _ _ _ h => h) (Or.inl ⟨by rfl, ?_⟩) hHeld ?_
        rotate_left
        · intro w hSw
          clear hSw
          try dsimp only [tO0]
          go_simp
          try with_reducible rfl
        try simp only [tO0, Act.put, List.setIfInBounds_toArray, List.set_cons_zero, List.set_cons_succ]
        refine wpAnyH_take (i := 1) (oi := tO1) (v := ?_) rfl (by kernel_rfl) (by kernel_rfl) (by kernel_rfl) (fun _ _ _ h => h) (Or.inl ⟨by rfl, ?_⟩) hHeld ?_
        rotate_left
        · intro w hSw
          clear hSw
          try dsimp only [tO1]
          go_simp
          try with_reducible rfl
        try simp only [tO1, Act.put, List.setIfInBounds_toArray, List.set_cons_zero, List.set_cons_succ]
        refine wpAnyH_take (i := 2) (oi := tO2) (v := ?_) rfl (by kernel_rfl) (by kernel_rfl) (by kernel_rfl) (fun _ _ _ h => h) (Or.inl ⟨by rfl, ?_⟩) hHeld ?_
        rotate_left
        · intro w hSw
          clear hSw
          try dsimp only [tO2]
          go_simp
          try with_reducible rfl
        try simp only [tO2, Act.put, List.setIfInBounds_toArray, List.set_cons_zero, List.set_cons_succ]
        refine wpAnyH_take (i := 3) (oi := tO3) (v := undef) rfl (by kernel_rfl) (by kernel_rfl) (by kernel_rfl) (fun _ _ _ h => h) (Or.inr ⟨by rfl, rfl⟩) hHeld ?_
        try simp only [tO3, Act.put, List.setIfInBounds_toArray, List.set_cons_zero, List.set_cons_succ]
        refine wpAnyH_take (i := 4) (oi := tO4) (v := undef) rfl (by kernel_rfl) (by kernel_rfl) (by kernel_rfl) (fun _ _ _ h => h) (Or.inr ⟨by rfl, rfl⟩) hHeld ?_
        try simp only [tO4, Act.put, List.setIfInBounds_toArray, List.set_cons_zero, List.set_cons_succ]
        refine wpAnyH_take (i := 5) (oi := tO5) (v := ?_) rfl (by kernel_rfl) (by kernel_rfl) (by kernel_rfl) (fun _ _ _ h => h) (Or.inl ⟨by rfl, ?_⟩) hHeld ?_
        rotate_left
        · intro w hSw
          clear hSw
          try dsimp only [tO5]
          go_simp
          try with_reducible rfl
        try simp only [tO5, Act.put, List.setIfInBounds_toArray, List.set_cons_zero, List.set_cons_succ]
        refine wpAnyH_take (i := 6) (oi := tO6) (v := ?_) rfl (by kernel_rfl) (by kernel_rfl) (by kernel_rfl) (fun _ _ _ h => h) (Or.inl ⟨by rfl, ?_⟩) hHeld ?_
        rotate_left
        · intro w hSw
          clear hSw
          try dsimp only [tO6]
          go_simp
          try with_reducible rfl
        try simp only [tO6, Act.put, List.setIfInBounds_toArray, List.set_cons_zero, List.set_cons_succ]
        refine wpAnyH_take (i := 7) (oi := tO7) (v := undef) rfl (by kernel_rfl) (by kernel_rfl) (by kernel_rfl) (fun _ _ _ h => h) (Or.inr ⟨by rfl, rfl⟩) hHeld ?_
        try simp only [tO7, Act.put, List.setIfInBounds_toArray, List.set_cons_zero, List.set_cons_succ]
        refine wpAnyH_take (i := 8) (oi := tO8) (v := undef) rfl (by kernel_rfl) (by kernel_rfl) (by kernel_rfl) (fun _ _ _ h => h) (Or.inr ⟨by rfl, rfl⟩) hHeld ?_
        try simp only [tO8, Act.put, List.setIfInBounds_toArray, List.set_cons_zero, List.set_cons_succ]
        refine wpAnyH_take (i := 9) (oi := tO9) (v := undef) rfl (by kernel_rfl) (by kernel_rfl) (by kernel_rfl) (fun _ _ _ h => h) (Or.inr ⟨by rfl, rfl⟩) hHeld ?_
        try simp only [tO9, Act.put, List.setIfInBounds_toArray, List.set_cons_zero, List.set_cons_succ]
        refine wpAnyH_take (i := 10) (oi := tO10) (v := undef) rfl (by kernel_rfl) (by kernel_rfl) (by kernel_rfl) (fun _ _ _ h => h) (Or.inr ⟨by rfl, rfl⟩) hHeld ?_
        try simp only [tO10, Act.put, List.setIfInBounds_toArray, List.set_cons_zero, List.set_cons_succ]
        refine wpAnyH_take (i := 11) (oi := tO11) (v := undef) rfl (by kernel_rfl) (by kernel_rfl) (by kernel_rfl) (fun _ _ _ h => h) (Or.inr ⟨by rfl, rfl⟩) hHeld ?_
        try simp only [tO11, Act.put, List.setIfInBounds_toArray, List.set_cons_zero, List.set_cons_succ]
        refine wpAnyH_take (i := 12) (oi := tO12) (v := undef) rfl (by kernel_rfl) (by kernel_rfl) (by kernel_rfl) (fun _ _ _ h => h) (Or.inr ⟨by rfl, rfl⟩) hHeld ?_
        try simp only [tO12, Act.put, List.setIfInBounds_toArray, List.set_cons_zero, List.set_cons_succ]
        refine wpAnyH_take (i := 13) (oi := tO13) (v := undef) rfl (by kernel_rfl) (by kernel_rfl) (by kernel_rfl) (fun _ _ _ h => h) (Or.inr ⟨by rfl, rfl⟩) hHeld ?_
        try simp only [tO13, Act.put, List.setIfInBounds_toArray, List.set_cons_zero, List.set_cons_succ]
        refine wpAnyH_take (i := 14) (oi := tO14) (v := undef) rfl (by kernel_rfl) (by kernel_rfl) (by kernel_rfl) (fun _ _ _ h => h) (Or.inr ⟨by rfl, rfl⟩) hHeld ?_
        try simp only [tO14, Act.put, List.setIfInBounds_toArray, List.set_cons_zero, List.set_cons_succ]
        refine wpAnyH_take (i := 15) (oi := tO15) (v := ?_) rfl (by kernel_rfl) (by kernel_rfl) (by kernel_rfl) (fun _ _ _ h => h) (Or.inl ⟨by rfl, ?_⟩) hHeld ?_
        rotate_left
        · intro w hSw
          clear hSw
          try dsimp only [tO15]
          go_simp
          try with_reducible rfl
        try simp only [tO15, Act.put, List.setIfInBounds_toArray, List.set_cons_zero, List.set_cons_succ]
        refine wpAnyH_take (i := 16) (oi := tO16) (v := ?_) rfl (by kernel_rfl) (by kernel_rfl) (by kernel_rfl) (fun _ _ _ h => h) (Or.inl ⟨by rfl, ?_⟩) hHeld ?_
        rotate_left
        · intro w hSw
          clear hSw
          try dsimp only [tO16]
          go_simp
          try with_reducible rfl
        try simp only [tO16, Act.put, List.setIfInBounds_toArray, List.set_cons_zero, List.set_cons_succ]
        refine wpAnyH_take (i := 17) (oi := tO17) (v := undef) rfl (by kernel_rfl) (by kernel_rfl) (by kernel_rfl) (fun _ _ _ h => h) (Or.inr ⟨by rfl, rfl⟩) hHeld ?_
        try simp only [tO17, Act.put, List.setIfInBounds_toArray, List.set_cons_zero, List.set_cons_succ]
        refine wpAnyH_take (i := 18) (oi := tO18) (v := undef) rfl (by kernel_rfl) (by kernel_rfl) (by kernel_rfl) (fun _ _ _ h => h) (Or.inr ⟨by rfl, rfl⟩) hHeld ?_
        try simp only [tO18, Act.put, List.setIfInBounds_toArray, List.set_cons_zero, List.set_cons_succ]
        refine wpAnyH_take (i := 19) (oi := tO19) (v := undef) rfl (by kernel_rfl) (by kernel_rfl) (by kernel_rfl) (fun _ _ _ h => h) (Or.inr ⟨by rfl, rfl⟩) hHeld ?_
        try simp only [tO19, Act.put, List.setIfInBounds_toArray, List.set_cons_zero, List.set_cons_succ]
        refine wpAnyH_take (i := 20) (oi := tO20) (v := undef) rfl (by kernel_rfl) (by kernel_rfl) (by kernel_rfl) (fun _ _ _ h => h) (Or.inr ⟨by rfl, rfl⟩) hHeld ?_
        try simp only [tO20, Act.put, List.setIfInBounds_toArray, List.set_cons_zero, List.set_cons_succ]
        refine wpAnyH_take (i := 21) (oi := tO21) (v := undef) rfl (by kernel_rfl) (by kernel_rfl) (by kernel_rfl) (fun _ _ _ h => h) (Or.inr ⟨by rfl, rfl⟩) hHeld ?_
        try simp only [tO21, Act.put, List.setIfInBounds_toArray, List.set_cons_zero, List.set_cons_succ]
        refine wpAnyH_take (i := 22) (oi := tO22) (v := undef) rfl (by kernel_rfl) (by kernel_rfl) (by kernel_rfl) (fun _ _ _ h => h) (Or.inr ⟨by rfl, rfl⟩) hHeld ?_
        try simp only [tO22, Act.put, List.setIfInBounds_toArray, List.set_cons_zero, List.set_cons_succ]
        refine wpAnyH_take (i := 23) (oi := tO23) (v := undef) rfl (by kernel_rfl) (by kernel_rfl) (by kernel_rfl) (fun _ _ _ h => h) (Or.inr ⟨by rfl, rfl⟩) hHeld ?_
        try simp only [tO23, Act.put, List.setIfInBounds_toArray, List.set_cons_zero, List.set_cons_succ]
        refine wpAnyH_take (i := 24) (oi := tO24) (v := undef) rfl (by kernel_rfl) (by kernel_rfl) (by kernel_rfl) (fun _ _ _ h => h) (Or.inr ⟨by rfl, rfl⟩) hHeld ?_
        try simp only [tO24, Act.put, List.setIfInBounds_toArray, List.set_cons_zero, List.set_cons_succ]
        refine wpAnyH_take (i := 25) (oi := tO25) (v := undef) rfl (by kernel_rfl) (by kernel_rfl) (by kernel_rfl) (fun _ _ _ h => h) (Or.inr ⟨by rfl, rfl⟩) hHeld ?_
        try simp only [tO25, Act.put, List.setIfInBounds_toArray, List.set_cons_zero, List.set_cons_succ]
        refine wpAnyH_take (i := 26) (oi := tO26) (v := ?_) rfl (by kernel_rfl) (by kernel_rfl) (by kernel_rfl) (fun _ _ _ h => h) (Or.inl ⟨by rfl, ?_⟩) hHeld ?_
        rotate_left
        · intro w hSw
          clear hSw
          try dsimp only [tO26]
          go_simp
          try with_reducible rfl
        try simp only [tO26, Act.put, List.setIfInBounds_toArray, List.set_cons_zero, List.set_cons_succ]
        refine wpAnyH_done (by as_aux_lemma => kernel_rfl) ?_ _
        have HB6 := Lib.hid (HH5.out.bl.trans (hHeld.mono HH5.out.bl.size))
        have HH6 := Lib.hid (HH5.out.below hHeld)
        have HX6 := Lib.hid (HX.out.below hHeld hxl)
        clear hHeld
        go_wp2_with fail
        try simp only [Exit.inBlock, Exit.then]
        refine bodyPost_ret (results_tmp4 rfl _ _ _) rfl ?_
        exact TKPost.no HR.out rfl HB6.out
    · have g1 : (f == 2) = false := by rw [beq_eq_false_iff_ne]; exact hf2
      clear hf2
      go_wp2_with fail
      refine wp_region_held_drew (S := fun w' => Below (w5.alloc (.cells #[.int .u16 afi, .int .u8 safi, .int .i64 (Z : Nat), .int .i64 (SZ : Nat)] 55)).heap.size (w5.alloc (.cells #[.int .u16 afi, .int .u8 safi, .int .i64 (Z : Nat), .int .i64 (SZ : Nat)] 55)) w') (by kernel_rfl) (below_drewN (Below.refl _ _) 1) (fun hHeld => ?_)
      refine wpAnyH_take (i := 0) (oi := tO0) (v := ?_) rfl (by kernel_rfl) (by kernel_rfl) (by kernel_rfl) (fun _ _ _ h => h) (Or.inl ⟨by rfl, ?_⟩) hHeld ?_
      rotate_left
      · intro w hSw
        clear hSw
        try dsimp only [tO0]
        go_simp
        try with_reducible rfl
      try simp only [tO0, Act.put, List.setIfInBounds_toArray, List.set_cons_zero, List.set_cons_succ]
      refine wpAnyH_take (i := 1) (oi := tO1) (v := ?_) rfl (by kernel_rfl) (by kernel_rfl) (by kernel_rfl) (fun _ _ _ h => h) (Or.inl ⟨by rfl, ?_⟩) hHeld ?_
      rotate_left
      · intro w hSw
        clear hSw
        try dsimp only [tO1]
        go_simp
        try with_reducible rfl
      try simp only [tO1, Act.put, List.setIfInBounds_toArray, List.set_cons_zero, List.set_cons_succ]
      refine wpAnyH_take (i := 2) (oi := tO2) (v := ?_) rfl (by kernel_rfl) (by kernel_rfl) (by kernel_rfl) (fun _ _ _ h => h) (Or.inl ⟨by rfl, ?_⟩) hHeld ?_
      rotate_left
      · intro w hSw
        clear hSw
        try dsimp only [tO2]
        go_simp
        try with_reducible rfl
      try simp only [tO2, Act.put, List.setIfInBounds_toArray, List.set_cons_zero, List.set_cons_succ]
      refine wpAnyH_take (i := 3) (oi := tO3) (v := undef) rfl (by kernel_rfl) (by kernel_rfl) (by kernel_rfl) (fun _ _ _ h => h) (Or.inr ⟨by rfl, rfl⟩) hHeld ?_
      try simp only [tO3, Act.put, List.setIfInBounds_toArray, List.set_cons_zero, List.set_cons_succ]
      refine wpAnyH_take (i := 4) (oi := tO4) (v := undef) rfl (by kernel_rfl) (by kernel_rfl) (by kernel_rfl) (fun _ _ _ h => h) (Or.inr ⟨by rfl, rfl⟩) hHeld ?_
      try simp only [tO4, Act.put, List.setIfInBounds_toArray, List.set_cons_zero, List.set_cons_succ]
      refine wpAnyH_take (i := 5) (oi := tO5) (v := ?_) rfl (by kernel_rfl) (by kernel_rfl) (by kernel_rfl) (fun _ _ _ h => h) (Or.inl ⟨by rfl, ?_⟩) hHeld ?_
      rotate_left
      · intro w hSw
        clear hSw
        try dsimp only [tO5]
        go_simp
        try with_reducible rfl
      try simp only [tO5, Act.put, List.setIfInBounds_toArray, List.set_cons_zero, List.set_cons_succ]
      refine wpAnyH_take (i := 6) (oi := tO6) (v := ?_) rfl (by kernel_rfl) (by kernel_rfl) (by kernel_rfl) (fun _ _ _ h => h) (Or.inl ⟨by rfl, ?_⟩) hHeld ?_
      rotate_left
      · intro w hSw
        clear hSw
        try dsimp only [tO6]
        go_simp
        try with_reducible rfl
      try simp only [tO6, Act.put, List.setIfInBounds_toArray, List.set_cons_zero, List.set_cons_succ]
      refine wpAnyH_take (i := 7) (oi := tO7) (v := undef) rfl (by kernel_rfl) (by kernel_rfl) (by kernel_rfl) (fun _ _ _ h => h) (Or.inr ⟨by rfl, rfl⟩) hHeld ?_
      try simp only [tO7, Act.put, List.setIfInBounds_toArray, List.set_cons_zero, List.set_cons_succ]
      refine wpAnyH_take (i := 8) (oi := tO8) (v := undef) rfl (by kernel_rfl) (by kernel_rfl) (by kernel_rfl) (fun _ _ _ h => h) (Or.inr ⟨by rfl, rfl⟩) hHeld ?_
      try simp only [tO8, Act.put, List.setIfInBounds_toArray, List.set_cons_zero, List.set_cons_succ]
      refine wpAnyH_take (i := 9) (oi := tO9) (v := undef) rfl (by kernel_rfl) (by kernel_rfl) (by kernel_rfl) (fun _ _ _ h => h) (Or.inr ⟨by rfl, rfl⟩) hHeld ?_
      try simp only [tO9, Act.put, List.setIfInBounds_toArray, List.set_cons_zero, List.set_cons_succ]
      refine wpAnyH_take (i := 10) (oi := tO10) (v := undef) rfl (by kernel_rfl) (by kernel_rfl) (by kernel_rfl) (fun _ _ _ h => h) (Or.inr ⟨by rfl, rfl⟩) hHeld ?_
      try simp only [tO10, Act.put, List.setIfInBounds_toArray, List.set_cons_zero, List.set_cons_succ]
      refine wpAnyH_take (i := 11) (oi := tO11) (v := undef) rfl (by kernel_rfl) (by kernel_rfl) (by kernel_rfl) (fun _ _ _ h => h) (Or.inr ⟨by rfl, rfl⟩) hHeld ?_
      try simp only [tO11, Act.put, List.setIfInBounds_toArray, List.set_cons_zero, List.set_cons_succ]
      refine wpAnyH_take (i := 12) (oi := tO12) (v := undef) rfl (by kernel_rfl) (by kernel_rfl) (by kernel_rfl) (fun _ _ _ h => h) (Or.inr ⟨by rfl, rfl⟩) hHeld ?_
      try simp only [tO12, Act.put, List.setIfInBounds_toArray, List.set_cons_zero, List.set_cons_succ]
      refine wpAnyH_take (i := 13) (oi := tO13) (v := undef) rfl (by kernel_rfl) (by kernel_rfl) (by kernel_rfl) (fun _ _ _ h => h) (Or.inr ⟨by rfl, rfl⟩) hHeld ?_
      try simp only [tO13, Act.put, List.setIfInBounds_toArray, List.set_cons_zero, List.set_cons_succ]
      refine wpAnyH_take (i := 14) (oi := tO14) (v := undef) rfl (by kernel_rfl) (by kernel_rfl) (by kernel_rfl) (fun _ _ _ h => h) (Or.inr ⟨by rfl, rfl⟩) hHeld ?_
      try simp only [tO14, Act.put, List.setIfInBounds_toArray, List.set_cons_zero, List.set_cons_succ]
      refine wpAnyH_take (i := 15) (oi := tO15) (v := ?_) rfl (by kernel_rfl) (by kernel_rfl) (by kernel_rfl) (fun _ _ _ h => h) (Or.inl ⟨by rfl, ?_⟩) hHeld ?_
      rotate_left
      · intro w hSw
        clear hSw
        try dsimp only [tO15]
        go_simp
        try with_reducible rfl
      try simp only [tO15, Act.put, List.setIfInBounds_toArray, List.set_cons_zero, List.set_cons_succ]
      refine wpAnyH_take (i := 16) (oi := tO16) (v := ?_) rfl (by kernel_rfl) (by kernel_rfl) (by kernel_rfl) (fun _ _ _ h => h) (Or.inl ⟨by rfl, ?_⟩) hHeld ?_
      rotate_left
      · intro w hSw
        clear hSw
        try dsimp only [tO16]
        go_simp
        try with_reducible rfl
      try simp only [tO16, Act.put, List.setIfInBounds_toArray, List.set_cons_zero, List.set_cons_succ]
      refine wpAnyH_take (i := 17) (oi := tO17) (v := undef) rfl (by kernel_rfl) (by kernel_rfl) (by kernel_rfl) (fun _ _ _ h => h) (Or.inr ⟨by rfl, rfl⟩) hHeld ?_
      try simp only [tO17, Act.put, List.setIfInBounds_toArray, List.set_cons_zero, List.set_cons_succ]
      refine wpAnyH_take (i := 18) (oi := tO18) (v := undef) rfl (by kernel_rfl) (by kernel_rfl) (by kernel_rfl) (fun _ _ _ h => h) (Or.inr ⟨by rfl, rfl⟩) hHeld ?_
      try simp only [tO18, Act.put, List.setIfInBounds_toArray, List.set_cons_zero, List.set_cons_succ]
      refine wpAnyH_take (i := 19) (oi := tO19) (v := undef) rfl (by kernel_rfl) (by kernel_rfl) (by kernel_rfl) (fun _ _ _ h => h) (Or.inr ⟨by rfl, rfl⟩) hHeld ?_
      try simp only [tO19, Act.put, List.setIfInBounds_toArray, List.set_cons_zero, List.set_cons_succ]
      refine wpAnyH_take (i := 20) (oi := tO20) (v := undef) rfl (by kernel_rfl) (by kernel_rfl) (by kernel_rfl) (fun _ _ _ h => h) (Or.inr ⟨by rfl, rfl⟩) hHeld ?_
      try simp only [tO20, Act.put, List.setIfInBounds_toArray, List.set_cons_zero, List.set_cons_succ]
      refine wpAnyH_take (i := 21) (oi := tO21) (v := undef) rfl (by kernel_rfl) (by kernel_rfl) (by kernel_rfl) (fun _ _ _ h => h) (Or.inr ⟨by rfl, rfl⟩) hHeld ?_
      try simp only [tO21, Act.put, List.setIfInBounds_toArray, List.set_cons_zero, List.set_cons_succ]
      refine wpAnyH_take (i := 22) (oi := tO22) (v := undef) rfl (by kernel_rfl) (by kernel_rfl) (by kernel_rfl) (fun _ _ _ h => h) (Or.inr ⟨by rfl, rfl⟩) hHeld ?_
      try simp only [tO22, Act.put, List.setIfInBounds_toArray, List.set_cons_zero, List.set_cons_succ]
      refine wpAnyH_take (i := 23) (oi := tO23) (v := undef) rfl (by kernel_rfl) (by kernel_rfl) (by kernel_rfl) (fun _ _ _ h => h) (Or.inr ⟨by rfl, rfl⟩) hHeld ?_
      try simp only [tO23, Act.put, List.setIfInBounds_toArray, List.set_cons_zero, List.set_cons_succ]
      refine wpAnyH_take (i := 24) (oi := tO24) (v := undef) rfl (by kernel_rfl) (by kernel_rfl) (by kernel_rfl) (fun _ _ _ h => h) (Or.inr ⟨by rfl, rfl⟩) hHeld ?_
      try simp only [tO24, Act.put, List.setIfInBounds_toArray, List.set_cons_zero, List.set_cons_succ]
      refine wpAnyH_take (i := 25) (oi := tO25) (v := undef) rfl (by kernel_rfl) (by kernel_rfl) (by kernel_rfl) (fun _ _ _ h => h) (Or.inr ⟨by rfl, rfl⟩) hHeld ?_
      try simp only [tO25, Act.put, List.setIfInBounds_toArray, List.set_cons_zero, List.set_cons_succ]
      refine wpAnyH_take (i := 26) (oi := tO26) (v := ?_) rfl (by kernel_rfl) (by kernel_rfl) (by kernel_rfl) (fun _ _ _ h => h) (Or.inl ⟨by rfl, ?_⟩) hHeld ?_
      rotate_left
      · intro w hSw
        clear hSw
        try dsimp only [tO26]
        go_simp
        try with_reducible rfl
      try simp only [tO26, Act.put, List.setIfInBounds_toArray, List.set_cons_zero, List.set_cons_succ]
      refine wpAnyH_done (by as_aux_lemma => kernel_rfl) ?_ _
      have HB6 := Lib.hid (HH5.out.bl.trans (hHeld.mono HH5.out.bl.size))
      have HH6 := Lib.hid (HH5.out.below hHeld)
      have HX6 := Lib.hid (HX.out.below hHeld hxl)
      clear hHeld
      go_wp2_with fail
      try simp only [Exit.inBlock, Exit.then]
      refine bodyPost_ret (results_tmp4 rfl _ _ _) rfl ?_
      exact TKPost.no HR.out rfl HB6.out
  | true =>
    have HHO := Lib.hid (HHOP.out rfl)
    clear R1 HHOP
    by_cases hf2 : f = 2 ∧ n = 32
    · have h16 := H16.out rfl hf2
      obtain ⟨hf2, hn2⟩ := hf2
      have HHE : Hid (h0.extract 0 16 = hop) := by
        have h := HHO.out
        unfold hopF at h
        rwa [if_pos ⟨hf2, hn2⟩] at h
      have g1 : (f == 2) = true := by rw [beq_iff_eq]; exact hf2
      have g2 : (((n : Nat) : Int) == 32) = true := by rw [beq_iff_eq]; omega
      clear hf2 hn2 H16 HHO
      go_wp2_with fail
      rw [HHE.out]
      have hhs : hop.size ≤ 1100000 := by rw [← HHE.out, ByteArray.size_extract]; omega
      clear h16 HHE g1 g2
      cases b2 with
      | false =>
        have HR := Lib.hid (R2.out (by trivial))
        clear R2 R3 R4 R5
        refine wp_region_held_drew (S := fun w' => Below (w5.alloc (.cells #[.int .u16 afi, .int .u8 safi, .int .i64 (Z : Nat), .int .i64 (SZ : Nat)] 55)).heap.size (w5.alloc (.cells #[.int .u16 afi, .int .u8 safi, .int .i64 (Z : Nat), .int .i64 (SZ : Nat)] 55)) w') (by kernel_rfl) (below_drewN (Below.refl _ _) 1) (fun hHeld => ?_)
        refine wpAnyH_take (i := 0) (oi := tO0) (v := ?_) rfl (by kernel_rfl) (by kernel_rfl) (by kernel_rfl) (fun _ _ _ h => h) (Or.inl ⟨by rfl, ?_⟩) hHeld ?_
        rotate_left
        · intro w hSw
          clear hSw
          try dsimp only [tO0]
          go_simp
          try with_reducible rfl
        try simp only [tO0, Act.put, List.setIfInBounds_toArray, List.set_cons_zero, List.set_cons_succ]
        refine wpAnyH_take (i := 1) (oi := tO1) (v := ?_) rfl (by kernel_rfl) (by kernel_rfl) (by kernel_rfl) (fun _ _ _ h => h) (Or.inl ⟨by rfl, ?_⟩) hHeld ?_
        rotate_left
        · intro w hSw
          clear hSw
          try dsimp only [tO1]
          go_simp
          try with_reducible rfl
        try simp only [tO1, Act.put, List.setIfInBounds_toArray, List.set_cons_zero, List.set_cons_succ]
        refine wpAnyH_take (i := 2) (oi := tO2) (v := ?_) rfl (by kernel_rfl) (by kernel_rfl) (by kernel_rfl) (fun _ _ _ h => h) (Or.inl ⟨by rfl, ?_⟩) hHeld ?_
        rotate_left
        · intro w hSw
          clear hSw
          try dsimp only [tO2]
          go_simp
          try with_reducible rfl
        try simp only [tO2, Act.put, List.setIfInBounds_toArray, List.set_cons_zero, List.set_cons_succ]
        refine wpAnyH_take (i := 3) (oi := tO3) (v := ?_) rfl (by kernel_rfl) (by kernel_rfl) (by kernel_rfl) (fun _ _ _ h => h) (Or.inl ⟨by rfl, ?_⟩) hHeld ?_
        rotate_left
        · intro w hSw
          clear hSw
          try dsimp only [tO3]
          go_simp
          try with_reducible rfl
        try simp only [tO3, Act.put, List.setIfInBounds_toArray, List.set_cons_zero, List.set_cons_succ]
        refine wpAnyH_take (i := 4) (oi := tO4) (v := ?_) rfl (by kernel_rfl) (by kernel_rfl) (by kernel_rfl) (fun _ _ _ h => h) (Or.inl ⟨by rfl, ?_⟩) hHeld ?_
        rotate_left
        · intro w hSw
          clear hSw
          try dsimp only [tO4]
          go_simp
          try with_reducible rfl
        try simp only [tO4, Act.put, List.setIfInBounds_toArray, List.set_cons_zero, List.set_cons_succ]
        refine wpAnyH_take (i := 5) (oi := tO5) (v := ?_) rfl (by kernel_rfl) (by kernel_rfl) (by kernel_rfl) (fun _ _ _ h => h) (Or.inl ⟨by rfl, ?_⟩) hHeld ?_
        rotate_left
        · intro w hSw
          clear hSw
          try dsimp only [tO5]
          go_simp
          try with_reducible rfl
        try simp only [tO5, Act.put, List.setIfInBounds_toArray, List.set_cons_zero, List.set_cons_succ]
        refine wpAnyH_take (i := 6) (oi := tO6) (v := ?_) rfl (by kernel_rfl) (by kernel_rfl) (by kernel_rfl) (fun _ _ _ h => h) (Or.inl ⟨by rfl, ?_⟩) hHeld ?_
        rotate_left
        · intro w hSw
          clear hSw
          try dsimp only [tO6]
          go_simp
          try with_reducible rfl
        try simp only [tO6, Act.put, List.setIfInBounds_toArray, List.set_cons_zero, List.set_cons_succ]
        refine wpAnyH_take (i := 7) (oi := tO7) (v := undef) rfl (by kernel_rfl) (by kernel_rfl) (by kernel_rfl) (fun _ _ _ h => h) (Or.inr ⟨by rfl, rfl⟩) hHeld ?_
        try simp only [tO7, Act.put, List.setIfInBounds_toArray, List.set_cons_zero, List.set_cons_succ]
        refine wpAnyH_take (i := 8) (oi := tO8) (v := undef) rfl (by kernel_rfl) (by kernel_rfl) (by kernel_rfl) (fun _ _ _ h => h) (Or.inr ⟨by rfl, rfl⟩) hHeld ?_
        try simp only [tO8, Act.put, List.setIfInBounds_toArray, List.set_cons_zero, List.set_cons_succ]
        refine wpAnyH_take (i := 9) (oi := tO9) (v := undef) rfl (by kernel_rfl) (by kernel_rfl) (by kernel_rfl) (fun _ _ _ h => h) (Or.inr ⟨by rfl, rfl⟩) hHeld ?_
        try simp only [tO9, Act.put, List.setIfInBounds_toArray, List.set_cons_zero, List.set_cons_succ]
        refine wpAnyH_take (i := 10) (oi := tO10) (v := undef) rfl (by kernel_rfl) (by kernel_rfl) (by kernel_rfl) (fun _ _ _ h => h) (Or.inr ⟨by rfl, rfl⟩) hHeld ?_
        try simp only [tO10, Act.put, List.setIfInBounds_toArray, List.set_cons_zero, List.set_cons_succ]
        refine wpAnyH_take (i := 11) (oi := tO11) (v := undef) rfl (by kernel_rfl) (by kernel_rfl) (by kernel_rfl) (fun _ _ _ h => h) (Or.inr ⟨by rfl, rfl⟩) hHeld ?_
        try simp only [tO11, Act.put, List.setIfInBounds_toArray, List.set_cons_zero, List.set_cons_succ]
        refine wpAnyH_take (i := 12) (oi := tO12) (v := undef) rfl (by kernel_rfl) (by kernel_rfl) (by kernel_rfl) (fun _ _ _ h => h) (Or.inr ⟨by rfl, rfl⟩) hHeld ?_
        try simp only [tO12, Act.put, List.setIfInBounds_toArray, List.set_cons_zero, List.set_cons_succ]
        refine wpAnyH_take (i := 13) (oi := tO13) (v := undef) rfl (by kernel_rfl) (by kernel_rfl) (by kernel_rfl) (fun _ _ _ h => h) (Or.inr ⟨by rfl, rfl⟩) hHeld ?_
        try simp only [tO13, Act.put, List.setIfInBounds_toArray, List.set_cons_zero, List.set_cons_succ]
        refine wpAnyH_take (i := 14) (oi := tO14) (v := undef) rfl (by kernel_rfl) (by kernel_rfl) (by kernel_rfl) (fun _ _ _ h => h) (Or.inr ⟨by rfl, rfl⟩) hHeld ?_
        try simp only [tO14, Act.put, List.setIfInBounds_toArray, List.set_cons_zero, List.set_cons_succ]
        refine wpAnyH_take (i := 15) (oi := tO15) (v := ?_) rfl (by kernel_rfl) (by kernel_rfl) (by kernel_rfl) (fun _ _ _ h => h) (Or.inl ⟨by rfl, ?_⟩) hHeld ?_
        rotate_left
        · intro w hSw
          clear hSw
          try dsimp only [tO15]
          go_simp
          try with_reducible rfl
        try simp only [tO15, Act.put, List.setIfInBounds_toArray, List.set_cons_zero, List.set_cons_succ]
        refine wpAnyH_take (i := 16) (oi := tO16) (v := ?_) rfl (by kernel_rfl) (by kernel_rfl) (by kernel_rfl) (fun _ _ _ h => h) (Or.inl ⟨by rfl, ?_⟩) hHeld ?_
        rotate_left
        · intro w hSw
          clear hSw
          try dsimp only [tO16]
          go_simp
          try with_reducible rfl
        try simp only [tO16, Act.put, List.setIfInBounds_toArray, List.set_cons_zero, List.set_cons_succ]
        refine wpAnyH_take (i := 17) (oi := tO17) (v := undef) rfl (by kernel_rfl) (by kernel_rfl) (by kernel_rfl) (fun _ _ _ h => h) (Or.inr ⟨by rfl, rfl⟩) hHeld ?_
        try simp only [tO17, Act.put, List.setIfInBounds_toArray, List.set_cons_zero, List.set_cons_succ]
        refine wpAnyH_take (i := 18) (oi := tO18) (v := undef) rfl (by kernel_rfl) (by kernel_rfl) (by kernel_rfl) (fun _ _ _ h => h) (Or.inr ⟨by rfl, rfl⟩) hHeld ?_
        try simp only [tO18, Act.put, List.setIfInBounds_toArray, List.set_cons_zero, List.set_cons_succ]
        refine wpAnyH_take (i := 19) (oi := tO19) (v := undef) rfl (by kernel_rfl) (by kernel_rfl) (by kernel_rfl) (fun _ _ _ h => h) (Or.inr ⟨by rfl, rfl⟩) hHeld ?_
        try simp only [tO19, Act.put, List.setIfInBounds_toArray, List.set_cons_zero, List.set_cons_succ]
        refine wpAnyH_take (i := 20) (oi := tO20) (v := undef) rfl (by kernel_rfl) (by kernel_rfl) (by kernel_rfl) (fun _ _ _ h => h) (Or.inr ⟨by rfl, rfl⟩) hHeld ?_
        try simp only [tO20, Act.put, List.setIfInBounds_toArray, List.set_cons_zero, List.set_cons_succ]
        refine wpAnyH_take (i := 21) (oi := tO21) (v := undef) rfl (by kernel_rfl) (by kernel_rfl) (by kernel_rfl) (fun _ _ _ h => h) (Or.inr ⟨by rfl, rfl⟩) hHeld ?_
        try simp only [tO21, Act.put, List.setIfInBounds_toArray, List.set_cons_zero, List.set_cons_succ]
        refine wpAnyH_take (i := 22) (oi := tO22) (v := undef) rfl (by kernel_rfl) (by kernel_rfl) (by kernel_rfl) (fun _ _ _ h => h) (Or.inr ⟨by rfl, rfl⟩) hHeld ?_
        try simp only [tO22, Act.put, List.setIfInBounds_toArray, List.set_cons_zero, List.set_cons_succ]
        refine wpAnyH_take (i := 23) (oi := tO23) (v := undef) rfl (by kernel_rfl) (by kernel_rfl) (by kernel_rfl) (fun _ _ _ h => h) (Or.inr ⟨by rfl, rfl⟩) hHeld ?_
        try simp only [tO23, Act.put, List.setIfInBounds_toArray, List.set_cons_zero, List.set_cons_succ]
        refine wpAnyH_take (i := 24) (oi := tO24) (v := undef) rfl (by kernel_rfl) (by kernel_rfl) (by kernel_rfl) (fun _ _ _ h => h) (Or.inr ⟨by rfl, rfl⟩) hHeld ?_
        try simp only [tO24, Act.put, List.setIfInBounds_toArray, List.set_cons_zero, List.set_cons_succ]
        refine wpAnyH_take (i := 25) (oi := tO25) (v := undef) rfl (by kernel_rfl) (by kernel_rfl) (by kernel_rfl) (fun _ _ _ h => h) (Or.inr ⟨by rfl, rfl⟩) hHeld ?_
        try simp only [tO25, Act.put, List.setIfInBounds_toArray, List.set_cons_zero, List.set_cons_succ]
        refine wpAnyH_take (i := 26) (oi := tO26) (v := ?_) rfl (by kernel_rfl) (by kernel_rfl) (by kernel_rfl) (fun _ _ _ h => h) (Or.inl ⟨by rfl, ?_⟩) hHeld ?_
        rotate_left
        · intro w hSw
          clear hSw
          try dsimp only [tO26]
          go_simp
          try with_reducible rfl
        try simp only [tO26, Act.put, List.setIfInBounds_toArray, List.set_cons_zero, List.set_cons_succ]
        refine wpAnyH_done (by as_aux_lemma => kernel_rfl) ?_ _
        have HB6 := Lib.hid (HH5.out.bl.trans (hHeld.mono HH5.out.bl.size))
        have HH6 := Lib.hid (HH5.out.below hHeld)
        have HX6 := Lib.hid (HX.out.below hHeld hxl)
        clear hHeld
        go_wp2_with fail
        try simp only [Exit.inBlock, Exit.then]
        refine bodyPost_ret (results_tmp4 rfl _ _ _) rfl ?_
        exact TKPost.no HR.out rfl HB6.out
      | true =>
        clear R2
        by_cases hsz : hop.size = Z + SZ
        · have g3 : ((hop.size : Int) == (Z : Int) + (SZ : Int)) = true := by rw [beq_iff_eq]; omega
          have g3' : ((hop.size : Int) != (Z : Int) + (SZ : Int)) = false := by rw [bne, g3]; rfl
          have HSZI : Hid ((hop.size : Int) = (Z : Int) + (SZ : Int)) := by
            show _ = _
            omega
          have hzl : (Z : Int) ≤ hop.size := by omega
          have HR5 := Lib.hid (fun h => R5.out (by trivial) (by trivial) hsz h)
          have HR4 := Lib.hid (R4.out (by trivial))
          clear R3 R4 R5 hsz
          refine wp_region_held_drew (S := fun w' => Below (w5.alloc (.cells #[.int .u16 afi, .int .u8 safi, .int .i64 (Z : Nat), .int .i64 (SZ : Nat)] 55)).heap.size (w5.alloc (.cells #[.int .u16 afi, .int .u8 safi, .int .i64 (Z : Nat), .int .i64 (SZ : Nat)] 55)) w') (by kernel_rfl) (below_drewN (Below.refl _ _) 1) (fun hHeld => ?_)
          refine wpAnyH_take (i := 0) (oi := tO0) (v := ?_) rfl (by kernel_rfl) (by kernel_rfl) (by kernel_rfl) (fun _ _ _ h => h) (Or.inl ⟨by rfl, ?_⟩) hHeld ?_
          rotate_left
          · intro w hSw
            clear hSw
            try dsimp only [tO0]
            go_simp
            try with_reducible rfl
          try simp only [tO0, Act.put, List.setIfInBounds_toArray, List.set_cons_zero, List.set_cons_succ]
          refine wpAnyH_take (i := 1) (oi := tO1) (v := ?_) rfl (by kernel_rfl) (by kernel_rfl) (by kernel_rfl) (fun _ _ _ h => h) (Or.inl ⟨by rfl, ?_⟩) hHeld ?_
          rotate_left
          · intro w hSw
            clear hSw
            try dsimp only [tO1]
            go_simp
            try with_reducible rfl
          try simp only [tO1, Act.put, List.setIfInBounds_toArray, List.set_cons_zero, List.set_cons_succ]
          refine wpAnyH_take (i := 2) (oi := tO2) (v := ?_) rfl (by kernel_rfl) (by kernel_rfl) (by kernel_rfl) (fun _ _ _ h => h) (Or.inl ⟨by rfl, ?_⟩) hHeld ?_
          rotate_left
          · intro w hSw
            clear hSw
            try dsimp only [tO2]
            go_simp
            try with_reducible rfl
          try simp only [tO2, Act.put, List.setIfInBounds_toArray, List.set_cons_zero, List.set_cons_succ]
          refine wpAnyH_take (i := 3) (oi := tO3) (v := ?_) rfl (by kernel_rfl) (by kernel_rfl) (by kernel_rfl) (fun _ _ _ h => h) (Or.inl ⟨by rfl, ?_⟩) hHeld ?_
          rotate_left
          · intro w hSw
            clear hSw
            try dsimp only [tO3]
            go_simp
            try with_reducible rfl
          try simp only [tO3, Act.put, List.setIfInBounds_toArray, List.set_cons_zero, List.set_cons_succ]
          refine wpAnyH_take (i := 4) (oi := tO4) (v := ?_) rfl (by kernel_rfl) (by kernel_rfl) (by kernel_rfl) (fun _ _ _ h => h) (Or.inl ⟨by rfl, ?_⟩) hHeld ?_
          rotate_left
          · intro w hSw
            clear hSw
            try dsimp only [tO4]
            go_simp
            try with_reducible rfl
          try simp only [tO4, Act.put, List.setIfInBounds_toArray, List.set_cons_zero, List.set_cons_succ]
          refine wpAnyH_take (i := 5) (oi := tO5) (v := ?_) rfl (by kernel_rfl) (by kernel_rfl) (by kernel_rfl) (fun _ _ _ h => h) (Or.inl ⟨by rfl, ?_⟩) hHeld ?_
          rotate_left
          · intro w hSw
            clear hSw
            try dsimp only [tO5]
            go_simp
            try with_reducible rfl
          try simp only [tO5, Act.put, List.setIfInBounds_toArray, List.set_cons_zero, List.set_cons_succ]
          refine wpAnyH_take (i := 6) (oi := tO6) (v := ?_) rfl (by kernel_rfl) (by kernel_rfl) (by kernel_rfl) (fun _ _ _ h => h) (Or.inl ⟨by rfl, ?_⟩) hHeld ?_
          rotate_left
          · intro w hSw
            clear hSw
            try dsimp only [tO6]
            go_simp
            try with_reducible rfl
          try simp only [tO6, Act.put, List.setIfInBounds_toArray, List.set_cons_zero, List.set_cons_succ]
          refine wpAnyH_take (i := 7) (oi := tO7) (v := ?_) rfl (by kernel_rfl) (by kernel_rfl) (by kernel_rfl) (fun _ _ _ h => h) (Or.inl ⟨by rfl, ?_⟩) hHeld ?_
          rotate_left
          · intro w hSw
            clear hSw
            try dsimp only [tO7]
            go_simp
            try with_reducible rfl
          try simp only [tO7, Act.put, List.setIfInBounds_toArray, List.set_cons_zero, List.set_cons_succ]
          refine wpAnyH_take (i := 8) (oi := tO8) (v := ?_) rfl (by kernel_rfl) (by kernel_rfl) (by kernel_rfl) (fun _ _ _ h => h) (Or.inl ⟨by rfl, ?_⟩) hHeld ?_
          rotate_left
          · intro w hSw
            clear hSw
            try dsimp only [tO8]
            go_simp
            try with_reducible rfl
          try simp only [tO8, Act.put, List.setIfInBounds_toArray, List.set_cons_zero, List.set_cons_succ]
          refine wpAnyH_take (i := 9) (oi := tO9) (v := ?_) rfl (by kernel_rfl) (by kernel_rfl) (by kernel_rfl) (fun _ _ _ h => h) (Or.inl ⟨by rfl, ?_⟩) hHeld ?_
          rotate_left
          · intro w hSw
            clear hSw
            try dsimp only [tO9]
            go_simp
            try with_reducible rfl
          try simp only [tO9, Act.put, List.setIfInBounds_toArray, List.set_cons_zero, List.set_cons_succ]
          refine wpAnyH_take (i := 10) (oi := tO10) (v := ?_) rfl (by kernel_rfl) (by kernel_rfl) (by kernel_rfl) (fun _ _ _ h => h) (Or.inl ⟨by rfl, ?_⟩) hHeld ?_
          rotate_left
          · intro w hSw
            obtain ⟨x0, x1, x2, x3⟩ := (HX.out.below hSw hxl).c4
            clear hSw
            try dsimp only [tO10]
            go_simp
            try with_reducible rfl
          try simp only [tO10, Act.put, List.setIfInBounds_toArray, List.set_cons_zero, List.set_cons_succ]
          refine wpAnyH_take (i := 11) (oi := tO11) (v := ?_) rfl (by kernel_rfl) (by kernel_rfl) (by kernel_rfl) (fun _ _ _ h => h) (Or.inl ⟨by rfl, ?_⟩) hHeld ?_
          rotate_left
          · intro w hSw
            clear hSw
            try dsimp only [tO11]
            go_simp
            try with_reducible rfl
          try simp only [tO11, Act.put, List.setIfInBounds_toArray, List.set_cons_zero, List.set_cons_succ]
          refine wpAnyH_take (i := 12) (oi := tO12) (v := ?_) rfl (by kernel_rfl) (by kernel_rfl) (by kernel_rfl) (fun _ _ _ h => h) (Or.inl ⟨by rfl, ?_⟩) hHeld ?_
          rotate_left
          · intro w hSw
            obtain ⟨x0, x1, x2, x3⟩ := (HX.out.below hSw hxl).c4
            clear hSw
            try dsimp only [tO12]
            go_simp
            try with_reducible rfl
          try simp only [tO12, Act.put, List.setIfInBounds_toArray, List.set_cons_zero, List.set_cons_succ]
          refine wpAnyH_take (i := 13) (oi := tO13) (v := ?_) rfl (by kernel_rfl) (by kernel_rfl) (by kernel_rfl) (fun _ _ _ h => h) (Or.inl ⟨by rfl, ?_⟩) hHeld ?_
          rotate_left
          · intro w hSw
            clear hSw
            try dsimp only [tO13]
            go_simp
            try with_reducible rfl
          try simp only [tO13, Act.put, List.setIfInBounds_toArray, List.set_cons_zero, List.set_cons_succ]
          refine wpAnyH_take (i := 14) (oi := tO14) (v := .bool false) rfl (by kernel_rfl) (by kernel_rfl) (by kernel_rfl) (fun _ _ _ h => h) (Or.inl ⟨by rfl, ?_⟩) hHeld ?_
          · intro w hSw
            clear hSw
            try dsimp only [tO14]
            go_simp
            rw [IntWalk.i64_in _ (by omega)]
            exact HSZI.out
          try simp only [tO14, Act.put, List.setIfInBounds_toArray, List.set_cons_zero, List.set_cons_succ]
          refine wpAnyH_take (i := 15) (oi := tO15) (v := ?_) rfl (by kernel_rfl) (by kernel_rfl) (by kernel_rfl) (fun _ _ _ h => h) (Or.inl ⟨by rfl, ?_⟩) hHeld ?_
          rotate_left
          · intro w hSw
            clear hSw
            try dsimp only [tO15]
            go_simp
            try with_reducible rfl
          try simp only [tO15, Act.put, List.setIfInBounds_toArray, List.set_cons_zero, List.set_cons_succ]
          refine wpAnyH_take (i := 16) (oi := tO16) (v := ?_) rfl (by kernel_rfl) (by kernel_rfl) (by kernel_rfl) (fun _ _ _ h => h) (Or.inl ⟨by rfl, ?_⟩) hHeld ?_
          rotate_left
          · intro w hSw
            clear hSw
            try dsimp only [tO16]
            go_simp
            try with_reducible rfl
          try simp only [tO16, Act.put, List.setIfInBounds_toArray, List.set_cons_zero, List.set_cons_succ]
          refine wpAnyH_take (i := 17) (oi := tO17) (v := ?_) rfl (by kernel_rfl) (by kernel_rfl) (by kernel_rfl) (fun _ _ _ h => h) (Or.inl ⟨by rfl, ?_⟩) hHeld ?_
          rotate_left
          · intro w hSw
            clear hSw
            try dsimp only [tO17]
            go_simp
            try with_reducible rfl
          try simp only [tO17, Act.put, List.setIfInBounds_toArray, List.set_cons_zero, List.set_cons_succ]
          refine wpAnyH_take (i := 18) (oi := tO18) (v := ?_) rfl (by kernel_rfl) (by kernel_rfl) (by kernel_rfl) (fun _ _ _ h => h) (Or.inl ⟨by rfl, ?_⟩) hHeld ?_
          rotate_left
          · intro w hSw
            clear hSw
            try dsimp only [tO18]
            go_simp
            try with_reducible rfl
          try simp only [tO18, Act.put, List.setIfInBounds_toArray, List.set_cons_zero, List.set_cons_succ]
          refine wpAnyH_take (i := 19) (oi := tO19) (v := ?_) rfl (by kernel_rfl) (by kernel_rfl) (by kernel_rfl) (fun _ _ _ h => h) (Or.inl ⟨by rfl, ?_⟩) hHeld ?_
          rotate_left
          · intro w hSw
            obtain ⟨x0, x1, x2, x3⟩ := (HX.out.below hSw hxl).c4
            clear hSw
            try dsimp only [tO19]
            go_simp
            try with_reducible rfl
          try simp only [tO19, Act.put, List.setIfInBounds_toArray, List.set_cons_zero, List.set_cons_succ]
          refine wpAnyH_take (i := 20) (oi := tO20) (v := ?_) rfl (by kernel_rfl) (by kernel_rfl) (by kernel_rfl) (fun _ _ _ h => h) (Or.inl ⟨by rfl, ?_⟩) hHeld ?_
          rotate_left
          · intro w hSw
            clear hSw
            try dsimp only [tO20]
            go_simp
            try with_reducible rfl
          try simp only [tO20, Act.put, List.setIfInBounds_toArray, List.set_cons_zero, List.set_cons_succ]
          refine wpAnyH_take (i := 21) (oi := tO21) (v := ?_) rfl (by kernel_rfl) (by kernel_rfl) (by kernel_rfl) (fun _ _ _ h => h) (Or.inl ⟨by rfl, ?_⟩) hHeld ?_
          rotate_left
          · intro w hSw
            clear hSw
            try dsimp only [tO21]
            go_simp
            try with_reducible rfl
          try simp only [tO21, Act.put, List.setIfInBounds_toArray, List.set_cons_zero, List.set_cons_succ]
          refine wpAnyH_take (i := 22) (oi := tO22) (v := ?_) rfl (by kernel_rfl) (by kernel_rfl) (by kernel_rfl) (fun _ _ _ h => h) (Or.inl ⟨by rfl, ?_⟩) hHeld ?_
          rotate_left
          · intro w hSw
            obtain ⟨x0, x1, x2, x3⟩ := (HX.out.below hSw hxl).c4
            clear hSw
            try dsimp only [tO22]
            go_simp
            try with_reducible rfl
          try simp only [tO22, Act.put, List.setIfInBounds_toArray, List.set_cons_zero, List.set_cons_succ]
          refine wpAnyH_ready (rs := [23]) (by as_aux_lemma => kernel_rfl) (by simp) ?_
          refine AllReadyH.cons (o := tO23) rfl (fun K hK => ?_) AllReadyH.nil
          refine wp_make0 (by rfl) _ _ rfl Z (by rfl) (by rfl) (by omega) ?_
          intro u1 HC hb
          refine hK.out _ _ (hHeld.trans (hb.mono hHeld.size)) (fun hHeld => ?_)
          clear hK K hb
          try simp only [Act.put, List.setIfInBounds_toArray, List.set_cons_zero, List.set_cons_succ]
          refine wpAnyH_ready (rs := [24]) (by as_aux_lemma => kernel_rfl) (by simp) ?_
          refine AllReadyH.cons (o := tO24) rfl (fun K hK => ?_) AllReadyH.nil
          refine wp_convb (by rfl) _ rfl _ Z (List.replicate Z 0) (by rfl) List.length_replicate.symm HC ?_
          refine hK.out _ _ hHeld (fun hHeld => ?_)
          clear hK K HC
          try simp only [Act.put, List.setIfInBounds_toArray, List.set_cons_zero, List.set_cons_succ]
          refine wpAnyH_take (i := 25) (oi := tO25) (v := ?_) rfl (by kernel_rfl) (by kernel_rfl) (by kernel_rfl) (fun _ _ _ h => h) (Or.inl ⟨by rfl, ?_⟩) hHeld ?_
          rotate_left
          · intro w hSw
            clear hSw
            try dsimp only [tO25]
            go_simp
            try with_reducible rfl
          try simp only [tO25, Act.put, List.setIfInBounds_toArray, List.set_cons_zero, List.set_cons_succ]
          refine wpAnyH_take (i := 26) (oi := tO26) (v := ?_) rfl (by kernel_rfl) (by kernel_rfl) (by kernel_rfl) (fun _ _ _ h => h) (Or.inl ⟨by rfl, ?_⟩) hHeld ?_
          rotate_left
          · intro w hSw
            clear hSw
            try dsimp only [tO26]
            go_simp
            try with_reducible rfl
          try simp only [tO26, Act.put, List.setIfInBounds_toArray, List.set_cons_zero, List.set_cons_succ]
          refine wpAnyH_done (by as_aux_lemma => kernel_rfl) ?_ _
          have HB6 := Lib.hid (HH5.out.bl.trans (hHeld.mono HH5.out.bl.size))
          have HH6 := Lib.hid (HH5.out.below hHeld)
          have HX6 := Lib.hid (HX.out.below hHeld hxl)
          clear hHeld
          by_cases hz : hop.extract 0 Z = noughts Z
          · have g4 : ((hop.extract 0 Z).toList == (⟨Array.replicate Z 0⟩ : ByteArray).toList) = true := toList_eq hz
            have g4' : (!((hop.extract 0 Z).toList == (⟨Array.replicate Z 0⟩ : ByteArray).toList)) = false := by rw [g4]; rfl
            have HG := Lib.hid (HR5.out hz)
            clear HR4 HR5 hz
            obtain ⟨x0, x1, x2, x3⟩ := HX6.out.c4
            rw [g4]
            go_wp2_with fail
            refine (rest_any _ t3 _ HH6.out.rd (by omega)).mono ?_
            rintro e w7 ⟨rfl, hw⟩
            have HH7 := Lib.hid (HH6.out.set ByteArray.empty)
            have HX7 := Lib.hid (HX6.out.setOther (p := ⟨w.heap.size, 1, none⟩) (by have := HH4L.out; show w5.heap.size ≠ w.heap.size; omega) (.string ByteArray.empty))
            rw [← hw] at HH7 HX7
            clear hw HH6 HX6 x0 x1 x2 x3
            go_wp2_with fail
            refine (contains_int A cap adds f _ (HI.out.below HH7.out.bl (Nat.le_refl _))).mono ?_
            rintro e w8 ⟨rfl, hw⟩
            rw [hw]
            clear hw
            go_wp2_with fail
            obtain ⟨b, hbe⟩ : ∃ b, b = hasI adds f := ⟨_, rfl⟩
            rw [← hbe] at HG ⊢
            clear hbe
            refine (decode_any t3 f b _ f1 f2 ht3).mono ?_
            rintro e w9 ⟨hb, hm⟩
            have HB9 := Lib.hid (HH7.out.bl.trans (hb.mono HH7.out.bl.size))
            have HX9 := Lib.hid (HX7.out.below hb HX7.out.lt)
            cases hd : decAll f b t3 with
            | none =>
              rw [hd] at hm HG
              obtain rfl : e = _ := hm
              clear hb hd
              go_wp2_with fail
              try simp only [Exit.inBlock, Exit.then]
              refine bodyPost_ret (results_tmp4 rfl _ _ _) rfl ?_
              exact TKPost.no HG.out rfl HB9.out
            | some L =>
              rw [hd] at hm HG
              obtain ⟨v, rfl, ho⟩ := hm
              obtain ⟨A2, c2, rfl⟩ := OwnM.form ho
              have HO := Lib.hid (ho.low HH7.out.bl.size)
              obtain ⟨x0, x1, x2, x3⟩ := HX9.out.c4
              clear hb hd ho
              go_wp2_with fail
              go_quiet (fail)
              go_wp2_with fail
              try simp only [Exit.inBlock, Exit.then]
              refine bodyPost_ret (results_tmp4 rfl _ _ _) rfl ?_
              exact TKPost.yes HG.out rfl HO.out (below_drewN HB9.out nq)
          · have g4 : ((hop.extract 0 Z).toList == (⟨Array.replicate Z 0⟩ : ByteArray).toList) = false := toList_ne hz
            have g4' : (!((hop.extract 0 Z).toList == (⟨Array.replicate Z 0⟩ : ByteArray).toList)) = true := by rw [g4]; rfl
            have HR := Lib.hid (HR4.out hz)
            clear HR4 HR5 hz
            rw [g4]
            go_wp2_with fail
            try simp only [Exit.inBlock, Exit.then]
            refine bodyPost_ret (results_tmp4 rfl _ _ _) rfl ?_
            exact TKPost.no HR.out rfl HB6.out
        · have g3 : ((hop.size : Int) == (Z : Int) + (SZ : Int)) = false := by rw [beq_eq_false_iff_ne]; omega
          have g3' : ((hop.size : Int) != (Z : Int) + (SZ : Int)) = true := by rw [bne, g3]; rfl
          have HSZI : Hid (¬ (hop.size : Int) = (Z : Int) + (SZ : Int)) := by
            show ¬ _
            omega
          have HR := Lib.hid (R3.out (by trivial) hsz)
          clear R3 R4 R5 hsz
          refine wp_region_held_drew (S := fun w' => Below (w5.alloc (.cells #[.int .u16 afi, .int .u8 safi, .int .i64 (Z : Nat), .int .i64 (SZ : Nat)] 55)).heap.size (w5.alloc (.cells #[.int .u16 afi, .int .u8 safi, .int .i64 (Z : Nat), .int .i64 (SZ : Nat)] 55)) w') (by kernel_rfl) (below_drewN (Below.refl _ _) 1) (fun hHeld => ?_)
          refine wpAnyH_take (i := 0) (oi := tO0) (v := ?_) rfl (by kernel_rfl) (by kernel_rfl) (by kernel_rfl) (fun _ _ _ h => h) (Or.inl ⟨by rfl, ?_⟩) hHeld ?_
          rotate_left
          · intro w hSw
            clear hSw
            try dsimp only [tO0]
            go_simp
            try with_reducible rfl
          try simp only [tO0, Act.put, List.setIfInBounds_toArray, List.set_cons_zero, List.set_cons_succ]
          refine wpAnyH_take (i := 1) (oi := tO1) (v := ?_) rfl (by kernel_rfl) (by kernel_rfl) (by kernel_rfl) (fun _ _ _ h => h) (Or.inl ⟨by rfl, ?_⟩) hHeld ?_
          rotate_left
          · intro w hSw
            clear hSw
            try dsimp only [tO1]
            go_simp
            try with_reducible rfl
          try simp only [tO1, Act.put, List.setIfInBounds_toArray, List.set_cons_zero, List.set_cons_succ]
          refine wpAnyH_take (i := 2) (oi := tO2) (v := ?_) rfl (by kernel_rfl) (by kernel_rfl) (by kernel_rfl) (fun _ _ _ h => h) (Or.inl ⟨by rfl, ?_⟩) hHeld ?_
          rotate_left
          · intro w hSw
            clear hSw
            try dsimp only [tO2]
            go_simp
            try with_reducible rfl
          try simp only [tO2, Act.put, List.setIfInBounds_toArray, List.set_cons_zero, List.set_cons_succ]
          refine wpAnyH_take (i := 3) (oi := tO3) (v := ?_) rfl (by kernel_rfl) (by kernel_rfl) (by kernel_rfl) (fun _ _ _ h => h) (Or.inl ⟨by rfl, ?_⟩) hHeld ?_
          rotate_left
          · intro w hSw
            clear hSw
            try dsimp only [tO3]
            go_simp
            try with_reducible rfl
          try simp only [tO3, Act.put, List.setIfInBounds_toArray, List.set_cons_zero, List.set_cons_succ]
          refine wpAnyH_take (i := 4) (oi := tO4) (v := ?_) rfl (by kernel_rfl) (by kernel_rfl) (by kernel_rfl) (fun _ _ _ h => h) (Or.inl ⟨by rfl, ?_⟩) hHeld ?_
          rotate_left
          · intro w hSw
            clear hSw
            try dsimp only [tO4]
            go_simp
            try with_reducible rfl
          try simp only [tO4, Act.put, List.setIfInBounds_toArray, List.set_cons_zero, List.set_cons_succ]
          refine wpAnyH_take (i := 5) (oi := tO5) (v := ?_) rfl (by kernel_rfl) (by kernel_rfl) (by kernel_rfl) (fun _ _ _ h => h) (Or.inl ⟨by rfl, ?_⟩) hHeld ?_
          rotate_left
          · intro w hSw
            clear hSw
            try dsimp only [tO5]
            go_simp
            try with_reducible rfl
          try simp only [tO5, Act.put, List.setIfInBounds_toArray, List.set_cons_zero, List.set_cons_succ]
          refine wpAnyH_take (i := 6) (oi := tO6) (v := ?_) rfl (by kernel_rfl) (by kernel_rfl) (by kernel_rfl) (fun _ _ _ h => h) (Or.inl ⟨by rfl, ?_⟩) hHeld ?_
          rotate_left
          · intro w hSw
            clear hSw
            try dsimp only [tO6]
            go_simp
            try with_reducible rfl
          try simp only [tO6, Act.put, List.setIfInBounds_toArray, List.set_cons_zero, List.set_cons_succ]
          refine wpAnyH_take (i := 7) (oi := tO7) (v := ?_) rfl (by kernel_rfl) (by kernel_rfl) (by kernel_rfl) (fun _ _ _ h => h) (Or.inl ⟨by rfl, ?_⟩) hHeld ?_
          rotate_left
          · intro w hSw
            clear hSw
            try dsimp only [tO7]
            go_simp
            try with_reducible rfl
          try simp only [tO7, Act.put, List.setIfInBounds_toArray, List.set_cons_zero, List.set_cons_succ]
          refine wpAnyH_take (i := 8) (oi := tO8) (v := ?_) rfl (by kernel_rfl) (by kernel_rfl) (by kernel_rfl) (fun _ _ _ h => h) (Or.inl ⟨by rfl, ?_⟩) hHeld ?_
          rotate_left
          · intro w hSw
            clear hSw
            try dsimp only [tO8]
            go_simp
            try with_reducible rfl
          try simp only [tO8, Act.put, List.setIfInBounds_toArray, List.set_cons_zero, List.set_cons_succ]
          refine wpAnyH_take (i := 9) (oi := tO9) (v := ?_) rfl (by kernel_rfl) (by kernel_rfl) (by kernel_rfl) (fun _ _ _ h => h) (Or.inl ⟨by rfl, ?_⟩) hHeld ?_
          rotate_left
          · intro w hSw
            clear hSw
            try dsimp only [tO9]
            go_simp
            try with_reducible rfl
          try simp only [tO9, Act.put, List.setIfInBounds_toArray, List.set_cons_zero, List.set_cons_succ]
          refine wpAnyH_take (i := 10) (oi := tO10) (v := ?_) rfl (by kernel_rfl) (by kernel_rfl) (by kernel_rfl) (fun _ _ _ h => h) (Or.inl ⟨by rfl, ?_⟩) hHeld ?_
          rotate_left
          · intro w hSw
            obtain ⟨x0, x1, x2, x3⟩ := (HX.out.below hSw hxl).c4
            clear hSw
            try dsimp only [tO10]
            go_simp
            try with_reducible rfl
          try simp only [tO10, Act.put, List.setIfInBounds_toArray, List.set_cons_zero, List.set_cons_succ]
          refine wpAnyH_take (i := 11) (oi := tO11) (v := ?_) rfl (by kernel_rfl) (by kernel_rfl) (by kernel_rfl) (fun _ _ _ h => h) (Or.inl ⟨by rfl, ?_⟩) hHeld ?_
          rotate_left
          · intro w hSw
            clear hSw
            try dsimp only [tO11]
            go_simp
            try with_reducible rfl
          try simp only [tO11, Act.put, List.setIfInBounds_toArray, List.set_cons_zero, List.set_cons_succ]
          refine wpAnyH_take (i := 12) (oi := tO12) (v := ?_) rfl (by kernel_rfl) (by kernel_rfl) (by kernel_rfl) (fun _ _ _ h => h) (Or.inl ⟨by rfl, ?_⟩) hHeld ?_
          rotate_left
          · intro w hSw
            obtain ⟨x0, x1, x2, x3⟩ := (HX.out.below hSw hxl).c4
            clear hSw
            try dsimp only [tO12]
            go_simp
            try with_reducible rfl
          try simp only [tO12, Act.put, List.setIfInBounds_toArray, List.set_cons_zero, List.set_cons_succ]
          refine wpAnyH_take (i := 13) (oi := tO13) (v := ?_) rfl (by kernel_rfl) (by kernel_rfl) (by kernel_rfl) (fun _ _ _ h => h) (Or.inl ⟨by rfl, ?_⟩) hHeld ?_
          rotate_left
          · intro w hSw
            clear hSw
            try dsimp only [tO13]
            go_simp
            try with_reducible rfl
          try simp only [tO13, Act.put, List.setIfInBounds_toArray, List.set_cons_zero, List.set_cons_succ]
          refine wpAnyH_take (i := 14) (oi := tO14) (v := .bool true) rfl (by kernel_rfl) (by kernel_rfl) (by kernel_rfl) (fun _ _ _ h => h) (Or.inl ⟨by rfl, ?_⟩) hHeld ?_
          · intro w hSw
            clear hSw
            try dsimp only [tO14]
            go_simp
            rw [IntWalk.i64_in _ (by omega)]
            exact HSZI.out
          try simp only [tO14, Act.put, List.setIfInBounds_toArray, List.set_cons_zero, List.set_cons_succ]
          refine wpAnyH_take (i := 15) (oi := tO15) (v := ?_) rfl (by kernel_rfl) (by kernel_rfl) (by kernel_rfl) (fun _ _ _ h => h) (Or.inl ⟨by rfl, ?_⟩) hHeld ?_
          rotate_left
          · intro w hSw
            clear hSw
            try dsimp only [tO15]
            go_simp
            try with_reducible rfl
          try simp only [tO15, Act.put, List.setIfInBounds_toArray, List.set_cons_zero, List.set_cons_succ]
          refine wpAnyH_take (i := 16) (oi := tO16) (v := ?_) rfl (by kernel_rfl) (by kernel_rfl) (by kernel_rfl) (fun _ _ _ h => h) (Or.inl ⟨by rfl, ?_⟩) hHeld ?_
          rotate_left
          · intro w hSw
            clear hSw
            try dsimp only [tO16]
            go_simp
            try with_reducible rfl
          try simp only [tO16, Act.put, List.setIfInBounds_toArray, List.set_cons_zero, List.set_cons_succ]
          refine wpAnyH_take (i := 17) (oi := tO17) (v := undef) rfl (by kernel_rfl) (by kernel_rfl) (by kernel_rfl) (fun _ _ _ h => h) (Or.inr ⟨by rfl, rfl⟩) hHeld ?_
          try simp only [tO17, Act.put, List.setIfInBounds_toArray, List.set_cons_zero, List.set_cons_succ]
          refine wpAnyH_take (i := 18) (oi := tO18) (v := undef) rfl (by kernel_rfl) (by kernel_rfl) (by kernel_rfl) (fun _ _ _ h => h) (Or.inr ⟨by rfl, rfl⟩) hHeld ?_
          try simp only [tO18, Act.put, List.setIfInBounds_toArray, List.set_cons_zero, List.set_cons_succ]
          refine wpAnyH_take (i := 19) (oi := tO19) (v := undef) rfl (by kernel_rfl) (by kernel_rfl) (by kernel_rfl) (fun _ _ _ h => h) (Or.inr ⟨by rfl, rfl⟩) hHeld ?_
          try simp only [tO19, Act.put, List.setIfInBounds_toArray, List.set_cons_zero, List.set_cons_succ]
          refine wpAnyH_take (i := 20) (oi := tO20) (v := undef) rfl (by kernel_rfl) (by kernel_rfl) (by kernel_rfl) (fun _ _ _ h => h) (Or.inr ⟨by rfl, rfl⟩) hHeld ?_
          try simp only [tO20, Act.put, List.setIfInBounds_toArray, List.set_cons_zero, List.set_cons_succ]
          refine wpAnyH_take (i := 21) (oi := tO21) (v := undef) rfl (by kernel_rfl) (by kernel_rfl) (by kernel_rfl) (fun _ _ _ h => h) (Or.inr ⟨by rfl, rfl⟩) hHeld ?_
          try simp only [tO21, Act.put, List.setIfInBounds_toArray, List.set_cons_zero, List.set_cons_succ]
          refine wpAnyH_take (i := 22) (oi := tO22) (v := undef) rfl (by kernel_rfl) (by kernel_rfl) (by kernel_rfl) (fun _ _ _ h => h) (Or.inr ⟨by rfl, rfl⟩) hHeld ?_
          try simp only [tO22, Act.put, List.setIfInBounds_toArray, List.set_cons_zero, List.set_cons_succ]
          refine wpAnyH_take (i := 23) (oi := tO23) (v := undef) rfl (by kernel_rfl) (by kernel_rfl) (by kernel_rfl) (fun _ _ _ h => h) (Or.inr ⟨by rfl, rfl⟩) hHeld ?_
          try simp only [tO23, Act.put, List.setIfInBounds_toArray, List.set_cons_zero, List.set_cons_succ]
          refine wpAnyH_take (i := 24) (oi := tO24) (v := undef) rfl (by kernel_rfl) (by kernel_rfl) (by kernel_rfl) (fun _ _ _ h => h) (Or.inr ⟨by rfl, rfl⟩) hHeld ?_
          try simp only [tO24, Act.put, List.setIfInBounds_toArray, List.set_cons_zero, List.set_cons_succ]
          refine wpAnyH_take (i := 25) (oi := tO25) (v := undef) rfl (by kernel_rfl) (by kernel_rfl) (by kernel_rfl) (fun _ _ _ h => h) (Or.inr ⟨by rfl, rfl⟩) hHeld ?_
          try simp only [tO25, Act.put, List.setIfInBounds_toArray, List.set_cons_zero, List.set_cons_succ]
          refine wpAnyH_take (i := 26) (oi := tO26) (v := ?_) rfl (by kernel_rfl) (by kernel_rfl) (by kernel_rfl) (fun _ _ _ h => h) (Or.inl ⟨by rfl, ?_⟩) hHeld ?_
          rotate_left
          · intro w hSw
            clear hSw
            try dsimp only [tO26]
            go_simp
            try with_reducible rfl
          try simp only [tO26, Act.put, List.setIfInBounds_toArray, List.set_cons_zero, List.set_cons_succ]
          refine wpAnyH_done (by as_aux_lemma => kernel_rfl) ?_ _
          have HB6 := Lib.hid (HH5.out.bl.trans (hHeld.mono HH5.out.bl.size))
          have HH6 := Lib.hid (HH5.out.below hHeld)
          have HX6 := Lib.hid (HX.out.below hHeld hxl)
          clear hHeld
          go_wp2_with fail
          try simp only [Exit.inBlock, Exit.then]
          refine bodyPost_ret (results_tmp4 rfl _ _ _) rfl ?_
          exact TKPost.no HR.out rfl HB6.out
    · have HHE : Hid (h0 = hop) := by
        have h := HHO.out
        unfold hopF at h
        rwa [if_neg hf2] at h
      have hhs : hop.size ≤ 1100000 := by rw [← HHE.out]; exact hh0
      by_cases hq2 : f = 2
      · have g1 : (f == 2) = true := by rw [beq_iff_eq]; exact hq2
        have g2 : (((n : Nat) : Int) == 32) = false := by rw [beq_eq_false_iff_ne]; omega
        clear hf2 hq2 H16 HHO
        go_wp2_with fail
        rw [HHE.out]
        clear HHE g1 g2
        cases b2 with
        | false =>
          have HR := Lib.hid (R2.out (by trivial))
          clear R2 R3 R4 R5
          refine wp_region_held_drew (S := fun w' => Below (w5.alloc (.cells #[.int .u16 afi, .int .u8 safi, .int .i64 (Z : Nat), .int .i64 (SZ : Nat)] 55)).heap.size (w5.alloc (.cells #[.int .u16 afi, .int .u8 safi, .int .i64 (Z : Nat), .int .i64 (SZ : Nat)] 55)) w') (by kernel_rfl) (below_drewN (Below.refl _ _) 1) (fun hHeld => ?_)
          refine wpAnyH_take (i := 0) (oi := tO0) (v := ?_) rfl (by kernel_rfl) (by kernel_rfl) (by kernel_rfl) (fun _ _ _ h => h) (Or.inl ⟨by rfl, ?_⟩) hHeld ?_
          rotate_left
          · intro w hSw
            clear hSw
            try dsimp only [tO0]
            go_simp
            try with_reducible rfl
          try simp only [tO0, Act.put, List.setIfInBounds_toArray, List.set_cons_zero, List.set_cons_succ]
          refine wpAnyH_take (i := 1) (oi := tO1) (v := ?_) rfl (by kernel_rfl) (by kernel_rfl) (by kernel_rfl) (fun _ _ _ h => h) (Or.inl ⟨by rfl, ?_⟩) hHeld ?_
          rotate_left
          · intro w hSw
            clear hSw
            try dsimp only [tO1]
            go_simp
            try with_reducible rfl
          try simp only [tO1, Act.put, List.setIfInBounds_toArray, List.set_cons_zero, List.set_cons_succ]
          refine wpAnyH_take (i := 2) (oi := tO2) (v := ?_) rfl (by kernel_rfl) (by kernel_rfl) (by kernel_rfl) (fun _ _ _ h => h) (Or.inl ⟨by rfl, ?_⟩) hHeld ?_
          rotate_left
          · intro w hSw
            clear hSw
            try dsimp only [tO2]
            go_simp
            try with_reducible rfl
          try simp only [tO2, Act.put, List.setIfInBounds_toArray, List.set_cons_zero, List.set_cons_succ]
          refine wpAnyH_take (i := 3) (oi := tO3) (v := ?_) rfl (by kernel_rfl) (by kernel_rfl) (by kernel_rfl) (fun _ _ _ h => h) (Or.inl ⟨by rfl, ?_⟩) hHeld ?_
          rotate_left
          · intro w hSw
            clear hSw
            try dsimp only [tO3]
            go_simp
            try with_reducible rfl
          try simp only [tO3, Act.put, List.setIfInBounds_toArray, List.set_cons_zero, List.set_cons_succ]
          refine wpAnyH_take (i := 4) (oi := tO4) (v := ?_) rfl (by kernel_rfl) (by kernel_rfl) (by kernel_rfl) (fun _ _ _ h => h) (Or.inl ⟨by rfl, ?_⟩) hHeld ?_
          rotate_left
          · intro w hSw
            clear hSw
            try dsimp only [tO4]
            go_simp
            try with_reducible rfl
          try simp only [tO4, Act.put, List.setIfInBounds_toArray, List.set_cons_zero, List.set_cons_succ]
          refine wpAnyH_take (i := 5) (oi := tO5) (v := ?_) rfl (by kernel_rfl) (by kernel_rfl) (by kernel_rfl) (fun _ _ _ h => h) (Or.inl ⟨by rfl, ?_⟩) hHeld ?_
          rotate_left
          · intro w hSw
            clear hSw
            try dsimp only [tO5]
            go_simp
            try with_reducible rfl
          try simp only [tO5, Act.put, List.setIfInBounds_toArray, List.set_cons_zero, List.set_cons_succ]
          refine wpAnyH_take (i := 6) (oi := tO6) (v := ?_) rfl (by kernel_rfl) (by kernel_rfl) (by kernel_rfl) (fun _ _ _ h => h) (Or.inl ⟨by rfl, ?_⟩) hHeld ?_
          rotate_left
          · intro w hSw
            clear hSw
            try dsimp only [tO6]
            go_simp
            try with_reducible rfl
          try simp only [tO6, Act.put, List.setIfInBounds_toArray, List.set_cons_zero, List.set_cons_succ]
          refine wpAnyH_take (i := 7) (oi := tO7) (v := undef) rfl (by kernel_rfl) (by kernel_rfl) (by kernel_rfl) (fun _ _ _ h => h) (Or.inr ⟨by rfl, rfl⟩) hHeld ?_
          try simp only [tO7, Act.put, List.setIfInBounds_toArray, List.set_cons_zero, List.set_cons_succ]
          refine wpAnyH_take (i := 8) (oi := tO8) (v := undef) rfl (by kernel_rfl) (by kernel_rfl) (by kernel_rfl) (fun _ _ _ h => h) (Or.inr ⟨by rfl, rfl⟩) hHeld ?_
          try simp only [tO8, Act.put, List.setIfInBounds_toArray, List.set_cons_zero, List.set_cons_succ]
          refine wpAnyH_take (i := 9) (oi := tO9) (v := undef) rfl (by kernel_rfl) (by kernel_rfl) (by kernel_rfl) (fun _ _ _ h => h) (Or.inr ⟨by rfl, rfl⟩) hHeld ?_
          try simp only [tO9, Act.put, List.setIfInBounds_toArray, List.set_cons_zero, List.set_cons_succ]
          refine wpAnyH_take (i := 10) (oi := tO10) (v := undef) rfl (by kernel_rfl) (by kernel_rfl) (by kernel_rfl) (fun _ _ _ h => h) (Or.inr ⟨by rfl, rfl⟩) hHeld ?_
          try simp only [tO10, Act.put, List.setIfInBounds_toArray, List.set_cons_zero, List.set_cons_succ]
          refine wpAnyH_take (i := 11) (oi := tO11) (v := undef) rfl (by kernel_rfl) (by kernel_rfl) (by kernel_rfl) (fun _ _ _ h => h) (Or.inr ⟨by rfl, rfl⟩) hHeld ?_
          try simp only [tO11, Act.put, List.setIfInBounds_toArray, List.set_cons_zero, List.set_cons_succ]
          refine wpAnyH_take (i := 12) (oi := tO12) (v := undef) rfl (by kernel_rfl) (by kernel_rfl) (by kernel_rfl) (fun _ _ _ h => h) (Or.inr ⟨by rfl, rfl⟩) hHeld ?_
          try simp only [tO12, Act.put, List.setIfInBounds_toArray, List.set_cons_zero, List.set_cons_succ]
          refine wpAnyH_take (i := 13) (oi := tO13) (v := undef) rfl (by kernel_rfl) (by kernel_rfl) (by kernel_rfl) (fun _ _ _ h => h) (Or.inr ⟨by rfl, rfl⟩) hHeld ?_
          try simp only [tO13, Act.put, List.setIfInBounds_toArray, List.set_cons_zero, List.set_cons_succ]
          refine wpAnyH_take (i := 14) (oi := tO14) (v := undef) rfl (by kernel_rfl) (by kernel_rfl) (by kernel_rfl) (fun _ _ _ h => h) (Or.inr ⟨by rfl, rfl⟩) hHeld ?_
          try simp only [tO14, Act.put, List.setIfInBounds_toArray, List.set_cons_zero, List.set_cons_succ]
          refine wpAnyH_take (i := 15) (oi := tO15) (v := ?_) rfl (by kernel_rfl) (by kernel_rfl) (by kernel_rfl) (fun _ _ _ h => h) (Or.inl ⟨by rfl, ?_⟩) hHeld ?_
          rotate_left
          · intro w hSw
            clear hSw
            try dsimp only [tO15]
            go_simp
            try with_reducible rfl
          try simp only [tO15, Act.put, List.setIfInBounds_toArray, List.set_cons_zero, List.set_cons_succ]
          refine wpAnyH_take (i := 16) (oi := tO16) (v := ?_) rfl (by kernel_rfl) (by kernel_rfl) (by kernel_rfl) (fun _ _ _ h => h) (Or.inl ⟨by rfl, ?_⟩) hHeld ?_
          rotate_left
          · intro w hSw
            clear hSw
            try dsimp only [tO16]
            go_simp
            try with_reducible rfl
          try simp only [tO16, Act.put, List.setIfInBounds_toArray, List.set_cons_zero, List.set_cons_succ]
          refine wpAnyH_take (i := 17) (oi := tO17) (v := undef) rfl (by kernel_rfl) (by kernel_rfl) (by kernel_rfl) (fun _ _ _ h => h) (Or.inr ⟨by rfl, rfl⟩) hHeld ?_
          try simp only [tO17, Act.put, List.setIfInBounds_toArray, List.set_cons_zero, List.set_cons_succ]
          refine wpAnyH_take (i := 18) (oi := tO18) (v := undef) rfl (by kernel_rfl) (by kernel_rfl) (by kernel_rfl) (fun _ _ _ h => h) (Or.inr ⟨by rfl, rfl⟩) hHeld ?_
          try simp only [tO18, Act.put, List.setIfInBounds_toArray, List.set_cons_zero, List.set_cons_succ]
          refine wpAnyH_take (i := 19) (oi := tO19) (v := undef) rfl (by kernel_rfl) (by kernel_rfl) (by kernel_rfl) (fun _ _ _ h => h) (Or.inr ⟨by rfl, rfl⟩) hHeld ?_
          try simp only [tO19, Act.put, List.setIfInBounds_toArray, List.set_cons_zero, List.set_cons_succ]
          refine wpAnyH_take (i := 20) (oi := tO20) (v := undef) rfl (by kernel_rfl) (by kernel_rfl) (by kernel_rfl) (fun _ _ _ h => h) (Or.inr ⟨by rfl, rfl⟩) hHeld ?_
          try simp only [tO20, Act.put, List.setIfInBounds_toArray, List.set_cons_zero, List.set_cons_succ]
          refine wpAnyH_take (i := 21) (oi := tO21) (v := undef) rfl (by kernel_rfl) (by kernel_rfl) (by kernel_rfl) (fun _ _ _ h => h) (Or.inr ⟨by rfl, rfl⟩) hHeld ?_
          try simp only [tO21, Act.put, List.setIfInBounds_toArray, List.set_cons_zero, List.set_cons_succ]
          refine wpAnyH_take (i := 22) (oi := tO22) (v := undef) rfl (by kernel_rfl) (by kernel_rfl) (by kernel_rfl) (fun _ _ _ h => h) (Or.inr ⟨by rfl, rfl⟩) hHeld ?_
          try simp only [tO22, Act.put, List.setIfInBounds_toArray, List.set_cons_zero, List.set_cons_succ]
          refine wpAnyH_take (i := 23) (oi := tO23) (v := undef) rfl (by kernel_rfl) (by kernel_rfl) (by kernel_rfl) (fun _ _ _ h => h) (Or.inr ⟨by rfl, rfl⟩) hHeld ?_
          try simp only [tO23, Act.put, List.setIfInBounds_toArray, List.set_cons_zero, List.set_cons_succ]
          refine wpAnyH_take (i := 24) (oi := tO24) (v := undef) rfl (by kernel_rfl) (by kernel_rfl) (by kernel_rfl) (fun _ _ _ h => h) (Or.inr ⟨by rfl, rfl⟩) hHeld ?_
          try simp only [tO24, Act.put, List.setIfInBounds_toArray, List.set_cons_zero, List.set_cons_succ]
          refine wpAnyH_take (i := 25) (oi := tO25) (v := undef) rfl (by kernel_rfl) (by kernel_rfl) (by kernel_rfl) (fun _ _ _ h => h) (Or.inr ⟨by rfl, rfl⟩) hHeld ?_
          try simp only [tO25, Act.put, List.setIfInBounds_toArray, List.set_cons_zero, List.set_cons_succ]
          refine wpAnyH_take (i := 26) (oi := tO26) (v := ?_) rfl (by kernel_rfl) (by kernel_rfl) (by kernel_rfl) (fun _ _ _ h => h) (Or.inl ⟨by rfl, ?_⟩) hHeld ?_
          rotate_left
          · intro w hSw
            clear hSw
            try dsimp only [tO26]
            go_simp
            try with_reducible rfl
          try simp only [tO26, Act.put, List.setIfInBounds_toArray, List.set_cons_zero, List.set_cons_succ]
          refine wpAnyH_done (by as_aux_lemma => kernel_rfl) ?_ _
          have HB6 := Lib.hid (HH5.out.bl.trans (hHeld.mono HH5.out.bl.size))
          have HH6 := Lib.hid (HH5.out.below hHeld)
          have HX6 := Lib.hid (HX.out.below hHeld hxl)
          clear hHeld
          go_wp2_with fail
          try simp only [Exit.inBlock, Exit.then]
          refine bodyPost_ret (results_tmp4 rfl _ _ _) rfl ?_
          exact TKPost.no HR.out rfl HB6.out
        | true =>
          clear R2
          by_cases hsz : hop.size = Z + SZ
          · have g3 : ((hop.size : Int) == (Z : Int) + (SZ : Int)) = true := by rw [beq_iff_eq]; omega
            have g3' : ((hop.size : Int) != (Z : Int) + (SZ : Int)) = false := by rw [bne, g3]; rfl
            have HSZI : Hid ((hop.size : Int) = (Z : Int) + (SZ : Int)) := by
              show _ = _
              omega
            have hzl : (Z : Int) ≤ hop.size := by omega
            have HR5 := Lib.hid (fun h => R5.out (by trivial) (by trivial) hsz h)
            have HR4 := Lib.hid (R4.out (by trivial))
            clear R3 R4 R5 hsz
            refine wp_region_held_drew (S := fun w' => Below (w5.alloc (.cells #[.int .u16 afi, .int .u8 safi, .int .i64 (Z : Nat), .int .i64 (SZ : Nat)] 55)).heap.size (w5.alloc (.cells #[.int .u16 afi, .int .u8 safi, .int .i64 (Z : Nat), .int .i64 (SZ : Nat)] 55)) w') (by kernel_rfl) (below_drewN (Below.refl _ _) 1) (fun hHeld => ?_)
            refine wpAnyH_take (i := 0) (oi := tO0) (v := ?_) rfl (by kernel_rfl) (by kernel_rfl) (by kernel_rfl) (fun _ _ _ h => h) (Or.inl ⟨by rfl, ?_⟩) hHeld ?_
            rotate_left
            · intro w hSw
              clear hSw
              try dsimp only [tO0]
              go_simp
              try with_reducible rfl
            try simp only [tO0, Act.put, List.setIfInBounds_toArray, List.set_cons_zero, List.set_cons_succ]
            refine wpAnyH_take (i := 1) (oi := tO1) (v := ?_) rfl (by kernel_rfl) (by kernel_rfl) (by kernel_rfl) (fun _ _ _ h => h) (Or.inl ⟨by rfl, ?_⟩) hHeld ?_
            rotate_left
            · intro w hSw
              clear hSw
              try dsimp only [tO1]
              go_simp
              try with_reducible rfl
            try simp only [tO1, Act.put, List.setIfInBounds_toArray, List.set_cons_zero, List.set_cons_succ]
            refine wpAnyH_take (i := 2) (oi := tO2) (v := ?_) rfl (by kernel_rfl) (by kernel_rfl) (by kernel_rfl) (fun _ _ _ h => h) (Or.inl ⟨by rfl, ?_⟩) hHeld ?_
            rotate_left
            · intro w hSw
              clear hSw
              try dsimp only [tO2]
              go_simp
              try with_reducible rfl
            try simp only [tO2, Act.put, List.setIfInBounds_toArray, List.set_cons_zero, List.set_cons_succ]
            refine wpAnyH_take (i := 3) (oi := tO3) (v := ?_) rfl (by kernel_rfl) (by kernel_rfl) (by kernel_rfl) (fun _ _ _ h => h) (Or.inl ⟨by rfl, ?_⟩) hHeld ?_
            rotate_left
            · intro w hSw
              clear hSw
              try dsimp only [tO3]
              go_simp
              try with_reducible rfl
            try simp only [tO3, Act.put, List.setIfInBounds_toArray, List.set_cons_zero, List.set_cons_succ]
            refine wpAnyH_take (i := 4) (oi := tO4) (v := ?_) rfl (by kernel_rfl) (by kernel_rfl) (by kernel_rfl) (fun _ _ _ h => h) (Or.inl ⟨by rfl, ?_⟩) hHeld ?_
            rotate_left
            · intro w hSw
              clear hSw
              try dsimp only [tO4]
              go_simp
              try with_reducible rfl
            try simp only [tO4, Act.put, List.setIfInBounds_toArray, List.set_cons_zero, List.set_cons_succ]
            refine wpAnyH_take (i := 5) (oi := tO5) (v := ?_) rfl (by kernel_rfl) (by kernel_rfl) (by kernel_rfl) (fun _ _ _ h => h) (Or.inl ⟨by rfl, ?_⟩) hHeld ?_
            rotate_left
            · intro w hSw
              clear hSw
              try dsimp only [tO5]
              go_simp
              try with_reducible rfl
            try simp only [tO5, Act.put, List.setIfInBounds_toArray, List.set_cons_zero, List.set_cons_succ]
            refine wpAnyH_take (i := 6) (oi := tO6) (v := ?_) rfl (by kernel_rfl) (by kernel_rfl) (by kernel_rfl) (fun _ _ _ h => h) (Or.inl ⟨by rfl, ?_⟩) hHeld ?_
            rotate_left
            · intro w hSw
              clear hSw
              try dsimp only [tO6]
              go_simp
              try with_reducible rfl
            try simp only [tO6, Act.put, List.setIfInBounds_toArray, List.set_cons_zero, List.set_cons_succ]
            refine wpAnyH_take (i := 7) (oi := tO7) (v := ?_) rfl (by kernel_rfl) (by kernel_rfl) (by kernel_rfl) (fun _ _ _ h => h) (Or.inl ⟨by rfl, ?_⟩) hHeld ?_
            rotate_left
            · intro w hSw
              clear hSw
              try dsimp only [tO7]
              go_simp
              try with_reducible rfl
            try simp only [tO7, Act.put, List.setIfInBounds_toArray, List.set_cons_zero, List.set_cons_succ]
            refine wpAnyH_take (i := 8) (oi := tO8) (v := ?_) rfl (by kernel_rfl) (by kernel_rfl) (by kernel_rfl) (fun _ _ _ h => h) (Or.inl ⟨by rfl, ?_⟩) hHeld ?_
            rotate_left
            · intro w hSw
              clear hSw
              try dsimp only [tO8]
              go_simp
              try with_reducible rfl
            try simp only [tO8, Act.put, List.setIfInBounds_toArray, List.set_cons_zero, List.set_cons_succ]
            refine wpAnyH_take (i := 9) (oi := tO9) (v := ?_) rfl (by kernel_rfl) (by kernel_rfl) (by kernel_rfl) (fun _ _ _ h => h) (Or.inl ⟨by rfl, ?_⟩) hHeld ?_
            rotate_left
            · intro w hSw
              clear hSw
              try dsimp only [tO9]
              go_simp
              try with_reducible rfl
            try simp only [tO9, Act.put, List.setIfInBounds_toArray, List.set_cons_zero, List.set_cons_succ]
            refine wpAnyH_take (i := 10) (oi := tO10) (v := ?_) rfl (by kernel_rfl) (by kernel_rfl) (by kernel_rfl) (fun _ _ _ h => h) (Or.inl ⟨by rfl, ?_⟩) hHeld ?_
            rotate_left
            · intro w hSw
              obtain ⟨x0, x1, x2, x3⟩ := (HX.out.below hSw hxl).c4
              clear hSw
              try dsimp only [tO10]
              go_simp
              try with_reducible rfl
            try simp only [tO10, Act.put, List.setIfInBounds_toArray, List.set_cons_zero, List.set_cons_succ]
            refine wpAnyH_take (i := 11) (oi := tO11) (v := ?_) rfl (by kernel_rfl) (by kernel_rfl) (by kernel_rfl) (fun _ _ _ h => h) (Or.inl ⟨by rfl, ?_⟩) hHeld ?_
            rotate_left
            · intro w hSw
              clear hSw
              try dsimp only [tO11]
              go_simp
              try with_reducible rfl
            try simp only [tO11, Act.put, List.setIfInBounds_toArray, List.set_cons_zero, List.set_cons_succ]
            refine wpAnyH_take (i := 12) (oi := tO12) (v := ?_) rfl (by kernel_rfl) (by kernel_rfl) (by kernel_rfl) (fun _ _ _ h => h) (Or.inl ⟨by rfl, ?_⟩) hHeld ?_
            rotate_left
            · intro w hSw
              obtain ⟨x0, x1, x2, x3⟩ := (HX.out.below hSw hxl).c4
              clear hSw
              try dsimp only [tO12]
              go_simp
              try with_reducible rfl
            try simp only [tO12, Act.put, List.setIfInBounds_toArray, List.set_cons_zero, List.set_cons_succ]
            refine wpAnyH_take (i := 13) (oi := tO13) (v := ?_) rfl (by kernel_rfl) (by kernel_rfl) (by kernel_rfl) (fun _ _ _ h => h) (Or.inl ⟨by rfl, ?_⟩) hHeld ?_
            rotate_left
            · intro w hSw
              clear hSw
              try dsimp only [tO13]
              go_simp
              try with_reducible rfl
            try simp only [tO13, Act.put, List.setIfInBounds_toArray, List.set_cons_zero, List.set_cons_succ]
            refine wpAnyH_take (i := 14) (oi := tO14) (v := .bool false) rfl (by kernel_rfl) (by kernel_rfl) (by kernel_rfl) (fun _ _ _ h => h) (Or.inl ⟨by rfl, ?_⟩) hHeld ?_
            · intro w hSw
              clear hSw
              try dsimp only [tO14]
              go_simp
              rw [IntWalk.i64_in _ (by omega)]
              exact HSZI.out
            try simp only [tO14, Act.put, List.setIfInBounds_toArray, List.set_cons_zero, List.set_cons_succ]
            refine wpAnyH_take (i := 15) (oi := tO15) (v := ?_) rfl (by kernel_rfl) (by kernel_rfl) (by kernel_rfl) (fun _ _ _ h => h) (Or.inl ⟨by rfl, ?_⟩) hHeld ?_
            rotate_left
            · intro w hSw
              clear hSw
              try dsimp only [tO15]
              go_simp
              try with_reducible rfl
            try simp only [tO15, Act.put, List.setIfInBounds_toArray, List.set_cons_zero, List.set_cons_succ]
            refine wpAnyH_take (i := 16) (oi := tO16) (v := ?_) rfl (by kernel_rfl) (by kernel_rfl) (by kernel_rfl) (fun _ _ _ h => h) (Or.inl ⟨by rfl, ?_⟩) hHeld ?_
            rotate_left
            · intro w hSw
              clear hSw
              try dsimp only [tO16]
              go_simp
              try with_reducible rfl
            try simp only [tO16, Act.put, List.setIfInBounds_toArray, List.set_cons_zero, List.set_cons_succ]
            refine wpAnyH_take (i := 17) (oi := tO17) (v := ?_) rfl (by kernel_rfl) (by kernel_rfl) (by kernel_rfl) (fun _ _ _ h => h) (Or.inl ⟨by rfl, ?_⟩) hHeld ?_
            rotate_left
            · intro w hSw
              clear hSw
              try dsimp only [tO17]
              go_simp
              try with_reducible rfl
            try simp only [tO17, Act.put, List.setIfInBounds_toArray, List.set_cons_zero, List.set_cons_succ]
            refine wpAnyH_take (i := 18) (oi := tO18) (v := ?_) rfl (by kernel_rfl) (by kernel_rfl) (by kernel_rfl) (fun _ _ _ h => h) (Or.inl ⟨by rfl, ?_⟩) hHeld ?_
            rotate_left
            · intro w hSw
              clear hSw
              try dsimp only [tO18]
              go_simp
              try with_reducible rfl
            try simp only [tO18, Act.put, List.setIfInBounds_toArray, List.set_cons_zero, List.set_cons_succ]
            refine wpAnyH_take (i := 19) (oi := tO19) (v := ?_) rfl (by kernel_rfl) (by kernel_rfl) (by kernel_rfl) (fun _ _ _ h => h) (Or.inl ⟨by rfl, ?_⟩) hHeld ?_
            rotate_left
            · intro w hSw
              obtain ⟨x0, x1, x2, x3⟩ := (HX.out.below hSw hxl).c4
              clear hSw
              try dsimp only [tO19]
              go_simp
              try with_reducible rfl
            try simp only [tO19, Act.put, List.setIfInBounds_toArray, List.set_cons_zero, List.set_cons_succ]
            refine wpAnyH_take (i := 20) (oi := tO20) (v := ?_) rfl (by kernel_rfl) (by kernel_rfl) (by kernel_rfl) (fun _ _ _ h => h) (Or.inl ⟨by rfl, ?_⟩) hHeld ?_
            rotate_left
            · intro w hSw
              clear hSw
              try dsimp only [tO20]
              go_simp
              try with_reducible rfl
            try simp only [tO20, Act.put, List.setIfInBounds_toArray, List.set_cons_zero, List.set_cons_succ]
            refine wpAnyH_take (i := 21) (oi := tO21) (v := ?_) rfl (by kernel_rfl) (by kernel_rfl) (by kernel_rfl) (fun _ _ _ h => h) (Or.inl ⟨by rfl, ?_⟩) hHeld ?_
            rotate_left
            · intro w hSw
              clear hSw
              try dsimp only [tO21]
              go_simp
              try with_reducible rfl
            try simp only [tO21, Act.put, List.setIfInBounds_toArray, List.set_cons_zero, List.set_cons_succ]
            refine wpAnyH_take (i := 22) (oi := tO22) (v := ?_) rfl (by kernel_rfl) (by kernel_rfl) (by kernel_rfl) (fun _ _ _ h => h) (Or.inl ⟨by rfl, ?_⟩) hHeld ?_
            rotate_left
            · intro w hSw
              obtain ⟨x0, x1, x2, x3⟩ := (HX.out.below hSw hxl).c4
              clear hSw
              try dsimp only [tO22]
              go_simp
              try with_reducible rfl
            try simp only [tO22, Act.put, List.setIfInBounds_toArray, List.set_cons_zero, List.set_cons_succ]
            refine wpAnyH_ready (rs := [23]) (by as_aux_lemma => kernel_rfl) (by simp) ?_
            refine AllReadyH.cons (o := tO23) rfl (fun K hK => ?_) AllReadyH.nil
            refine wp_make0 (by rfl) _ _ rfl Z (by rfl) (by rfl) (by omega) ?_
            intro u1 HC hb
            refine hK.out _ _ (hHeld.trans (hb.mono hHeld.size)) (fun hHeld => ?_)
            clear hK K hb
            try simp only [Act.put, List.setIfInBounds_toArray, List.set_cons_zero, List.set_cons_succ]
            refine wpAnyH_ready (rs := [24]) (by as_aux_lemma => kernel_rfl) (by simp) ?_
            refine AllReadyH.cons (o := tO24) rfl (fun K hK => ?_) AllReadyH.nil
            refine wp_convb (by rfl) _ rfl _ Z (List.replicate Z 0) (by rfl) List.length_replicate.symm HC ?_
            refine hK.out _ _ hHeld (fun hHeld => ?_)
            clear hK K HC
            try simp only [Act.put, List.setIfInBounds_toArray, List.set_cons_zero, List.set_cons_succ]
            refine wpAnyH_take (i := 25) (oi := tO25) (v := ?_) rfl (by kernel_rfl) (by kernel_rfl) (by kernel_rfl) (fun _ _ _ h => h) (Or.inl ⟨by rfl, ?_⟩) hHeld ?_
            rotate_left
            · intro w hSw
              clear hSw
              try dsimp only [tO25]
              go_simp
              try with_reducible rfl
            try simp only [tO25, Act.put, List.setIfInBounds_toArray, List.set_cons_zero, List.set_cons_succ]
            refine wpAnyH_take (i := 26) (oi := tO26) (v := ?_) rfl (by kernel_rfl) (by kernel_rfl) (by kernel_rfl) (fun _ _ _ h => h) (Or.inl ⟨by rfl, ?_⟩) hHeld ?_
            rotate_left
            · intro w hSw
              clear hSw
              try dsimp only [tO26]
              go_simp
              try with_reducible rfl
            try simp only [tO26, Act.put, List.setIfInBounds_toArray, List.set_cons_zero, List.set_cons_succ]
            refine wpAnyH_done (by as_aux_lemma => kernel_rfl) ?_ _
            have HB6 := Lib.hid (HH5.out.bl.trans (hHeld.mono HH5.out.bl.size))
            have HH6 := Lib.hid (HH5.out.below hHeld)
            have HX6 := Lib.hid (HX.out.below hHeld hxl)
            clear hHeld
            by_cases hz : hop.extract 0 Z = noughts Z
            · have g4 : ((hop.extract 0 Z).toList == (⟨Array.replicate Z 0⟩ : ByteArray).toList) = true := toList_eq hz
              have g4' : (!((hop.extract 0 Z).toList == (⟨Array.replicate Z 0⟩ : ByteArray).toList)) = false := by rw [g4]; rfl
              have HG := Lib.hid (HR5.out hz)
              clear HR4 HR5 hz
              obtain ⟨x0, x1, x2, x3⟩ := HX6.out.c4
              rw [g4]
              go_wp2_with fail
              refine (rest_any _ t3 _ HH6.out.rd (by omega)).mono ?_
              rintro e w7 ⟨rfl, hw⟩
              have HH7 := Lib.hid (HH6.out.set ByteArray.empty)
              have HX7 := Lib.hid (HX6.out.setOther (p := ⟨w.heap.size, 1, none⟩) (by have := HH4L.out; show w5.heap.size ≠ w.heap.size; omega) (.string ByteArray.empty))
              rw [← hw] at HH7 HX7
              clear hw HH6 HX6 x0 x1 x2 x3
              go_wp2_with fail
              refine (contains_int A cap adds f _ (HI.out.below HH7.out.bl (Nat.le_refl _))).mono ?_
              rintro e w8 ⟨rfl, hw⟩
              rw [hw]
              clear hw
              go_wp2_with fail
              obtain ⟨b, hbe⟩ : ∃ b, b = hasI adds f := ⟨_, rfl⟩
              rw [← hbe] at HG ⊢
              clear hbe
              refine (decode_any t3 f b _ f1 f2 ht3).mono ?_
              rintro e w9 ⟨hb, hm⟩
              have HB9 := Lib.hid (HH7.out.bl.trans (hb.mono HH7.out.bl.size))
              have HX9 := Lib.hid (HX7.out.below hb HX7.out.lt)
              cases hd : decAll f b t3 with
              | none =>
                rw [hd] at hm HG
                obtain rfl : e = _ := hm
                clear hb hd
                go_wp2_with fail
                try simp only [Exit.inBlock, Exit.then]
                refine bodyPost_ret (results_tmp4 rfl _ _ _) rfl ?_
                exact TKPost.no HG.out rfl HB9.out
              | some L =>
                rw [hd] at hm HG
                obtain ⟨v, rfl, ho⟩ := hm
                obtain ⟨A2, c2, rfl⟩ := OwnM.form ho
                have HO := Lib.hid (ho.low HH7.out.bl.size)
                obtain ⟨x0, x1, x2, x3⟩ := HX9.out.c4
                clear hb hd ho
                go_wp2_with fail
                go_quiet (fail)
                go_wp2_with fail
                try simp only [Exit.inBlock, Exit.then]
                refine bodyPost_ret (results_tmp4 rfl _ _ _) rfl ?_
                exact TKPost.yes HG.out rfl HO.out (below_drewN HB9.out nq)
            · have g4 : ((hop.extract 0 Z).toList == (⟨Array.replicate Z 0⟩ : ByteArray).toList) = false := toList_ne hz
              have g4' : (!((hop.extract 0 Z).toList == (⟨Array.replicate Z 0⟩ : ByteArray).toList)) = true := by rw [g4]; rfl
              have HR := Lib.hid (HR4.out hz)
              clear HR4 HR5 hz
              rw [g4]
              go_wp2_with fail
              try simp only [Exit.inBlock, Exit.then]
              refine bodyPost_ret (results_tmp4 rfl _ _ _) rfl ?_
              exact TKPost.no HR.out rfl HB6.out
          · have g3 : ((hop.size : Int) == (Z : Int) + (SZ : Int)) = false := by rw [beq_eq_false_iff_ne]; omega
            have g3' : ((hop.size : Int) != (Z : Int) + (SZ : Int)) = true := by rw [bne, g3]; rfl
            have HSZI : Hid (¬ (hop.size : Int) = (Z : Int) + (SZ : Int)) := by
              show ¬ _
              omega
            have HR := Lib.hid (R3.out (by trivial) hsz)
            clear R3 R4 R5 hsz
            refine wp_region_held_drew (S := fun w' => Below (w5.alloc (.cells #[.int .u16 afi, .int .u8 safi, .int .i64 (Z : Nat), .int .i64 (SZ : Nat)] 55)).heap.size (w5.alloc (.cells #[.int .u16 afi, .int .u8 safi, .int .i64 (Z : Nat), .int .i64 (SZ : Nat)] 55)) w') (by kernel_rfl) (below_drewN (Below.refl _ _) 1) (fun hHeld => ?_)
            refine wpAnyH_take (i := 0) (oi := tO0) (v := ?_) rfl (by kernel_rfl) (by kernel_rfl) (by kernel_rfl) (fun _ _ _ h => h) (Or.inl ⟨by rfl, ?_⟩) hHeld ?_
            rotate_left
            · intro w hSw
              clear hSw
              try dsimp only [tO0]
              go_simp
              try with_reducible rfl
            try simp only [tO0, Act.put, List.setIfInBounds_toArray, List.set_cons_zero, List.set_cons_succ]
            refine wpAnyH_take (i := 1) (oi := tO1) (v := ?_) rfl (by kernel_rfl) (by kernel_rfl) (by kernel_rfl) (fun _ _ _ h => h) (Or.inl ⟨by rfl, ?_⟩) hHeld ?_
            rotate_left
            · intro w hSw
              clear hSw
              try dsimp only [tO1]
              go_simp
              try with_reducible rfl
            try simp only [tO1, Act.put, List.setIfInBounds_toArray, List.set_cons_zero, List.set_cons_succ]
            refine wpAnyH_take (i := 2) (oi := tO2) (v := ?_) rfl (by kernel_rfl) (by kernel_rfl) (by kernel_rfl) (fun _ _ _ h => h) (Or.inl ⟨by rfl, ?_⟩) hHeld ?_
            rotate_left
            · intro w hSw
              clear hSw
              try dsimp only [tO2]
              go_simp
              try with_reducible rfl
            try simp only [tO2, Act.put, List.setIfInBounds_toArray, List.set_cons_zero, List.set_cons_succ]
            refine wpAnyH_take (i := 3) (oi := tO3) (v := ?_) rfl (by kernel_rfl) (by kernel_rfl) (by kernel_rfl) (fun _ _ _ h => h) (Or.inl ⟨by rfl, ?_⟩) hHeld ?_
            rotate_left
            · intro w hSw
              clear hSw
              try dsimp only [tO3]
              go_simp
              try with_reducible rfl
            try simp only [tO3, Act.put, List.setIfInBounds_toArray, List.set_cons_zero, List.set_cons_succ]
            refine wpAnyH_take (i := 4) (oi := tO4) (v := ?_) rfl (by kernel_rfl) (by kernel_rfl) (by kernel_rfl) (fun _ _ _ h => h) (Or.inl ⟨by rfl, ?_⟩) hHeld ?_
            rotate_left
            · intro w hSw
              clear hSw
              try dsimp only [tO4]
              go_simp
              try with_reducible rfl
            try simp only [tO4, Act.put, List.setIfInBounds_toArray, List.set_cons_zero, List.set_cons_succ]
            refine wpAnyH_take (i := 5) (oi := tO5) (v := ?_) rfl (by kernel_rfl) (by kernel_rfl) (by kernel_rfl) (fun _ _ _ h => h) (Or.inl ⟨by rfl, ?_⟩) hHeld ?_
            rotate_left
            · intro w hSw
              clear hSw
              try dsimp only [tO5]
              go_simp
              try with_reducible rfl
            try simp only [tO5, Act.put, List.setIfInBounds_toArray, List.set_cons_zero, List.set_cons_succ]
            refine wpAnyH_take (i := 6) (oi := tO6) (v := ?_) rfl (by kernel_rfl) (by kernel_rfl) (by kernel_rfl) (fun _ _ _ h => h) (Or.inl ⟨by rfl, ?_⟩) hHeld ?_
            rotate_left
            · intro w hSw
              clear hSw
              try dsimp only [tO6]
              go_simp
              try with_reducible rfl
            try simp only [tO6, Act.put, List.setIfInBounds_toArray, List.set_cons_zero, List.set_cons_succ]
            refine wpAnyH_take (i := 7) (oi := tO7) (v := ?_) rfl (by kernel_rfl) (by kernel_rfl) (by kernel_rfl) (fun _ _ _ h => h) (Or.inl ⟨by rfl, ?_⟩) hHeld ?_
            rotate_left
            · intro w hSw
              clear hSw
              try dsimp only [tO7]
              go_simp
              try with_reducible rfl
            try simp only [tO7, Act.put, List.setIfInBounds_toArray, List.set_cons_zero, List.set_cons_succ]
            refine wpAnyH_take (i := 8) (oi := tO8) (v := ?_) rfl (by kernel_rfl) (by kernel_rfl) (by kernel_rfl) (fun _ _ _ h => h) (Or.inl ⟨by rfl, ?_⟩) hHeld ?_
            rotate_left
            · intro w hSw
              clear hSw
              try dsimp only [tO8]
              go_simp
              try with_reducible rfl
            try simp only [tO8, Act.put, List.setIfInBounds_toArray, List.set_cons_zero, List.set_cons_succ]
            refine wpAnyH_take (i := 9) (oi := tO9) (v := ?_) rfl (by kernel_rfl) (by kernel_rfl) (by kernel_rfl) (fun _ _ _ h => h) (Or.inl ⟨by rfl, ?_⟩) hHeld ?_
            rotate_left
            · intro w hSw
              clear hSw
              try dsimp only [tO9]
              go_simp
              try with_reducible rfl
            try simp only [tO9, Act.put, List.setIfInBounds_toArray, List.set_cons_zero, List.set_cons_succ]
            refine wpAnyH_take (i := 10) (oi := tO10) (v := ?_) rfl (by kernel_rfl) (by kernel_rfl) (by kernel_rfl) (fun _ _ _ h => h) (Or.inl ⟨by rfl, ?_⟩) hHeld ?_
            rotate_left
            · intro w hSw
              obtain ⟨x0, x1, x2, x3⟩ := (HX.out.below hSw hxl).c4
              clear hSw
              try dsimp only [tO10]
              go_simp
              try with_reducible rfl
            try simp only [tO10, Act.put, List.setIfInBounds_toArray, List.set_cons_zero, List.set_cons_succ]
            refine wpAnyH_take (i := 11) (oi := tO11) (v := ?_) rfl (by kernel_rfl) (by kernel_rfl) (by kernel_rfl) (fun _ _ _ h => h) (Or.inl ⟨by rfl, ?_⟩) hHeld ?_
            rotate_left
            · intro w hSw
              clear hSw
              try dsimp only [tO11]
              go_simp
              try with_reducible rfl
            try simp only [tO11, Act.put, List.setIfInBounds_toArray, List.set_cons_zero, List.set_cons_succ]
            refine wpAnyH_take (i := 12) (oi := tO12) (v := ?_) rfl (by kernel_rfl) (by kernel_rfl) (by kernel_rfl) (fun _ _ _ h => h) (Or.inl ⟨by rfl, ?_⟩) hHeld ?_
            rotate_left
            · intro w hSw
              obtain ⟨x0, x1, x2, x3⟩ := (HX.out.below hSw hxl).c4
              clear hSw
              try dsimp only [tO12]
              go_simp
              try with_reducible rfl
            try simp only [tO12, Act.put, List.setIfInBounds_toArray, List.set_cons_zero, List.set_cons_succ]
            refine wpAnyH_take (i := 13) (oi := tO13) (v := ?_) rfl (by kernel_rfl) (by kernel_rfl) (by kernel_rfl) (fun _ _ _ h => h) (Or.inl ⟨by rfl, ?_⟩) hHeld ?_
            rotate_left
            · intro w hSw
              clear hSw
              try dsimp only [tO13]
              go_simp
              try with_reducible rfl
            try simp only [tO13, Act.put, List.setIfInBounds_toArray, List.set_cons_zero, List.set_cons_succ]
            refine wpAnyH_take (i := 14) (oi := tO14) (v := .bool true) rfl (by kernel_rfl) (by kernel_rfl) (by kernel_rfl) (fun _ _ _ h => h) (Or.inl ⟨by rfl, ?_⟩) hHeld ?_
            · intro w hSw
              clear hSw
              try dsimp only [tO14]
              go_simp
              rw [IntWalk.i64_in _ (by omega)]
              exact HSZI.out
            try simp only [tO14, Act.put, List.setIfInBounds_toArray, List.set_cons_zero, List.set_cons_succ]
            refine wpAnyH_take (i := 15) (oi := tO15) (v := ?_) rfl (by kernel_rfl) (by kernel_rfl) (by kernel_rfl) (fun _ _ _ h => h) (Or.inl ⟨by rfl, ?_⟩) hHeld ?_
            rotate_left
            · intro w hSw
              clear hSw
              try dsimp only [tO15]
              go_simp
              try with_reducible rfl
            try simp only [tO15, Act.put, List.setIfInBounds_toArray, List.set_cons_zero, List.set_cons_succ]
            refine wpAnyH_take (i := 16) (oi := tO16) (v := ?_) rfl (by kernel_rfl) (by kernel_rfl) (by kernel_rfl) (fun _ _ _ h => h) (Or.inl ⟨by rfl, ?_⟩) hHeld ?_
            rotate_left
            · intro w hSw
              clear hSw
              try dsimp only [tO16]
              go_simp
              try with_reducible rfl
            try simp only [tO16, Act.put, List.setIfInBounds_toArray, List.set_cons_zero, List.set_cons_succ]
            refine wpAnyH_take (i := 17) (oi := tO17) (v := undef) rfl (by kernel_rfl) (by kernel_rfl) (by kernel_rfl) (fun _ _ _ h => h) (Or.inr ⟨by rfl, rfl⟩) hHeld ?_
            try simp only [tO17, Act.put, List.setIfInBounds_toArray, List.set_cons_zero, List.set_cons_succ]
            refine wpAnyH_take (i := 18) (oi := tO18) (v := undef) rfl (by kernel_rfl) (by kernel_rfl) (by kernel_rfl) (fun _ _ _ h => h) (Or.inr ⟨by rfl, rfl⟩) hHeld ?_
            try simp only [tO18, Act.put, List.setIfInBounds_toArray, List.set_cons_zero, List.set_cons_succ]
            refine wpAnyH_take (i := 19) (oi := tO19) (v := undef) rfl (by kernel_rfl) (by kernel_rfl) (by kernel_rfl) (fun _ _ _ h => h) (Or.inr ⟨by rfl, rfl⟩) hHeld ?_
            try simp only [tO19, Act.put, List.setIfInBounds_toArray, List.set_cons_zero, List.set_cons_succ]
            refine wpAnyH_take (i := 20) (oi := tO20) (v := undef) rfl (by kernel_rfl) (by kernel_rfl) (by kernel_rfl) (fun _ _ _ h => h) (Or.inr ⟨by rfl, rfl⟩) hHeld ?_
            try simp only [tO20, Act.put, List.setIfInBounds_toArray, List.set_cons_zero, List.set_cons_succ]
            refine wpAnyH_take (i := 21) (oi := tO21) (v := undef) rfl (by kernel_rfl) (by kernel_rfl) (by kernel_rfl) (fun _ _ _ h => h) (Or.inr ⟨by rfl, rfl⟩) hHeld ?_
            try simp only [tO21, Act.put, List.setIfInBounds_toArray, List.set_cons_zero, List.set_cons_succ]
            refine wpAnyH_take (i := 22) (oi := tO22) (v := undef) rfl (by kernel_rfl) (by kernel_rfl) (by kernel_rfl) (fun _ _ _ h => h) (Or.inr ⟨by rfl, rfl⟩) hHeld ?_
            try simp only [tO22, Act.put, List.setIfInBounds_toArray, List.set_cons_zero, List.set_cons_succ]
            refine wpAnyH_take (i := 23) (oi := tO23) (v := undef) rfl (by kernel_rfl) (by kernel_rfl) (by kernel_rfl) (fun _ _ _ h => h) (Or.inr ⟨by rfl, rfl⟩) hHeld ?_
            try simp only [tO23, Act.put, List.setIfInBounds_toArray, List.set_cons_zero, List.set_cons_succ]
            refine wpAnyH_take (i := 24) (oi := tO24) (v := undef) rfl (by kernel_rfl) (by kernel_rfl) (by kernel_rfl) (fun _ _ _ h => h) (Or.inr ⟨by rfl, rfl⟩) hHeld ?_
            try simp only [tO24, Act.put, List.setIfInBounds_toArray, List.set_cons_zero, List.set_cons_succ]
            refine wpAnyH_take (i := 25) (oi := tO25) (v := undef) rfl (by kernel_rfl) (by kernel_rfl) (by kernel_rfl) (fun _ _ _ h => h) (Or.inr ⟨by rfl, rfl⟩) hHeld ?_
            try simp only [tO25, Act.put, List.setIfInBounds_toArray, List.set_cons_zero, List.set_cons_succ]
            refine wpAnyH_take (i := 26) (oi := tO26) (v := ?_) rfl (by kernel_rfl) (by kernel_rfl) (by kernel_rfl) (fun _ _ _ h => h) (Or.inl ⟨by rfl, ?_⟩) hHeld ?_
            rotate_left
            · intro w hSw
              clear hSw
              try dsimp only [tO26]
              go_simp
              try with_reducible rfl
            try simp only [tO26, Act.put, List.setIfInBounds_toArray, List.set_cons_zero, List.set_cons_succ]
            refine wpAnyH_done (by as_aux_lemma => kernel_rfl) ?_ _
            have HB6 := Lib.hid (HH5.out.bl.trans (hHeld.mono HH5.out.bl.size))
            have HH6 := Lib.hid (HH5.out.below hHeld)
            have HX6 := Lib.hid (HX.out.below hHeld hxl)
            clear hHeld
            go_wp2_with fail
            try simp only [Exit.inBlock, Exit.then]
            refine bodyPost_ret (results_tmp4 rfl _ _ _) rfl ?_
            exact TKPost.no HR.out rfl HB6.out
      · have g1 : (f == 2) = false := by rw [beq_eq_false_iff_ne]; exact hq2
        clear hf2 hq2 H16 HHO
        go_wp2_with fail
        rw [HHE.out]
        clear HHE g1
        cases b2 with
        | false =>
          have HR := Lib.hid (R2.out (by trivial))
          clear R2 R3 R4 R5
          refine wp_region_held_drew (S := fun w' => Below (w5.alloc (.cells #[.int .u16 afi, .int .u8 safi, .int .i64 (Z : Nat), .int .i64 (SZ : Nat)] 55)).heap.size (w5.alloc (.cells #[.int .u16 afi, .int .u8 safi, .int .i64 (Z : Nat), .int .i64 (SZ : Nat)] 55)) w') (by kernel_rfl) (below_drewN (Below.refl _ _) 1) (fun hHeld => ?_)
          refine wpAnyH_take (i := 0) (oi := tO0) (v := ?_) rfl (by kernel_rfl) (by kernel_rfl) (by kernel_rfl) (fun _ _ _ h => h) (Or.inl ⟨by rfl, ?_⟩) hHeld ?_
          rotate_left
          · intro w hSw
            clear hSw
            try dsimp only [tO0]
            go_simp
            try with_reducible rfl
          try simp only [tO0, Act.put, List.setIfInBounds_toArray, List.set_cons_zero, List.set_cons_succ]
          refine wpAnyH_take (i := 1) (oi := tO1) (v := ?_) rfl (by kernel_rfl) (by kernel_rfl) (by kernel_rfl) (fun _ _ _ h => h) (Or.inl ⟨by rfl, ?_⟩) hHeld ?_
          rotate_left
          · intro w hSw
            clear hSw
            try dsimp only [tO1]
            go_simp
            try with_reducible rfl
          try simp only [tO1, Act.put, List.setIfInBounds_toArray, List.set_cons_zero, List.set_cons_succ]
          refine wpAnyH_take (i := 2) (oi := tO2) (v := ?_) rfl (by kernel_rfl) (by kernel_rfl) (by kernel_rfl) (fun _ _ _ h => h) (Or.inl ⟨by rfl, ?_⟩) hHeld ?_
          rotate_left
          · intro w hSw
            clear hSw
            try dsimp only [tO2]
            go_simp
            try with_reducible rfl
          try simp only [tO2, Act.put, List.setIfInBounds_toArray, List.set_cons_zero, List.set_cons_succ]
          refine wpAnyH_take (i := 3) (oi := tO3) (v := ?_) rfl (by kernel_rfl) (by kernel_rfl) (by kernel_rfl) (fun _ _ _ h => h) (Or.inl ⟨by rfl, ?_⟩) hHeld ?_
          rotate_left
          · intro w hSw
            clear hSw
            try dsimp only [tO3]
            go_simp
            try with_reducible rfl
          try simp only [tO3, Act.put, List.setIfInBounds_toArray, List.set_cons_zero, List.set_cons_succ]
          refine wpAnyH_take (i := 4) (oi := tO4) (v := ?_) rfl (by kernel_rfl) (by kernel_rfl) (by kernel_rfl) (fun _ _ _ h => h) (Or.inl ⟨by rfl, ?_⟩) hHeld ?_
          rotate_left
          · intro w hSw
            clear hSw
            try dsimp only [tO4]
            go_simp
            try with_reducible rfl
          try simp only [tO4, Act.put, List.setIfInBounds_toArray, List.set_cons_zero, List.set_cons_succ]
          refine wpAnyH_take (i := 5) (oi := tO5) (v := ?_) rfl (by kernel_rfl) (by kernel_rfl) (by kernel_rfl) (fun _ _ _ h => h) (Or.inl ⟨by rfl, ?_⟩) hHeld ?_
          rotate_left
          · intro w hSw
            clear hSw
            try dsimp only [tO5]
            go_simp
            try with_reducible rfl
          try simp only [tO5, Act.put, List.setIfInBounds_toArray, List.set_cons_zero, List.set_cons_succ]
          refine wpAnyH_take (i := 6) (oi := tO6) (v := ?_) rfl (by kernel_rfl) (by kernel_rfl) (by kernel_rfl) (fun _ _ _ h => h) (Or.inl ⟨by rfl, ?_⟩) hHeld ?_
          rotate_left
          · intro w hSw
            clear hSw
            try dsimp only [tO6]
            go_simp
            try with_reducible rfl
          try simp only [tO6, Act.put, List.setIfInBounds_toArray, List.set_cons_zero, List.set_cons_succ]
          refine wpAnyH_take (i := 7) (oi := tO7) (v := undef) rfl (by kernel_rfl) (by kernel_rfl) (by kernel_rfl) (fun _ _ _ h => h) (Or.inr ⟨by rfl, rfl⟩) hHeld ?_
          try simp only [tO7, Act.put, List.setIfInBounds_toArray, List.set_cons_zero, List.set_cons_succ]
          refine wpAnyH_take (i := 8) (oi := tO8) (v := undef) rfl (by kernel_rfl) (by kernel_rfl) (by kernel_rfl) (fun _ _ _ h => h) (Or.inr ⟨by rfl, rfl⟩) hHeld ?_
          try simp only [tO8, Act.put, List.setIfInBounds_toArray, List.set_cons_zero, List.set_cons_succ]
          refine wpAnyH_take (i := 9) (oi := tO9) (v := undef) rfl (by kernel_rfl) (by kernel_rfl) (by kernel_rfl) (fun _ _ _ h => h) (Or.inr ⟨by rfl, rfl⟩) hHeld ?_
          try simp only [tO9, Act.put, List.setIfInBounds_toArray, List.set_cons_zero, List.set_cons_succ]
          refine wpAnyH_take (i := 10) (oi := tO10) (v := undef) rfl (by kernel_rfl) (by kernel_rfl) (by kernel_rfl) (fun _ _ _ h => h) (Or.inr ⟨by rfl, rfl⟩) hHeld ?_
          try simp only [tO10, Act.put, List.setIfInBounds_toArray, List.set_cons_zero, List.set_cons_succ]
          refine wpAnyH_take (i := 11) (oi := tO11) (v := undef) rfl (by kernel_rfl) (by kernel_rfl) (by kernel_rfl) (fun _ _ _ h => h) (Or.inr ⟨by rfl, rfl⟩) hHeld ?_
          try simp only [tO11, Act.put, List.setIfInBounds_toArray, List.set_cons_zero, List.set_cons_succ]
          refine wpAnyH_take (i := 12) (oi := tO12) (v := undef) rfl (by kernel_rfl) (by kernel_rfl) (by kernel_rfl) (fun _ _ _ h => h) (Or.inr ⟨by rfl, rfl⟩) hHeld ?_
          try simp only [tO12, Act.put, List.setIfInBounds_toArray, List.set_cons_zero, List.set_cons_succ]
          refine wpAnyH_take (i := 13) (oi := tO13) (v := undef) rfl (by kernel_rfl) (by kernel_rfl) (by kernel_rfl) (fun _ _ _ h => h) (Or.inr ⟨by rfl, rfl⟩) hHeld ?_
          try simp only [tO13, Act.put, List.setIfInBounds_toArray, List.set_cons_zero, List.set_cons_succ]
          refine wpAnyH_take (i := 14) (oi := tO14) (v := undef) rfl (by kernel_rfl) (by kernel_rfl) (by kernel_rfl) (fun _ _ _ h => h) (Or.inr ⟨by rfl, rfl⟩) hHeld ?_
          try simp only [tO14, Act.put, List.setIfInBounds_toArray, List.set_cons_zero, List.set_cons_succ]
          refine wpAnyH_take (i := 15) (oi := tO15) (v := ?_) rfl (by kernel_rfl) (by kernel_rfl) (by kernel_rfl) (fun _ _ _ h => h) (Or.inl ⟨by rfl, ?_⟩) hHeld ?_
          rotate_left
          · intro w hSw
            clear hSw
            try dsimp only [tO15]
            go_simp
            try with_reducible rfl
          try simp only [tO15, Act.put, List.setIfInBounds_toArray, List.set_cons_zero, List.set_cons_succ]
          refine wpAnyH_take (i := 16) (oi := tO16) (v := ?_) rfl (by kernel_rfl) (by kernel_rfl) (by kernel_rfl) (fun _ _ _ h => h) (Or.inl ⟨by rfl, ?_⟩) hHeld ?_
          rotate_left
          · intro w hSw
            clear hSw
            try dsimp only [tO16]
            go_simp
            try with_reducible rfl
          try simp only [tO16, Act.put, List.setIfInBounds_toArray, List.set_cons_zero, List.set_cons_succ]
          refine wpAnyH_take (i := 17) (oi := tO17) (v := undef) rfl (by kernel_rfl) (by kernel_rfl) (by kernel_rfl) (fun _ _ _ h => h) (Or.inr ⟨by rfl, rfl⟩) hHeld ?_
          try simp only [tO17, Act.put, List.setIfInBounds_toArray, List.set_cons_zero, List.set_cons_succ]
          refine wpAnyH_take (i := 18) (oi := tO18) (v := undef) rfl (by kernel_rfl) (by kernel_rfl) (by kernel_rfl) (fun _ _ _ h => h) (Or.inr ⟨by rfl, rfl⟩) hHeld ?_
          try simp only [tO18, Act.put, List.setIfInBounds_toArray, List.set_cons_zero, List.set_cons_succ]
          refine wpAnyH_take (i := 19) (oi := tO19) (v := undef) rfl (by kernel_rfl) (by kernel_rfl) (by kernel_rfl) (fun _ _ _ h => h) (Or.inr ⟨by rfl, rfl⟩) hHeld ?_
          try simp only [tO19, Act.put, List.setIfInBounds_toArray, List.set_cons_zero, List.set_cons_succ]
          refine wpAnyH_take (i := 20) (oi := tO20) (v := undef) rfl (by kernel_rfl) (by kernel_rfl) (by kernel_rfl) (fun _ _ _ h => h) (Or.inr ⟨by rfl, rfl⟩) hHeld ?_
          try simp only [tO20, Act.put, List.setIfInBounds_toArray, List.set_cons_zero, List.set_cons_succ]
          refine wpAnyH_take (i := 21) (oi := tO21) (v := undef) rfl (by kernel_rfl) (by kernel_rfl) (by kernel_rfl) (fun _ _ _ h => h) (Or.inr ⟨by rfl, rfl⟩) hHeld ?_
          try simp only [tO21, Act.put, List.setIfInBounds_toArray, List.set_cons_zero, List.set_cons_succ]
          refine wpAnyH_take (i := 22) (oi := tO22) (v := undef) rfl (by kernel_rfl) (by kernel_rfl) (by kernel_rfl) (fun _ _ _ h => h) (Or.inr ⟨by rfl, rfl⟩) hHeld ?_
          try simp only [tO22, Act.put, List.setIfInBounds_toArray, List.set_cons_zero, List.set_cons_succ]
          refine wpAnyH_take (i := 23) (oi := tO23) (v := undef) rfl (by kernel_rfl) (by kernel_rfl) (by kernel_rfl) (fun _ _ _ h => h) (Or.inr ⟨by rfl, rfl⟩) hHeld ?_
          try simp only [tO23, Act.put, List.setIfInBounds_toArray, List.set_cons_zero, List.set_cons_succ]
          refine wpAnyH_take (i := 24) (oi := tO24) (v := undef) rfl (by kernel_rfl) (by kernel_rfl) (by kernel_rfl) (fun _ _ _ h => h) (Or.inr ⟨by rfl, rfl⟩) hHeld ?_
          try simp only [tO24, Act.put, List.setIfInBounds_toArray, List.set_cons_zero, List.set_cons_succ]
          refine wpAnyH_take (i := 25) (oi := tO25) (v := undef) rfl (by kernel_rfl) (by kernel_rfl) (by kernel_rfl) (fun _ _ _ h => h) (Or.inr ⟨by rfl, rfl⟩) hHeld ?_
          try simp only [tO25, Act.put, List.setIfInBounds_toArray, List.set_cons_zero, List.set_cons_succ]
          refine wpAnyH_take (i := 26) (oi := tO26) (v := ?_) rfl (by kernel_rfl) (by kernel_rfl) (by kernel_rfl) (fun _ _ _ h => h) (Or.inl ⟨by rfl, ?_⟩) hHeld ?_
          rotate_left
          · intro w hSw
            clear hSw
            try dsimp only [tO26]
            go_simp
            try with_reducible rfl
          try simp only [tO26, Act.put, List.setIfInBounds_toArray, List.set_cons_zero, List.set_cons_succ]
          refine wpAnyH_done (by as_aux_lemma => kernel_rfl) ?_ _
          have HB6 := Lib.hid (HH5.out.bl.trans (hHeld.mono HH5.out.bl.size))
          have HH6 := Lib.hid (HH5.out.below hHeld)
          have HX6 := Lib.hid (HX.out.below hHeld hxl)
          clear hHeld
          go_wp2_with fail
          try simp only [Exit.inBlock, Exit.then]
          refine bodyPost_ret (results_tmp4 rfl _ _ _) rfl ?_
          exact TKPost.no HR.out rfl HB6.out
        | true =>
          clear R2
          by_cases hsz : hop.size = Z + SZ
          · have g3 : ((hop.size : Int) == (Z : Int) + (SZ : Int)) = true := by rw [beq_iff_eq]; omega
            have g3' : ((hop.size : Int) != (Z : Int) + (SZ : Int)) = false := by rw [bne, g3]; rfl
            have HSZI : Hid ((hop.size : Int) = (Z : Int) + (SZ : Int)) := by
              show _ = _
              omega
            have hzl : (Z : Int) ≤ hop.size := by omega
            have HR5 := Lib.hid (fun h => R5.out (by trivial) (by trivial) hsz h)
            have HR4 := Lib.hid (R4.out (by trivial))
            clear R3 R4 R5 hsz
            refine wp_region_held_drew (S := fun w' => Below (w5.alloc (.cells #[.int .u16 afi, .int .u8 safi, .int .i64 (Z : Nat), .int .i64 (SZ : Nat)] 55)).heap.size (w5.alloc (.cells #[.int .u16 afi, .int .u8 safi, .int .i64 (Z : Nat), .int .i64 (SZ : Nat)] 55)) w') (by kernel_rfl) (below_drewN (Below.refl _ _) 1) (fun hHeld => ?_)
            refine wpAnyH_take (i := 0) (oi := tO0) (v := ?_) rfl (by kernel_rfl) (by kernel_rfl) (by kernel_rfl) (fun _ _ _ h => h) (Or.inl ⟨by rfl, ?_⟩) hHeld ?_
            rotate_left
            · intro w hSw
              clear hSw
              try dsimp only [tO0]
              go_simp
              try with_reducible rfl
            try simp only [tO0, Act.put, List.setIfInBounds_toArray, List.set_cons_zero, List.set_cons_succ]
            refine wpAnyH_take (i := 1) (oi := tO1) (v := ?_) rfl (by kernel_rfl) (by kernel_rfl) (by kernel_rfl) (fun _ _ _ h => h) (Or.inl ⟨by rfl, ?_⟩) hHeld ?_
            rotate_left
            · intro w hSw
              clear hSw
              try dsimp only [tO1]
              go_simp
              try with_reducible rfl
            try simp only [tO1, Act.put, List.setIfInBounds_toArray, List.set_cons_zero, List.set_cons_succ]
            refine wpAnyH_take (i := 2) (oi := tO2) (v := ?_) rfl (by kernel_rfl) (by kernel_rfl) (by kernel_rfl) (fun _ _ _ h => h) (Or.inl ⟨by rfl, ?_⟩) hHeld ?_
            rotate_left
            · intro w hSw
              clear hSw
              try dsimp only [tO2]
              go_simp
              try with_reducible rfl
            try simp only [tO2, Act.put, List.setIfInBounds_toArray, List.set_cons_zero, List.set_cons_succ]
            refine wpAnyH_take (i := 3) (oi := tO3) (v := ?_) rfl (by kernel_rfl) (by kernel_rfl) (by kernel_rfl) (fun _ _ _ h => h) (Or.inl ⟨by rfl, ?_⟩) hHeld ?_
            rotate_left
            · intro w hSw
              clear hSw
              try dsimp only [tO3]
              go_simp
              try with_reducible rfl
            try simp only [tO3, Act.put, List.setIfInBounds_toArray, List.set_cons_zero, List.set_cons_succ]
            refine wpAnyH_take (i := 4) (oi := tO4) (v := ?_) rfl (by kernel_rfl) (by kernel_rfl) (by kernel_rfl) (fun _ _ _ h => h) (Or.inl ⟨by rfl, ?_⟩) hHeld ?_
            rotate_left
            · intro w hSw
              clear hSw
              try dsimp only [tO4]
              go_simp
              try with_reducible rfl
            try simp only [tO4, Act.put, List.setIfInBounds_toArray, List.set_cons_zero, List.set_cons_succ]
            refine wpAnyH_take (i := 5) (oi := tO5) (v := ?_) rfl (by kernel_rfl) (by kernel_rfl) (by kernel_rfl) (fun _ _ _ h => h) (Or.inl ⟨by rfl, ?_⟩) hHeld ?_
            rotate_left
            · intro w hSw
              clear hSw
              try dsimp only [tO5]
              go_simp
              try with_reducible rfl
            try simp only [tO5, Act.put, List.setIfInBounds_toArray, List.set_cons_zero, List.set_cons_succ]
            refine wpAnyH_take (i := 6) (oi := tO6) (v := ?_) rfl (by kernel_rfl) (by kernel_rfl) (by kernel_rfl) (fun _ _ _ h => h) (Or.inl ⟨by rfl, ?_⟩) hHeld ?_
            rotate_left
            · intro w hSw
              clear hSw
              try dsimp only [tO6]
              go_simp
              try with_reducible rfl
            try simp only [tO6, Act.put, List.setIfInBounds_toArray, List.set_cons_zero, List.set_cons_succ]
            refine wpAnyH_take (i := 7) (oi := tO7) (v := ?_) rfl (by kernel_rfl) (by kernel_rfl) (by kernel_rfl) (fun _ _ _ h => h) (Or.inl ⟨by rfl, ?_⟩) hHeld ?_
            rotate_left
            · intro w hSw
              clear hSw
              try dsimp only [tO7]
              go_simp
              try with_reducible rfl
            try simp only [tO7, Act.put, List.setIfInBounds_toArray, List.set_cons_zero, List.set_cons_succ]
            refine wpAnyH_take (i := 8) (oi := tO8) (v := ?_) rfl (by kernel_rfl) (by kernel_rfl) (by kernel_rfl) (fun _ _ _ h => h) (Or.inl ⟨by rfl, ?_⟩) hHeld ?_
            rotate_left
            · intro w hSw
              clear hSw
              try dsimp only [tO8]
              go_simp
              try with_reducible rfl
            try simp only [tO8, Act.put, List.setIfInBounds_toArray, List.set_cons_zero, List.set_cons_succ]
            refine wpAnyH_take (i := 9) (oi := tO9) (v := ?_) rfl (by kernel_rfl) (by kernel_rfl) (by kernel_rfl) (fun _ _ _ h => h) (Or.inl ⟨by rfl, ?_⟩) hHeld ?_
            rotate_left
            · intro w hSw
              clear hSw
              try dsimp only [tO9]
              go_simp
              try with_reducible rfl
            try simp only [tO9, Act.put, List.setIfInBounds_toArray, List.set_cons_zero, List.set_cons_succ]
            refine wpAnyH_take (i := 10) (oi := tO10) (v := ?_) rfl (by kernel_rfl) (by kernel_rfl) (by kernel_rfl) (fun _ _ _ h => h) (Or.inl ⟨by rfl, ?_⟩) hHeld ?_
            rotate_left
            · intro w hSw
              obtain ⟨x0, x1, x2, x3⟩ := (HX.out.below hSw hxl).c4
              clear hSw
              try dsimp only [tO10]
              go_simp
              try with_reducible rfl
            try simp only [tO10, Act.put, List.setIfInBounds_toArray, List.set_cons_zero, List.set_cons_succ]
            refine wpAnyH_take (i := 11) (oi := tO11) (v := ?_) rfl (by kernel_rfl) (by kernel_rfl) (by kernel_rfl) (fun _ _ _ h => h) (Or.inl ⟨by rfl, ?_⟩) hHeld ?_
            rotate_left
            · intro w hSw
              clear hSw
              try dsimp only [tO11]
              go_simp
              try with_reducible rfl
            try simp only [tO11, Act.put, List.setIfInBounds_toArray, List.set_cons_zero, List.set_cons_succ]
            refine wpAnyH_take (i := 12) (oi := tO12) (v := ?_) rfl (by kernel_rfl) (by kernel_rfl) (by kernel_rfl) (fun _ _ _ h => h) (Or.inl ⟨by rfl, ?_⟩) hHeld ?_
            rotate_left
            · intro w hSw
              obtain ⟨x0, x1, x2, x3⟩ := (HX.out.below hSw hxl).c4
              clear hSw
              try dsimp only [tO12]
              go_simp
              try with_reducible rfl
            try simp only [tO12, Act.put, List.setIfInBounds_toArray, List.set_cons_zero, List.set_cons_succ]
            refine wpAnyH_take (i := 13) (oi := tO13) (v := ?_) rfl (by kernel_rfl) (by kernel_rfl) (by kernel_rfl) (fun _ _ _ h => h) (Or.inl ⟨by rfl, ?_⟩) hHeld ?_
            rotate_left
            · intro w hSw
              clear hSw
              try dsimp only [tO13]
              go_simp
              try with_reducible rfl
            try simp only [tO13, Act.put, List.setIfInBounds_toArray, List.set_cons_zero, List.set_cons_succ]
            refine wpAnyH_take (i := 14) (oi := tO14) (v := .bool false) rfl (by kernel_rfl) (by kernel_rfl) (by kernel_rfl) (fun _ _ _ h => h) (Or.inl ⟨by rfl, ?_⟩) hHeld ?_
            · intro w hSw
              clear hSw
              try dsimp only [tO14]
              go_simp
              rw [IntWalk.i64_in _ (by omega)]
              exact HSZI.out
            try simp only [tO14, Act.put, List.setIfInBounds_toArray, List.set_cons_zero, List.set_cons_succ]
            refine wpAnyH_take (i := 15) (oi := tO15) (v := ?_) rfl (by kernel_rfl) (by kernel_rfl) (by kernel_rfl) (fun _ _ _ h => h) (Or.inl ⟨by rfl, ?_⟩) hHeld ?_
            rotate_left
            · intro w hSw
              clear hSw
              try dsimp only [tO15]
              go_simp
              try with_reducible rfl
            try simp only [tO15, Act.put, List.setIfInBounds_toArray, List.set_cons_zero, List.set_cons_succ]
            refine wpAnyH_take (i := 16) (oi := tO16) (v := ?_) rfl (by kernel_rfl) (by kernel_rfl) (by kernel_rfl) (fun _ _ _ h => h) (Or.inl ⟨by rfl, ?_⟩) hHeld ?_
            rotate_left
            · intro w hSw
              clear hSw
              try dsimp only [tO16]
              go_simp
              try with_reducible rfl
            try simp only [tO16, Act.put, List.setIfInBounds_toArray, List.set_cons_zero, List.set_cons_succ]
            refine wpAnyH_take (i := 17) (oi := tO17) (v := ?_) rfl (by kernel_rfl) (by kernel_rfl) (by kernel_rfl) (fun _ _ _ h => h) (Or.inl ⟨by rfl, ?_⟩) hHeld ?_
            rotate_left
            · intro w hSw
              clear hSw
              try dsimp only [tO17]
              go_simp
              try with_reducible rfl
            try simp only [tO17, Act.put, List.setIfInBounds_toArray, List.set_cons_zero, List.set_cons_succ]
            refine wpAnyH_take (i := 18) (oi := tO18) (v := ?_) rfl (by kernel_rfl) (by kernel_rfl) (by kernel_rfl) (fun _ _ _ h => h) (Or.inl ⟨by rfl, ?_⟩) hHeld ?_
            rotate_left
            · intro w hSw
              clear hSw
              try dsimp only [tO18]
              go_simp
              try with_reducible rfl
            try simp only [tO18, Act.put, List.setIfInBounds_toArray, List.set_cons_zero, List.set_cons_succ]
            refine wpAnyH_take (i := 19) (oi := tO19) (v := ?_) rfl (by kernel_rfl) (by kernel_rfl) (by kernel_rfl) (fun _ _ _ h => h) (Or.inl ⟨by rfl, ?_⟩) hHeld ?_
            rotate_left
            · intro w hSw
              obtain ⟨x0, x1, x2, x3⟩ := (HX.out.below hSw hxl).c4
              clear hSw
              try dsimp only [tO19]
              go_simp
              try with_reducible rfl
            try simp only [tO19, Act.put, List.setIfInBounds_toArray, List.set_cons_zero, List.set_cons_succ]
            refine wpAnyH_take (i := 20) (oi := tO20) (v := ?_) rfl (by kernel_rfl) (by kernel_rfl) (by kernel_rfl) (fun _ _ _ h => h) (Or.inl ⟨by rfl, ?_⟩) hHeld ?_
            rotate_left
            · intro w hSw
              clear hSw
              try dsimp only [tO20]
              go_simp
              try with_reducible rfl
            try simp only [tO20, Act.put, List.setIfInBounds_toArray, List.set_cons_zero, List.set_cons_succ]
            refine wpAnyH_take (i := 21) (oi := tO21) (v := ?_) rfl (by kernel_rfl) (by kernel_rfl) (by kernel_rfl) (fun _ _ _ h => h) (Or.inl ⟨by rfl, ?_⟩) hHeld ?_
            rotate_left
            · intro w hSw
              clear hSw
              try dsimp only [tO21]
              go_simp
              try with_reducible rfl
            try simp only [tO21, Act.put, List.setIfInBounds_toArray, List.set_cons_zero, List.set_cons_succ]
            refine wpAnyH_take (i := 22) (oi := tO22) (v := ?_) rfl (by kernel_rfl) (by kernel_rfl) (by kernel_rfl) (fun _ _ _ h => h) (Or.inl ⟨by rfl, ?_⟩) hHeld ?_
            rotate_left
            · intro w hSw
              obtain ⟨x0, x1, x2, x3⟩ := (HX.out.below hSw hxl).c4
              clear hSw
              try dsimp only [tO22]
              go_simp
              try with_reducible rfl
            try simp only [tO22, Act.put, List.setIfInBounds_toArray, List.set_cons_zero, List.set_cons_succ]
            refine wpAnyH_ready (rs := [23]) (by as_aux_lemma => kernel_rfl) (by simp) ?_
            refine AllReadyH.cons (o := tO23) rfl (fun K hK => ?_) AllReadyH.nil
            refine wp_make0 (by rfl) _ _ rfl Z (by rfl) (by rfl) (by omega) ?_
            intro u1 HC hb
            refine hK.out _ _ (hHeld.trans (hb.mono hHeld.size)) (fun hHeld => ?_)
            clear hK K hb
            try simp only [Act.put, List.setIfInBounds_toArray, List.set_cons_zero, List.set_cons_succ]
            refine wpAnyH_ready (rs := [24]) (by as_aux_lemma => kernel_rfl) (by simp) ?_
            refine AllReadyH.cons (o := tO24) rfl (fun K hK => ?_) AllReadyH.nil
            refine wp_convb (by rfl) _ rfl _ Z (List.replicate Z 0) (by rfl) List.length_replicate.symm HC ?_
            refine hK.out _ _ hHeld (fun hHeld => ?_)
            clear hK K HC
            try simp only [Act.put, List.setIfInBounds_toArray, List.set_cons_zero, List.set_cons_succ]
            refine wpAnyH_take (i := 25) (oi := tO25) (v := ?_) rfl (by kernel_rfl) (by kernel_rfl) (by kernel_rfl) (fun _ _ _ h => h) (Or.inl ⟨by rfl, ?_⟩) hHeld ?_
            rotate_left
            · intro w hSw
              clear hSw
              try dsimp only [tO25]
              go_simp
              try with_reducible rfl
            try simp only [tO25, Act.put, List.setIfInBounds_toArray, List.set_cons_zero, List.set_cons_succ]
            refine wpAnyH_take (i := 26) (oi := tO26) (v := ?_) rfl (by kernel_rfl) (by kernel_rfl) (by kernel_rfl) (fun _ _ _ h => h) (Or.inl ⟨by rfl, ?_⟩) hHeld ?_
            rotate_left
            · intro w hSw
              clear hSw
              try dsimp only [tO26]
              go_simp
              try with_reducible rfl
            try simp only [tO26, Act.put, List.setIfInBounds_toArray, List.set_cons_zero, List.set_cons_succ]
            refine wpAnyH_done (by as_aux_lemma => kernel_rfl) ?_ _
            have HB6 := Lib.hid (HH5.out.bl.trans (hHeld.mono HH5.out.bl.size))
            have HH6 := Lib.hid (HH5.out.below hHeld)
            have HX6 := Lib.hid (HX.out.below hHeld hxl)
            clear hHeld
            by_cases hz : hop.extract 0 Z = noughts Z
            · have g4 : ((hop.extract 0 Z).toList == (⟨Array.replicate Z 0⟩ : ByteArray).toList) = true := toList_eq hz
              have g4' : (!((hop.extract 0 Z).toList == (⟨Array.replicate Z 0⟩ : ByteArray).toList)) = false := by rw [g4]; rfl
              have HG := Lib.hid (HR5.out hz)
              clear HR4 HR5 hz
              obtain ⟨x0, x1, x2, x3⟩ := HX6.out.c4
              rw [g4]
              go_wp2_with fail
              refine (rest_any _ t3 _ HH6.out.rd (by omega)).mono ?_
              rintro e w7 ⟨rfl, hw⟩
              have HH7 := Lib.hid (HH6.out.set ByteArray.empty)
              have HX7 := Lib.hid (HX6.out.setOther (p := ⟨w.heap.size, 1, none⟩) (by have := HH4L.out; show w5.heap.size ≠ w.heap.size; omega) (.string ByteArray.empty))
              rw [← hw] at HH7 HX7
              clear hw HH6 HX6 x0 x1 x2 x3
              go_wp2_with fail
              refine (contains_int A cap adds f _ (HI.out.below HH7.out.bl (Nat.le_refl _))).mono ?_
              rintro e w8 ⟨rfl, hw⟩
              rw [hw]
              clear hw
              go_wp2_with fail
              obtain ⟨b, hbe⟩ : ∃ b, b = hasI adds f := ⟨_, rfl⟩
              rw [← hbe] at HG ⊢
              clear hbe
              refine (decode_any t3 f b _ f1 f2 ht3).mono ?_
              rintro e w9 ⟨hb, hm⟩
              have HB9 := Lib.hid (HH7.out.bl.trans (hb.mono HH7.out.bl.size))
              have HX9 := Lib.hid (HX7.out.below hb HX7.out.lt)
              cases hd : decAll f b t3 with
              | none =>
                rw [hd] at hm HG
                obtain rfl : e = _ := hm
                clear hb hd
                go_wp2_with fail
                try simp only [Exit.inBlock, Exit.then]
                refine bodyPost_ret (results_tmp4 rfl _ _ _) rfl ?_
                exact TKPost.no HG.out rfl HB9.out
              | some L =>
                rw [hd] at hm HG
                obtain ⟨v, rfl, ho⟩ := hm
                obtain ⟨A2, c2, rfl⟩ := OwnM.form ho
                have HO := Lib.hid (ho.low HH7.out.bl.size)
                obtain ⟨x0, x1, x2, x3⟩ := HX9.out.c4
                clear hb hd ho
                go_wp2_with fail
                go_quiet (fail)
                go_wp2_with fail
                try simp only [Exit.inBlock, Exit.then]
                refine bodyPost_ret (results_tmp4 rfl _ _ _) rfl ?_
                exact TKPost.yes HG.out rfl HO.out (below_drewN HB9.out nq)
            · have g4 : ((hop.extract 0 Z).toList == (⟨Array.replicate Z 0⟩ : ByteArray).toList) = false := toList_ne hz
              have g4' : (!((hop.extract 0 Z).toList == (⟨Array.replicate Z 0⟩ : ByteArray).toList)) = true := by rw [g4]; rfl
              have HR := Lib.hid (HR4.out hz)
              clear HR4 HR5 hz
              rw [g4]
              go_wp2_with fail
              try simp only [Exit.inBlock, Exit.then]
              refine bodyPost_ret (results_tmp4 rfl _ _ _) rfl ?_
              exact TKPost.no HR.out rfl HB6.out
          · have g3 : ((hop.size : Int) == (Z : Int) + (SZ : Int)) = false := by rw [beq_eq_false_iff_ne]; omega
            have g3' : ((hop.size : Int) != (Z : Int) + (SZ : Int)) = true := by rw [bne, g3]; rfl
            have HSZI : Hid (¬ (hop.size : Int) = (Z : Int) + (SZ : Int)) := by
              show ¬ _
              omega
            have HR := Lib.hid (R3.out (by trivial) hsz)
            clear R3 R4 R5 hsz
            refine wp_region_held_drew (S := fun w' => Below (w5.alloc (.cells #[.int .u16 afi, .int .u8 safi, .int .i64 (Z : Nat), .int .i64 (SZ : Nat)] 55)).heap.size (w5.alloc (.cells #[.int .u16 afi, .int .u8 safi, .int .i64 (Z : Nat), .int .i64 (SZ : Nat)] 55)) w') (by kernel_rfl) (below_drewN (Below.refl _ _) 1) (fun hHeld => ?_)
            refine wpAnyH_take (i := 0) (oi := tO0) (v := ?_) rfl (by kernel_rfl) (by kernel_rfl) (by kernel_rfl) (fun _ _ _ h => h) (Or.inl ⟨by rfl, ?_⟩) hHeld ?_
            rotate_left
            · intro w hSw
              clear hSw
              try dsimp only [tO0]
              go_simp
              try with_reducible rfl
            try simp only [tO0, Act.put, List.setIfInBounds_toArray, List.set_cons_zero, List.set_cons_succ]
            refine wpAnyH_take (i := 1) (oi := tO1) (v := ?_) rfl (by kernel_rfl) (by kernel_rfl) (by kernel_rfl) (fun _ _ _ h => h) (Or.inl ⟨by rfl, ?_⟩) hHeld ?_
            rotate_left
            · intro w hSw
              clear hSw
              try dsimp only [tO1]
              go_simp
              try with_reducible rfl
            try simp only [tO1, Act.put, List.setIfInBounds_toArray, List.set_cons_zero, List.set_cons_succ]
            refine wpAnyH_take (i := 2) (oi := tO2) (v := ?_) rfl (by kernel_rfl) (by kernel_rfl) (by kernel_rfl) (fun _ _ _ h => h) (Or.inl ⟨by rfl, ?_⟩) hHeld ?_
            rotate_left
            · intro w hSw
              clear hSw
              try dsimp only [tO2]
              go_simp
              try with_reducible rfl
            try simp only [tO2, Act.put, List.setIfInBounds_toArray, List.set_cons_zero, List.set_cons_succ]
            refine wpAnyH_take (i := 3) (oi := tO3) (v := ?_) rfl (by kernel_rfl) (by kernel_rfl) (by kernel_rfl) (fun _ _ _ h => h) (Or.inl ⟨by rfl, ?_⟩) hHeld ?_
            rotate_left
            · intro w hSw
              clear hSw
              try dsimp only [tO3]
              go_simp
              try with_reducible rfl
            try simp only [tO3, Act.put, List.setIfInBounds_toArray, List.set_cons_zero, List.set_cons_succ]
            refine wpAnyH_take (i := 4) (oi := tO4) (v := ?_) rfl (by kernel_rfl) (by kernel_rfl) (by kernel_rfl) (fun _ _ _ h => h) (Or.inl ⟨by rfl, ?_⟩) hHeld ?_
            rotate_left
            · intro w hSw
              clear hSw
              try dsimp only [tO4]
              go_simp
              try with_reducible rfl
            try simp only [tO4, Act.put, List.setIfInBounds_toArray, List.set_cons_zero, List.set_cons_succ]
            refine wpAnyH_take (i := 5) (oi := tO5) (v := ?_) rfl (by kernel_rfl) (by kernel_rfl) (by kernel_rfl) (fun _ _ _ h => h) (Or.inl ⟨by rfl, ?_⟩) hHeld ?_
            rotate_left
            · intro w hSw
              clear hSw
              try dsimp only [tO5]
              go_simp
              try with_reducible rfl
            try simp only [tO5, Act.put, List.setIfInBounds_toArray, List.set_cons_zero, List.set_cons_succ]
            refine wpAnyH_take (i := 6) (oi := tO6) (v := ?_) rfl (by kernel_rfl) (by kernel_rfl) (by kernel_rfl) (fun _ _ _ h => h) (Or.inl ⟨by rfl, ?_⟩) hHeld ?_
            rotate_left
            · intro w hSw
              clear hSw
              try dsimp only [tO6]
              go_simp
              try with_reducible rfl
            try simp only [tO6, Act.put, List.setIfInBounds_toArray, List.set_cons_zero, List.set_cons_succ]
            refine wpAnyH_take (i := 7) (oi := tO7) (v := ?_) rfl (by kernel_rfl) (by kernel_rfl) (by kernel_rfl) (fun _ _ _ h => h) (Or.inl ⟨by rfl, ?_⟩) hHeld ?_
            rotate_left
            · intro w hSw
              clear hSw
              try dsimp only [tO7]
              go_simp
              try with_reducible rfl
            try simp only [tO7, Act.put, List.setIfInBounds_toArray, List.set_cons_zero, List.set_cons_succ]
            refine wpAnyH_take (i := 8) (oi := tO8) (v := ?_) rfl (by kernel_rfl) (by kernel_rfl) (by kernel_rfl) (fun _ _ _ h => h) (Or.inl ⟨by rfl, ?_⟩) hHeld ?_
            rotate_left
            · intro w hSw
              clear hSw
              try dsimp only [tO8]
              go_simp
              try with_reducible rfl
            try simp only [tO8, Act.put, List.setIfInBounds_toArray, List.set_cons_zero, List.set_cons_succ]
            refine wpAnyH_take (i := 9) (oi := tO9) (v := ?_) rfl (by kernel_rfl) (by kernel_rfl) (by kernel_rfl) (fun _ _ _ h => h) (Or.inl ⟨by rfl, ?_⟩) hHeld ?_
            rotate_left
            · intro w hSw
              clear hSw
              try dsimp only [tO9]
              go_simp
              try with_reducible rfl
            try simp only [tO9, Act.put, List.setIfInBounds_toArray, List.set_cons_zero, List.set_cons_succ]
            refine wpAnyH_take (i := 10) (oi := tO10) (v := ?_) rfl (by kernel_rfl) (by kernel_rfl) (by kernel_rfl) (fun _ _ _ h => h) (Or.inl ⟨by rfl, ?_⟩) hHeld ?_
            rotate_left
            · intro w hSw
              obtain ⟨x0, x1, x2, x3⟩ := (HX.out.below hSw hxl).c4
              clear hSw
              try dsimp only [tO10]
              go_simp
              try with_reducible rfl
            try simp only [tO10, Act.put, List.setIfInBounds_toArray, List.set_cons_zero, List.set_cons_succ]
            refine wpAnyH_take (i := 11) (oi := tO11) (v := ?_) rfl (by kernel_rfl) (by kernel_rfl) (by kernel_rfl) (fun _ _ _ h => h) (Or.inl ⟨by rfl, ?_⟩) hHeld ?_
            rotate_left
            · intro w hSw
              clear hSw
              try dsimp only [tO11]
              go_simp
              try with_reducible rfl
            try simp only [tO11, Act.put, List.setIfInBounds_toArray, List.set_cons_zero, List.set_cons_succ]
            refine wpAnyH_take (i := 12) (oi := tO12) (v := ?_) rfl (by kernel_rfl) (by kernel_rfl) (by kernel_rfl) (fun _ _ _ h => h) (Or.inl ⟨by rfl, ?_⟩) hHeld ?_
            rotate_left
            · intro w hSw
              obtain ⟨x0, x1, x2, x3⟩ := (HX.out.below hSw hxl).c4
              clear hSw
              try dsimp only [tO12]
              go_simp
              try with_reducible rfl
            try simp only [tO12, Act.put, List.setIfInBounds_toArray, List.set_cons_zero, List.set_cons_succ]
            refine wpAnyH_take (i := 13) (oi := tO13) (v := ?_) rfl (by kernel_rfl) (by kernel_rfl) (by kernel_rfl) (fun _ _ _ h => h) (Or.inl ⟨by rfl, ?_⟩) hHeld ?_
            rotate_left
            · intro w hSw
              clear hSw
              try dsimp only [tO13]
              go_simp
              try with_reducible rfl
            try simp only [tO13, Act.put, List.setIfInBounds_toArray, List.set_cons_zero, List.set_cons_succ]
            refine wpAnyH_take (i := 14) (oi := tO14) (v := .bool true) rfl (by kernel_rfl) (by kernel_rfl) (by kernel_rfl) (fun _ _ _ h => h) (Or.inl ⟨by rfl, ?_⟩) hHeld ?_
            · intro w hSw
              clear hSw
              try dsimp only [tO14]
              go_simp
              rw [IntWalk.i64_in _ (by omega)]
              exact HSZI.out
            try simp only [tO14, Act.put, List.setIfInBounds_toArray, List.set_cons_zero, List.set_cons_succ]
            refine wpAnyH_take (i := 15) (oi := tO15) (v := ?_) rfl (by kernel_rfl) (by kernel_rfl) (by kernel_rfl) (fun _ _ _ h => h) (Or.inl ⟨by rfl, ?_⟩) hHeld ?_
            rotate_left
            · intro w hSw
              clear hSw
              try dsimp only [tO15]
              go_simp
              try with_reducible rfl
            try simp only [tO15, Act.put, List.setIfInBounds_toArray, List.set_cons_zero, List.set_cons_succ]
            refine wpAnyH_take (i := 16) (oi := tO16) (v := ?_) rfl (by kernel_rfl) (by kernel_rfl) (by kernel_rfl) (fun _ _ _ h => h) (Or.inl ⟨by rfl, ?_⟩) hHeld ?_
            rotate_left
            · intro w hSw
              clear hSw
              try dsimp only [tO16]
              go_simp
              try with_reducible rfl
            try simp only [tO16, Act.put, List.setIfInBounds_toArray, List.set_cons_zero, List.set_cons_succ]
            refine wpAnyH_take (i := 17) (oi := tO17) (v := undef) rfl (by kernel_rfl) (by kernel_rfl) (by kernel_rfl) (fun _ _ _ h => h) (Or.inr ⟨by rfl, rfl⟩) hHeld ?_
            try simp only [tO17, Act.put, List.setIfInBounds_toArray, List.set_cons_zero, List.set_cons_succ]
            refine wpAnyH_take (i := 18) (oi := tO18) (v := undef) rfl (by kernel_rfl) (by kernel_rfl) (by kernel_rfl) (fun _ _ _ h => h) (Or.inr ⟨by rfl, rfl⟩) hHeld ?_
            try simp only [tO18, Act.put, List.setIfInBounds_toArray, List.set_cons_zero, List.set_cons_succ]
            refine wpAnyH_take (i := 19) (oi := tO19) (v := undef) rfl (by kernel_rfl) (by kernel_rfl) (by kernel_rfl) (fun _ _ _ h => h) (Or.inr ⟨by rfl, rfl⟩) hHeld ?_
            try simp only [tO19, Act.put, List.setIfInBounds_toArray, List.set_cons_zero, List.set_cons_succ]
            refine wpAnyH_take (i := 20) (oi := tO20) (v := undef) rfl (by kernel_rfl) (by kernel_rfl) (by kernel_rfl) (fun _ _ _ h => h) (Or.inr ⟨by rfl, rfl⟩) hHeld ?_
            try simp only [tO20, Act.put, List.setIfInBounds_toArray, List.set_cons_zero, List.set_cons_succ]
            refine wpAnyH_take (i := 21) (oi := tO21) (v := undef) rfl (by kernel_rfl) (by kernel_rfl) (by kernel_rfl) (fun _ _ _ h => h) (Or.inr ⟨by rfl, rfl⟩) hHeld ?_
            try simp only [tO21, Act.put, List.setIfInBounds_toArray, List.set_cons_zero, List.set_cons_succ]
            refine wpAnyH_take (i := 22) (oi := tO22) (v := undef) rfl (by kernel_rfl) (by kernel_rfl) (by kernel_rfl) (fun _ _ _ h => h) (Or.inr ⟨by rfl, rfl⟩) hHeld ?_
            try simp only [tO22, Act.put, List.setIfInBounds_toArray, List.set_cons_zero, List.set_cons_succ]
            refine wpAnyH_take (i := 23) (oi := tO23) (v := undef) rfl (by kernel_rfl) (by kernel_rfl) (by kernel_rfl) (fun _ _ _ h => h) (Or.inr ⟨by rfl, rfl⟩) hHeld ?_
            try simp only [tO23, Act.put, List.setIfInBounds_toArray, List.set_cons_zero, List.set_cons_succ]
            refine wpAnyH_take (i := 24) (oi := tO24) (v := undef) rfl (by kernel_rfl) (by kernel_rfl) (by kernel_rfl) (fun _ _ _ h => h) (Or.inr ⟨by rfl, rfl⟩) hHeld ?_
            try simp only [tO24, Act.put, List.setIfInBounds_toArray, List.set_cons_zero, List.set_cons_succ]
            refine wpAnyH_take (i := 25) (oi := tO25) (v := undef) rfl (by kernel_rfl) (by kernel_rfl) (by kernel_rfl) (fun _ _ _ h => h) (Or.inr ⟨by rfl, rfl⟩) hHeld ?_
            try simp only [tO25, Act.put, List.setIfInBounds_toArray, List.set_cons_zero, List.set_cons_succ]
            refine wpAnyH_take (i := 26) (oi := tO26) (v := ?_) rfl (by kernel_rfl) (by kernel_rfl) (by kernel_rfl) (fun _ _ _ h => h) (Or.inl ⟨by rfl, ?_⟩) hHeld ?_
            rotate_left
            · intro w hSw
              clear hSw
              try dsimp only [tO26]
              go_simp
              try with_reducible rfl
            try simp only [tO26, Act.put, List.setIfInBounds_toArray, List.set_cons_zero, List.set_cons_succ]
            refine wpAnyH_done (by as_aux_lemma => kernel_rfl) ?_ _
            have HB6 := Lib.hid (HH5.out.bl.trans (hHeld.mono HH5.out.bl.size))
            have HH6 := Lib.hid (HH5.out.below hHeld)
            have HX6 := Lib.hid (HX.out.below hHeld hxl)
            clear hHeld
            go_wp2_with fail
            try simp only [Exit.inBlock, Exit.then]
            refine bodyPost_ret (results_tmp4 rfl _ _ _) rfl ?_
            exact TKPost.no HR.out rfl HB6.out
end Go.Proofs.Ytocbacpbckejdaa
