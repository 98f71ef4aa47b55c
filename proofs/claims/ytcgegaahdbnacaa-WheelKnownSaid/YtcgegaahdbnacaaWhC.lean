/-
  Timers: the wheel's keys, the wheel in memory, contracts of none, named, New, At, Len. Conditions: sizes.
-/
import Derived.Test.YtcgegaahdbnacaaMapsU
import Derived.Test.YtcgegaahdbnacaaWhB
import Derived.Test.YtcgegaahdbnacaaOwn
import Derived.WalkSpells
import Derived.WalkLawsBesides
import Derived.Deep.RegionHeld3
import Derived.LoopTactic
set_option linter.unusedVariables false
set_option linter.unusedSimpArgs false
namespace Go.Proofs.Ytcgegaahdbnacaa
open Go.RowKit Go.MapKept
open Go.Maps (Keyed)

def WK.v (k : WK) : Value := .agg #[.int .i64 k.kind, .string k.peer, .int .i64 k.fam]
structure WK.Ok (k : WK) : Prop where
  peer : k.peer.size ≤ 9223372036854775807
  kind : -9223372036854775808 ≤ k.kind ∧ k.kind ≤ 9223372036854775807
  fam : -9223372036854775808 ≤ k.fam ∧ k.fam ≤ 9223372036854775807
theorem WK.v_inj {a b : WK} (h : a.v = b.v) : a = b := by
  cases a; cases b
  simp [WK.v] at h
  simp [h]
theorem wkRow : 30 < Try.prog.types.size := by decide +kernel
theorem wkWide : (match Try.prog.underlying 30 with | some (.array _ _) | some (.struct _) => true | _ => false) = true := by kernel_rfl
theorem wkLaw : Keyed Try.prog 30 := Keyed.of_law (deep_law_laid laidOut (m := 5) (by omega) wkRow (by kernel_rfl) wkWide)
theorem wk_key (k : WK) (h : k.Ok) : ∃ l, keyOf Try.prog 30 k.v = some l := by
  obtain ⟨h1, h2, h3⟩ := h
  have w1 : (Lit.int .i64 k.kind).wf = true := by simp [Lit.wf, IntKind.min, IntKind.max, IntKind.signed, IntKind.bits]; omega
  have w3 : (Lit.int .i64 k.fam).wf = true := by simp [Lit.wf, IntKind.min, IntKind.max, IntKind.signed, IntKind.bits]; omega
  have m1 : k.peer.size ≤ maxLen := by unfold maxLen; omega
  have kt : Try.prog.keyType 30 = true := by kernel_rfl
  have hf : k.v.formed Try.prog 30 = true := by
    unfold WK.v
    kernel_rfl
  have hc1 : Try.prog.cellsOf 30 = 3 := by kernel_rfl
  have hc3 : Try.prog.cellsOf 9 = 1 := by kernel_rfl
  have hc4 : Try.prog.cellsOf 3 = 1 := by kernel_rfl
  have hv : k.v.cells.toList = [.int .i64 k.kind, .string k.peer, .int .i64 k.fam] := rfl
  have hk : ∃ ls, Try.prog.keyLits (Try.prog.types.size + 1) 30 k.v.cells.toList = some ls := by
    rw [hv]
    obtain ⟨n, hn⟩ : ∃ n, Try.prog.types.size = n + 2 := ⟨Try.prog.types.size - 2, by have : 2 ≤ Try.prog.types.size := (by decide +kernel); omega⟩
    rw [hn]
    simp (decide := true) [Program.keyLits, Try.underlying30, Try.underlying9, Try.underlying3, hc1, hc3, hc4, w1, w3, m1]
  obtain ⟨ls, hls⟩ := hk
  refine ⟨.string (keyBytes ls), ?_⟩
  unfold keyOf
  rw [Try.underlying30]
  simp only [kt, hf, Bool.and_self, if_true, hls, Option.map_some]

/-- a block's cells, later -/
def CellsAt (w : World) (b : Nat) (cs : Array Value) (T : TypeId) : Prop := w.heap[b]? = some (.cells cs T (0, 0))
section
variable {w w' : World} {b : Nat} {cs : Array Value} {T : TypeId}
theorem CellsAt.lt (h : CellsAt w b cs T) : b < w.heap.size := (Array.getElem?_eq_some_iff.1 h).1
theorem CellsAt.new (w : World) (cs : Array Value) (T : TypeId) : CellsAt (w.alloc (.cells cs T)) w.heap.size cs T := heap_alloc_new w _
theorem CellsAt.below {B : Nat} (h : CellsAt w b cs T) (hg : Below B w w') (hb : b < B) : CellsAt w' b cs T := (hg.block b hb).trans h
theorem CellsAt.alloc (h : CellsAt w b cs T) (o : Obj) : CellsAt (w.alloc o) b cs T :=
  h.below ((Below.refl w.heap.size w).alloc (Nat.le_refl _) o) h.lt
theorem CellsAt.drew (h : CellsAt w b cs T) (n : Nat) : CellsAt (w.drewN n) b cs T := h
theorem CellsAt.row {m : Nat} (h : CellsAt w b cs T) (hg : w.grownBy w' (some m)) (hb : b ≠ m) : CellsAt w' b cs T := (hg.block b h.lt (fun e => hb (by injection e))).trans h
theorem CellsAt.own {row : Option Nat} (h : CellsAt w b cs T) (hg : w.grownBy w' row) (hb : some b ≠ row) : CellsAt w' b cs T := (hg.block b h.lt hb).trans h
theorem CellsAt.grownX {X : Nat → Prop} (h : CellsAt w b cs T) (hg : GrownX X w w') (hb : ¬ X b) : CellsAt w' b cs T := (hg.block b h.lt hb).trans h
theorem CellsAt.c (h : CellsAt w b cs T) (i : Nat) : w.cell? ⟨b, i, none⟩ = cs[i]? := cell_of_row w b i _ _ _ h
theorem CellsAt.c1 {x : Value} (h : CellsAt w b #[x] T) : w.cell? ⟨b, 0, none⟩ = some x := (h.c 0).trans rfl
theorem CellsAt.c2 {x y : Value} (h : CellsAt w b #[x, y] T) : w.cell? ⟨b, 0, none⟩ = some x ∧ w.cell? ⟨b, 1, none⟩ = some y := ⟨(h.c 0).trans rfl, (h.c 1).trans rfl⟩
theorem CellsAt.c3 {x y z : Value} (h : CellsAt w b #[x, y, z] T) : w.cell? ⟨b, 0, none⟩ = some x ∧ w.cell? ⟨b, 1, none⟩ = some y ∧ w.cell? ⟨b, 2, none⟩ = some z :=
  ⟨(h.c 0).trans rfl, (h.c 1).trans rfl, (h.c 2).trans rfl⟩
theorem CellsAt.c4 {x y z u : Value} (h : CellsAt w b #[x, y, z, u] T) : w.cell? ⟨b, 0, none⟩ = some x ∧ w.cell? ⟨b, 1, none⟩ = some y ∧ w.cell? ⟨b, 2, none⟩ = some z ∧ w.cell? ⟨b, 3, none⟩ = some u :=
  ⟨(h.c 0).trans rfl, (h.c 1).trans rfl, (h.c 2).trans rfl, (h.c 3).trans rfl⟩
theorem CellsAt.c5 {x y z u v : Value} (h : CellsAt w b #[x, y, z, u, v] T) : w.cell? ⟨b, 0, none⟩ = some x ∧ w.cell? ⟨b, 1, none⟩ = some y ∧ w.cell? ⟨b, 2, none⟩ = some z ∧ w.cell? ⟨b, 3, none⟩ = some u ∧ w.cell? ⟨b, 4, none⟩ = some v :=
  ⟨(h.c 0).trans rfl, (h.c 1).trans rfl, (h.c 2).trans rfl, (h.c 3).trans rfl, (h.c 4).trans rfl⟩
end

/-- the timers as pairs of the map -/
def tmL (S : List Tm) : List (Value × Value) := S.map fun p => (p.k.v, .int .u64 (p.at_ : Nat))
theorem tmL_at {S : List Tm} {i : Nat} {p : Tm} (h : S[i]? = some p) : (tmL S)[i]? = some (p.k.v, .int .u64 (p.at_ : Nat)) := by
  unfold tmL
  rw [List.getElem?_map, h]
  rfl
theorem tmL_no {S : List Tm} {k : WK} (h : ∀ p ∈ S, p.k ≠ k) : ∀ p ∈ tmL S, p.1 ≠ k.v := fun p hp e => by
  obtain ⟨x, hx, rfl⟩ := List.mem_map.1 hp
  exact h x hx (WK.v_inj e)
theorem tmL_back {S : List Tm} {i : Nat} {key v : Value} (h : (tmL S)[i]? = some (key, v)) : ∃ p, S[i]? = some p ∧ key = p.k.v ∧ v = .int .u64 (p.at_ : Nat) := by
  unfold tmL at h
  rw [List.getElem?_map] at h
  cases hs : S[i]? with
  | none => rw [hs] at h; cases h
  | some p =>
    rw [hs] at h
    simp only [Option.map_some, Option.some.injEq, Prod.mk.injEq] at h
    exact ⟨p, rfl, h.1.symm, h.2.symm⟩
theorem tmL_erase (S : List Tm) (j : Nat) : (tmL S).eraseIdx j = tmL (S.eraseIdx j) := by unfold tmL; rw [← Go.ChangeMaps.map_eraseIdx]
theorem tmL_snoc (S : List Tm) (k : WK) (n : Nat) : tmL S ++ [(k.v, .int .u64 (n : Nat))] = tmL (S ++ [⟨n, k⟩]) := by simp [tmL]
theorem tmL_set (S : List Tm) (j : Nat) (k : WK) (n : Nat) : (tmL S).set j (k.v, .int .u64 (n : Nat)) = tmL (S.set j ⟨n, k⟩) := by
  unfold tmL
  rw [List.map_set]
/-- a wheel in memory -/
structure WheelAt (w : World) (b m : Nat) (S : List Tm) : Prop where
  blk : CellsAt w b #[.map (some m)] 50
  map : MapAt Try.prog 30 w m (tmL S)
  ne : b ≠ m
  ok : ∀ p ∈ S, p.k.Ok ∧ p.at_ ≤ 1099511627776
  len : S.length ≤ 1024
section
variable {w w' : World} {b m : Nat} {S : List Tm}
theorem WheelAt.lt (h : WheelAt w b m S) : b < w.heap.size ∧ m < w.heap.size := ⟨h.blk.lt, h.map.lt⟩
theorem WheelAt.keep (h : WheelAt w b m S) (hk : ∀ i, i < w.heap.size → w'.heap[i]? = w.heap[i]?) : WheelAt w' b m S :=
  { h with blk := (hk b h.blk.lt).trans h.blk, map := h.map.keep (hk m h.map.lt) }
theorem WheelAt.below {B : Nat} (h : WheelAt w b m S) (hb : Below B w w') (hB : w.heap.size ≤ B) : WheelAt w' b m S :=
  h.keep fun i hi => hb.block i (Nat.lt_of_lt_of_le hi hB)
theorem WheelAt.drew (h : WheelAt w b m S) (n : Nat) : WheelAt (w.drewN n) b m S := h.keep fun i hi => rfl
theorem WheelAt.alloc (h : WheelAt w b m S) (o : Obj) : WheelAt (w.alloc o) b m S := h.below ((Below.refl _ _).alloc (Nat.le_refl _) o) (Nat.le_refl _)
theorem WheelAt.grownX {X : Nat → Prop} (h : WheelAt w b m S) (hg : GrownX X w w') (hb : ¬ X b) (hm : ¬ X m) : WheelAt w' b m S :=
  { h with blk := h.blk.grownX hg hb, map := h.map.grownX hg hm }
theorem WheelAt.keys (h : WheelAt w b m S) : S.Pairwise (fun p q => p.k ≠ q.k) := by
  have := h.map.apart
  unfold tmL at this
  rw [List.pairwise_map] at this
  exact this.imp (fun hne e => hne (by simp only [e]))
end
theorem key_one {S : List Tm} (h : S.Pairwise (fun p q => p.k ≠ q.k)) {i j : Nat} {p q : Tm} (hi : S[i]? = some p) (hj : S[j]? = some q) (e : p.k = q.k) : i = j := by
  obtain ⟨a1, a2⟩ := List.getElem?_eq_some_iff.1 hi
  obtain ⟨b1, b2⟩ := List.getElem?_eq_some_iff.1 hj
  rcases Nat.lt_trichotomy i j with hl | he | hg
  · have := List.pairwise_iff_getElem.1 h i j a1 b1 hl
    rw [a2, b2] at this
    exact absurd e this
  · exact he
  · have := List.pairwise_iff_getElem.1 h j i b1 a1 hg
    rw [a2, b2] at this
    exact absurd e.symm this
theorem zero_u64 (w : World) : (zeroValue 27).run Try.prog w = .ok (.int .u64 0) w := by kernel_rfl
theorem zero_wk (w : World) : (zeroValue 30).run Try.prog w = .ok (.agg #[.int .i64 0, .string ⟨#[]⟩, .int .i64 0]) w := by kernel_rfl

theorem wnone_any (b m : Nat) (w : World) (h : w.cell? ⟨b, 0, none⟩ = some (.map (some m))) : Calls Try.prog 29 #[.pointer (some ⟨b, 0, none⟩)] w fun e w' => e = .returned (.bool false) ∧ w' = w := by
  have q1 := fun (w : World) (r : Option Nat) => run_eql_map_nil (P := Try.prog) w 48 _ _ r Try.underlying48
  go_enter Try.func29, Try.ntmps29
  go_wp2_with fail
  go_ret
  exact ⟨rfl, rfl⟩
theorem wnone_nil (w : World) : Calls Try.prog 29 #[.pointer none] w fun e w' => e = .returned (.bool true) ∧ w' = w := by
  go_enter Try.func29, Try.ntmps29
  go_wp2_with fail
  go_ret
  exact ⟨rfl, rfl⟩
theorem wnone_empty (b : Nat) (w : World) (h : w.cell? ⟨b, 0, none⟩ = some (.map none)) : Calls Try.prog 29 #[.pointer (some ⟨b, 0, none⟩)] w fun e w' => e = .returned (.bool true) ∧ w' = w := by
  have q1 := fun (w : World) (r : Option Nat) => run_eql_map_nil (P := Try.prog) w 48 _ _ r Try.underlying48
  go_enter Try.func29, Try.ntmps29
  go_wp2_with fail
  go_ret
  exact ⟨rfl, rfl⟩
theorem wnew_any (w : World) : Calls Try.prog 16 #[] w fun e w' => e = .returned (.pointer (some ⟨w.heap.size + 1, 0, none⟩)) ∧ WheelAt w' (w.heap.size + 1) w.heap.size [] ∧ Below w.heap.size w w' ∧ w'.heap.size = w.heap.size + 2 := by
  have hmm := @run_makeMap Try.prog
  go_enter Try.func16, Try.ntmps16
  go_wp2_with fail
  go_ret
  refine ⟨rfl, ⟨?_, ?_, by omega, by simp, by simp⟩, ?_, by simp⟩
  · have := CellsAt.new (w.alloc (.map #[] 0)) #[.map (some w.heap.size)] 50
    simpa using this
  · exact (MapAt.new w).alloc _
  · exact ((Below.refl _ _).alloc (Nat.le_refl _) _).alloc (by simp) _
theorem wlen_any (w : World) (b m : Nat) (S : List Tm) (h : WheelAt w b m S) : Calls Try.prog 9 #[.pointer (some ⟨b, 0, none⟩)] w fun e w' => e = .returned (.int .i64 S.length) ∧ w' = w := by
  have c0 := h.blk.c1
  have hl := h.map.len_ (t := 48) Try.underlying48 3
  have e1 : (tmL S).length = S.length := by simp [tmL]
  rw [e1] at hl
  clear e1
  go_enter Try.func9, Try.ntmps9
  go_wp2_with fail
  refine (wnone_any b m _ c0).mono ?_
  rintro e w1 ⟨rfl, rfl⟩
  go_wp2_with fail
  go_ret
  exact ⟨rfl, rfl⟩

set_option maxHeartbeats 1000000 in
theorem wat_some (w : World) (b m j : Nat) (S : List Tm) (p : Tm) (h : WheelAt w b m S) (hj : S[j]? = some p) :
    Calls Try.prog 12 #[.pointer (some ⟨b, 0, none⟩), p.k.v] w fun e w' => e = .returned (.tuple #[.int .u64 p.at_, .bool true]) ∧ Below w.heap.size w w' := by
  obtain ⟨n, k⟩ := p
  obtain ⟨kl, hkl⟩ := wk_key k (h.ok _ (List.mem_of_getElem? hj)).1
  have lb := h.lt.1
  have hA := Below.alloc (Below.refl w.heap.size w) (Nat.le_refl _) (.cells #[.int .i64 k.kind, .string k.peer, .int .i64 k.fam] 30)
  have HL := Lib.hid (h.below hA (Nat.le_refl _))
  have HK := Lib.hid (CellsAt.new w #[.int .i64 k.kind, .string k.peer, .int .i64 k.fam] 30)
  have HA := Lib.hid hA
  have HJ := Lib.hid hj
  have HKL := Lib.hid hkl
  clear hA hj hkl h
  unfold WK.v
  generalize hw0 : w.alloc (.cells #[.int .i64 k.kind, .string k.peer, .int .i64 k.fam] 30) = w0 at HL HK HA
  have c0 := HL.out.blk.c1
  obtain ⟨k0, k1, k2⟩ := HK.out.c3
  go_enter Try.func12, Try.ntmps12
  go_wp2_with fail
  clear hw0
  refine (wnone_any b m _ c0).mono ?_
  rintro e w1 ⟨rfl, rfl⟩
  have hlk := fun nd => (HL.out.map.drew nd).lookup_some (t := 48) wkLaw Try.underlying48 (zero_u64 _) HKL.out (tmL_at HJ.out)
  unfold WK.v at hlk
  go_wp2_with fail
  refine wp_region_held_drew (S := fun w' => ∃ n, w' = w1.drewN n) (by kernel_rfl) (⟨1, rfl⟩) (fun hHeld => ?_)
  refine wpAnyH_take (i := 0) (oi := { dst := some 11, op := Op.move (Operand.tmp 0), type := 23, pos := "wheel.go:61", after := #[], guard := none }) (v := ?_) rfl (by kernel_rfl) (by kernel_rfl) (by kernel_rfl) (fun _ _ _ h => h) (Or.inl ⟨by rfl, ?_⟩) hHeld ?_
  rotate_left
  · intro w hSw
    obtain ⟨nd, rfl⟩ := hSw
    go_simp
    try with_reducible rfl
  try simp only [Act.put, List.setIfInBounds_toArray, List.set_cons_zero, List.set_cons_succ]
  refine wpAnyH_take (i := 1) (oi := { dst := some 12, op := Op.nilCheck (Operand.tmp 11), type := 0, pos := "wheel.go:61", after := #[{ on := 0, ground := Ground.data }], guard := none }) (v := ?_) rfl (by kernel_rfl) (by kernel_rfl) (by kernel_rfl) (fun _ _ _ h => h) (Or.inl ⟨by rfl, ?_⟩) hHeld ?_
  rotate_left
  · intro w hSw
    obtain ⟨nd, rfl⟩ := hSw
    go_simp
    try with_reducible rfl
  try simp only [Act.put, List.setIfInBounds_toArray, List.set_cons_zero, List.set_cons_succ]
  refine wpAnyH_take (i := 2) (oi := { dst := some 13, op := Op.fieldAddr 50 (Operand.tmp 12) 0, type := 0, pos := "wheel.go:61", after := #[{ on := 1, ground := Ground.data }], guard := none }) (v := ?_) rfl (by kernel_rfl) (by kernel_rfl) (by kernel_rfl) (fun _ _ _ h => h) (Or.inl ⟨by rfl, ?_⟩) hHeld ?_
  rotate_left
  · intro w hSw
    obtain ⟨nd, rfl⟩ := hSw
    go_simp
    try with_reducible rfl
  try simp only [Act.put, List.setIfInBounds_toArray, List.set_cons_zero, List.set_cons_succ]
  refine wpAnyH_take (i := 3) (oi := { dst := some 14, op := Op.load 48 (Operand.tmp 13), type := 48, pos := "wheel.go:61", after := #[{ on := 2, ground := Ground.data }], guard := none }) (v := ?_) rfl (by kernel_rfl) (by kernel_rfl) (by kernel_rfl) (fun _ _ _ h => h) (Or.inl ⟨by rfl, ?_⟩) hHeld ?_
  rotate_left
  · intro w hSw
    obtain ⟨nd, rfl⟩ := hSw
    go_simp
    try with_reducible rfl
  try simp only [Act.put, List.setIfInBounds_toArray, List.set_cons_zero, List.set_cons_succ]
  refine wpAnyH_take (i := 4) (oi := { dst := some 15, op := Op.load 30 (Operand.tmp 3), type := 30, pos := "wheel.go:61", after := #[], guard := none }) (v := ?_) rfl (by kernel_rfl) (by kernel_rfl) (by kernel_rfl) (fun _ _ _ h => h) (Or.inl ⟨by rfl, ?_⟩) hHeld ?_
  rotate_left
  · intro w hSw
    obtain ⟨nd, rfl⟩ := hSw
    go_simp
    try with_reducible rfl
  try simp only [Act.put, List.setIfInBounds_toArray, List.set_cons_zero, List.set_cons_succ]
  refine wpAnyH_take (i := 5) (oi := { dst := some 16, op := Op.lookup 48 (Operand.tmp 14) (Operand.tmp 15) true, type := 36, pos := "wheel.go:61", after := #[{ on := 3, ground := Ground.data }, { on := 4, ground := Ground.data }], guard := none }) (v := ?_) rfl (by kernel_rfl) (by kernel_rfl) (by kernel_rfl) (fun _ _ _ h => h) (Or.inl ⟨by rfl, ?_⟩) hHeld ?_
  rotate_left
  · intro w hSw
    obtain ⟨nd, rfl⟩ := hSw
    go_simp
    try with_reducible rfl
  try simp only [Act.put, List.setIfInBounds_toArray, List.set_cons_zero, List.set_cons_succ]
  refine wpAnyH_take (i := 6) (oi := { dst := some 10, op := Op.move (Operand.tmp 16), type := 36, pos := "wheel.go:61", after := #[{ on := 5, ground := Ground.data }], guard := none }) (v := ?_) rfl (by kernel_rfl) (by kernel_rfl) (by kernel_rfl) (fun _ _ _ h => h) (Or.inl ⟨by rfl, ?_⟩) hHeld ?_
  rotate_left
  · intro w hSw
    obtain ⟨nd, rfl⟩ := hSw
    go_simp
    try with_reducible rfl
  try simp only [Act.put, List.setIfInBounds_toArray, List.set_cons_zero, List.set_cons_succ]
  refine wpAnyH_take (i := 7) (oi := { dst := some 17, op := Op.extract (Operand.tmp 10) 0, type := 27, pos := "wheel.go:61", after := #[{ on := 6, ground := Ground.data }], guard := none }) (v := ?_) rfl (by kernel_rfl) (by kernel_rfl) (by kernel_rfl) (fun _ _ _ h => h) (Or.inl ⟨by rfl, ?_⟩) hHeld ?_
  rotate_left
  · intro w hSw
    obtain ⟨nd, rfl⟩ := hSw
    go_simp
    try with_reducible rfl
  try simp only [Act.put, List.setIfInBounds_toArray, List.set_cons_zero, List.set_cons_succ]
  refine wpAnyH_take (i := 8) (oi := { dst := some 18, op := Op.extract (Operand.tmp 10) 1, type := 4, pos := "wheel.go:61", after := #[{ on := 6, ground := Ground.data }, { on := 9, ground := Ground.gcOnly Departure.lateStores }], guard := none }) (v := ?_) rfl (by kernel_rfl) (by kernel_rfl) (by kernel_rfl) (fun _ _ _ h => h) (Or.inl ⟨by rfl, ?_⟩) hHeld ?_
  rotate_left
  · intro w hSw
    obtain ⟨nd, rfl⟩ := hSw
    go_simp
    try with_reducible rfl
  try simp only [Act.put, List.setIfInBounds_toArray, List.set_cons_zero, List.set_cons_succ]
  refine wpAnyH_take (i := 9) (oi := { dst := some 6, op := Op.assign (Operand.tmp 17), type := 27, pos := "wheel.go:61", after := #[{ on := 7, ground := Ground.data }, { on := 0, ground := Ground.phase }, { on := 1, ground := Ground.phase }, { on := 2, ground := Ground.phase }, { on := 3, ground := Ground.phase }, { on := 4, ground := Ground.phase }, { on := 5, ground := Ground.phase }, { on := 6, ground := Ground.phase }, { on := 7, ground := Ground.phase }, { on := 8, ground := Ground.textOnly Departure.lateStores }], guard := none }) (v := ?_) rfl (by kernel_rfl) (by kernel_rfl) (by kernel_rfl) (fun _ _ _ h => h) (Or.inl ⟨by rfl, ?_⟩) hHeld ?_
  rotate_left
  · intro w hSw
    obtain ⟨nd, rfl⟩ := hSw
    go_simp
    try with_reducible rfl
  try simp only [Act.put, List.setIfInBounds_toArray, List.set_cons_zero, List.set_cons_succ]
  refine wpAnyH_take (i := 10) (oi := { dst := some 7, op := Op.assign (Operand.tmp 18), type := 4, pos := "wheel.go:61", after := #[{ on := 8, ground := Ground.data }, { on := 9, ground := Ground.chain }, { on := 0, ground := Ground.phase }, { on := 1, ground := Ground.phase }, { on := 2, ground := Ground.phase }, { on := 3, ground := Ground.phase }, { on := 4, ground := Ground.phase }, { on := 5, ground := Ground.phase }, { on := 6, ground := Ground.phase }, { on := 7, ground := Ground.phase }, { on := 8, ground := Ground.phase }, { on := 9, ground := Ground.phase }], guard := none }) (v := ?_) rfl (by kernel_rfl) (by kernel_rfl) (by kernel_rfl) (fun _ _ _ h => h) (Or.inl ⟨by rfl, ?_⟩) hHeld ?_
  rotate_left
  · intro w hSw
    obtain ⟨nd, rfl⟩ := hSw
    go_simp
    try with_reducible rfl
  try simp only [Act.put, List.setIfInBounds_toArray, List.set_cons_zero, List.set_cons_succ]
  refine wpAnyH_done (by kernel_rfl) ?_ _
  clear hHeld hlk
  go_wp2_with fail
  go_ret2
  exact ⟨rfl, below_drewN HA.out 1⟩
set_option maxHeartbeats 1000000 in
theorem wat_none (w : World) (b m : Nat) (S : List Tm) (k : WK) (h : WheelAt w b m S) (hk : k.Ok) (hj : ∀ p ∈ S, p.k ≠ k) :
    Calls Try.prog 12 #[.pointer (some ⟨b, 0, none⟩), k.v] w fun e w' => e = .returned (.tuple #[.int .u64 0, .bool false]) ∧ Below w.heap.size w w' := by
  obtain ⟨kl, hkl⟩ := wk_key k hk
  have lb := h.lt.1
  have hA := Below.alloc (Below.refl w.heap.size w) (Nat.le_refl _) (.cells #[.int .i64 k.kind, .string k.peer, .int .i64 k.fam] 30)
  have HL := Lib.hid (h.below hA (Nat.le_refl _))
  have HK := Lib.hid (CellsAt.new w #[.int .i64 k.kind, .string k.peer, .int .i64 k.fam] 30)
  have HA := Lib.hid hA
  have HJ := Lib.hid hj
  have HKL := Lib.hid hkl
  clear hA hj hkl h hk
  unfold WK.v
  generalize hw0 : w.alloc (.cells #[.int .i64 k.kind, .string k.peer, .int .i64 k.fam] 30) = w0 at HL HK HA
  have c0 := HL.out.blk.c1
  obtain ⟨k0, k1, k2⟩ := HK.out.c3
  go_enter Try.func12, Try.ntmps12
  go_wp2_with fail
  clear hw0
  refine (wnone_any b m _ c0).mono ?_
  rintro e w1 ⟨rfl, rfl⟩
  have hlk := fun nd => (HL.out.map.drew nd).lookup_none (t := 48) wkLaw Try.underlying48 (zero_u64 _) HKL.out (tmL_no HJ.out)
  unfold WK.v at hlk
  go_wp2_with fail
  refine wp_region_held_drew (S := fun w' => ∃ n, w' = w1.drewN n) (by kernel_rfl) (⟨1, rfl⟩) (fun hHeld => ?_)
  refine wpAnyH_take (i := 0) (oi := { dst := some 11, op := Op.move (Operand.tmp 0), type := 23, pos := "wheel.go:61", after := #[], guard := none }) (v := ?_) rfl (by kernel_rfl) (by kernel_rfl) (by kernel_rfl) (fun _ _ _ h => h) (Or.inl ⟨by rfl, ?_⟩) hHeld ?_
  rotate_left
  · intro w hSw
    obtain ⟨nd, rfl⟩ := hSw
    go_simp
    try with_reducible rfl
  try simp only [Act.put, List.setIfInBounds_toArray, List.set_cons_zero, List.set_cons_succ]
  refine wpAnyH_take (i := 1) (oi := { dst := some 12, op := Op.nilCheck (Operand.tmp 11), type := 0, pos := "wheel.go:61", after := #[{ on := 0, ground := Ground.data }], guard := none }) (v := ?_) rfl (by kernel_rfl) (by kernel_rfl) (by kernel_rfl) (fun _ _ _ h => h) (Or.inl ⟨by rfl, ?_⟩) hHeld ?_
  rotate_left
  · intro w hSw
    obtain ⟨nd, rfl⟩ := hSw
    go_simp
    try with_reducible rfl
  try simp only [Act.put, List.setIfInBounds_toArray, List.set_cons_zero, List.set_cons_succ]
  refine wpAnyH_take (i := 2) (oi := { dst := some 13, op := Op.fieldAddr 50 (Operand.tmp 12) 0, type := 0, pos := "wheel.go:61", after := #[{ on := 1, ground := Ground.data }], guard := none }) (v := ?_) rfl (by kernel_rfl) (by kernel_rfl) (by kernel_rfl) (fun _ _ _ h => h) (Or.inl ⟨by rfl, ?_⟩) hHeld ?_
  rotate_left
  · intro w hSw
    obtain ⟨nd, rfl⟩ := hSw
    go_simp
    try with_reducible rfl
  try simp only [Act.put, List.setIfInBounds_toArray, List.set_cons_zero, List.set_cons_succ]
  refine wpAnyH_take (i := 3) (oi := { dst := some 14, op := Op.load 48 (Operand.tmp 13), type := 48, pos := "wheel.go:61", after := #[{ on := 2, ground := Ground.data }], guard := none }) (v := ?_) rfl (by kernel_rfl) (by kernel_rfl) (by kernel_rfl) (fun _ _ _ h => h) (Or.inl ⟨by rfl, ?_⟩) hHeld ?_
  rotate_left
  · intro w hSw
    obtain ⟨nd, rfl⟩ := hSw
    go_simp
    try with_reducible rfl
  try simp only [Act.put, List.setIfInBounds_toArray, List.set_cons_zero, List.set_cons_succ]
  refine wpAnyH_take (i := 4) (oi := { dst := some 15, op := Op.load 30 (Operand.tmp 3), type := 30, pos := "wheel.go:61", after := #[], guard := none }) (v := ?_) rfl (by kernel_rfl) (by kernel_rfl) (by kernel_rfl) (fun _ _ _ h => h) (Or.inl ⟨by rfl, ?_⟩) hHeld ?_
  rotate_left
  · intro w hSw
    obtain ⟨nd, rfl⟩ := hSw
    go_simp
    try with_reducible rfl
  try simp only [Act.put, List.setIfInBounds_toArray, List.set_cons_zero, List.set_cons_succ]
  refine wpAnyH_take (i := 5) (oi := { dst := some 16, op := Op.lookup 48 (Operand.tmp 14) (Operand.tmp 15) true, type := 36, pos := "wheel.go:61", after := #[{ on := 3, ground := Ground.data }, { on := 4, ground := Ground.data }], guard := none }) (v := ?_) rfl (by kernel_rfl) (by kernel_rfl) (by kernel_rfl) (fun _ _ _ h => h) (Or.inl ⟨by rfl, ?_⟩) hHeld ?_
  rotate_left
  · intro w hSw
    obtain ⟨nd, rfl⟩ := hSw
    go_simp
    try with_reducible rfl
  try simp only [Act.put, List.setIfInBounds_toArray, List.set_cons_zero, List.set_cons_succ]
  refine wpAnyH_take (i := 6) (oi := { dst := some 10, op := Op.move (Operand.tmp 16), type := 36, pos := "wheel.go:61", after := #[{ on := 5, ground := Ground.data }], guard := none }) (v := ?_) rfl (by kernel_rfl) (by kernel_rfl) (by kernel_rfl) (fun _ _ _ h => h) (Or.inl ⟨by rfl, ?_⟩) hHeld ?_
  rotate_left
  · intro w hSw
    obtain ⟨nd, rfl⟩ := hSw
    go_simp
    try with_reducible rfl
  try simp only [Act.put, List.setIfInBounds_toArray, List.set_cons_zero, List.set_cons_succ]
  refine wpAnyH_take (i := 7) (oi := { dst := some 17, op := Op.extract (Operand.tmp 10) 0, type := 27, pos := "wheel.go:61", after := #[{ on := 6, ground := Ground.data }], guard := none }) (v := ?_) rfl (by kernel_rfl) (by kernel_rfl) (by kernel_rfl) (fun _ _ _ h => h) (Or.inl ⟨by rfl, ?_⟩) hHeld ?_
  rotate_left
  · intro w hSw
    obtain ⟨nd, rfl⟩ := hSw
    go_simp
    try with_reducible rfl
  try simp only [Act.put, List.setIfInBounds_toArray, List.set_cons_zero, List.set_cons_succ]
  refine wpAnyH_take (i := 8) (oi := { dst := some 18, op := Op.extract (Operand.tmp 10) 1, type := 4, pos := "wheel.go:61", after := #[{ on := 6, ground := Ground.data }, { on := 9, ground := Ground.gcOnly Departure.lateStores }], guard := none }) (v := ?_) rfl (by kernel_rfl) (by kernel_rfl) (by kernel_rfl) (fun _ _ _ h => h) (Or.inl ⟨by rfl, ?_⟩) hHeld ?_
  rotate_left
  · intro w hSw
    obtain ⟨nd, rfl⟩ := hSw
    go_simp
    try with_reducible rfl
  try simp only [Act.put, List.setIfInBounds_toArray, List.set_cons_zero, List.set_cons_succ]
  refine wpAnyH_take (i := 9) (oi := { dst := some 6, op := Op.assign (Operand.tmp 17), type := 27, pos := "wheel.go:61", after := #[{ on := 7, ground := Ground.data }, { on := 0, ground := Ground.phase }, { on := 1, ground := Ground.phase }, { on := 2, ground := Ground.phase }, { on := 3, ground := Ground.phase }, { on := 4, ground := Ground.phase }, { on := 5, ground := Ground.phase }, { on := 6, ground := Ground.phase }, { on := 7, ground := Ground.phase }, { on := 8, ground := Ground.textOnly Departure.lateStores }], guard := none }) (v := ?_) rfl (by kernel_rfl) (by kernel_rfl) (by kernel_rfl) (fun _ _ _ h => h) (Or.inl ⟨by rfl, ?_⟩) hHeld ?_
  rotate_left
  · intro w hSw
    obtain ⟨nd, rfl⟩ := hSw
    go_simp
    try with_reducible rfl
  try simp only [Act.put, List.setIfInBounds_toArray, List.set_cons_zero, List.set_cons_succ]
  refine wpAnyH_take (i := 10) (oi := { dst := some 7, op := Op.assign (Operand.tmp 18), type := 4, pos := "wheel.go:61", after := #[{ on := 8, ground := Ground.data }, { on := 9, ground := Ground.chain }, { on := 0, ground := Ground.phase }, { on := 1, ground := Ground.phase }, { on := 2, ground := Ground.phase }, { on := 3, ground := Ground.phase }, { on := 4, ground := Ground.phase }, { on := 5, ground := Ground.phase }, { on := 6, ground := Ground.phase }, { on := 7, ground := Ground.phase }, { on := 8, ground := Ground.phase }, { on := 9, ground := Ground.phase }], guard := none }) (v := ?_) rfl (by kernel_rfl) (by kernel_rfl) (by kernel_rfl) (fun _ _ _ h => h) (Or.inl ⟨by rfl, ?_⟩) hHeld ?_
  rotate_left
  · intro w hSw
    obtain ⟨nd, rfl⟩ := hSw
    go_simp
    try with_reducible rfl
  try simp only [Act.put, List.setIfInBounds_toArray, List.set_cons_zero, List.set_cons_succ]
  refine wpAnyH_done (by kernel_rfl) ?_ _
  clear hHeld hlk
  go_wp2_with fail
  go_ret2
  exact ⟨rfl, below_drewN HA.out 1⟩
end Go.Proofs.Ytcgegaahdbnacaa
