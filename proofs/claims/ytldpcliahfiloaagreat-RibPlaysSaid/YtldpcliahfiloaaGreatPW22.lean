/-
  Several texts in one.
-/
import Derived.Test.YtldpcliahfiloaaGreatPW2
import Derived.Test.YtldpcliahfiloaaGreatPW8
import Derived.Test.YtldpcliahfiloaaGreatPW14
import Derived.Test.YtldpcliahfiloaaGreatPW21
import Derived.Shelf.SlGeneric
import Derived.Shelf.SlSortCmp.WholeK
import Derived.Shelf.SlSortCmp.NoneTotal
import Derived.Ground.SlsfProg
import Derived.Test.YtldpcliahfiloaaGreatProg
set_option linter.unusedVariables false
set_option linter.unusedSimpArgs false
namespace Go.Proofs.YtldpcliahfiloaaGreat
open Go.RowKit Go.MapKept
open Go.Maps (Keyed)

/-- a place -/
structure Pk where
  fam : Int
  rd : Int
  addr : ByteArray
  len : Int
  id : Nat
instance : DecidableEq Pk := fun a b => decidable_of_iff (a.fam = b.fam ∧ a.rd = b.rd ∧ a.addr = b.addr ∧ a.len = b.len ∧ a.id = b.id) (by cases a; cases b; simp)
def Pk.cs (p : Pk) : List Value := [.int .i64 p.fam, .int .u64 p.rd, .string p.addr, .int .i64 p.len, .int .u32 (p.id : Nat)]
def Pk.ar (p : Pk) : Array Value := #[.int .i64 p.fam, .int .u64 p.rd, .string p.addr, .int .i64 p.len, .int .u32 (p.id : Nat)]
def Pk.v (p : Pk) : Value := .agg #[.int .i64 p.fam, .int .u64 p.rd, .string p.addr, .int .i64 p.len, .int .u32 (p.id : Nat)]
structure Pk.Ok (p : Pk) : Prop where
  fam : -9223372036854775808 ≤ p.fam ∧ p.fam ≤ 9223372036854775807
  rd : 0 ≤ p.rd ∧ p.rd < 18446744073709551616
  addr : p.addr.size ≤ 9223372036854775807
  len : -9223372036854775808 ≤ p.len ∧ p.len ≤ 9223372036854775807
  id : p.id < 4294967296
theorem Pk.v_inj {a b : Pk} (h : a.v = b.v) : a = b := by
  cases a; cases b
  simp [Pk.v] at h
  obtain ⟨h1, h2, h3, h4, h5⟩ := h
  subst h1 h2 h3 h4
  simp only [Pk.mk.injEq, true_and]
  omega
theorem pkRow : 83 < Tryz.prog.types.size := by decide +kernel
theorem pkWide : (match Tryz.prog.underlying 83 with | some (.array _ _) | some (.struct _) => true | _ => false) = true := by kernel_rfl
set_option maxRecDepth 100000 in
theorem pkLaw : Keyed Tryz.prog 83 := Keyed.of_law (deep_law_laid laidOut (m := 5) (by omega) pkRow (by kernel_rfl) pkWide)
set_option maxRecDepth 100000 in
theorem pk_key (k : Pk) (h : k.Ok) : ∃ l, keyOf Tryz.prog 83 k.v = some l := by
  obtain ⟨h1, h2, h3, h4, h5⟩ := h
  have w1 : (Lit.int .i64 k.fam).wf = true := by simp [Lit.wf, IntKind.min, IntKind.max, IntKind.signed, IntKind.bits]; omega
  have w2 : (Lit.int .u64 k.rd).wf = true := by simp [Lit.wf, IntKind.min, IntKind.max, IntKind.signed, IntKind.bits]; omega
  have w3 : (Lit.int .i64 k.len).wf = true := by simp [Lit.wf, IntKind.min, IntKind.max, IntKind.signed, IntKind.bits]; omega
  have w4 : (Lit.int .u32 (k.id : Nat)).wf = true := by simp [Lit.wf, IntKind.min, IntKind.max, IntKind.signed, IntKind.bits]; omega
  have m2 : k.addr.size ≤ maxLen := by unfold maxLen; omega
  have kt : Tryz.prog.keyType 83 = true := by kernel_rfl
  have hf : k.v.formed Tryz.prog 83 = true := by
    unfold Pk.v
    kernel_rfl
  have hc1 : Tryz.prog.cellsOf 83 = 5 := by kernel_rfl
  have hc2 : Tryz.prog.cellsOf 32 = 4 := by kernel_rfl
  have hc3 : Tryz.prog.cellsOf 9 = 1 := by kernel_rfl
  have hc4 : Tryz.prog.cellsOf 3 = 1 := by kernel_rfl
  have hc5 : Tryz.prog.cellsOf 30 = 1 := by kernel_rfl
  have hc6 : Tryz.prog.cellsOf 33 = 1 := by kernel_rfl
  have hv : k.v.cells.toList = [.int .i64 k.fam, .int .u64 k.rd, .string k.addr, .int .i64 k.len, .int .u32 (k.id : Nat)] := rfl
  have hk : ∃ ls, Tryz.prog.keyLits (Tryz.prog.types.size + 1) 83 k.v.cells.toList = some ls := by
    rw [hv]
    obtain ⟨n, hn⟩ : ∃ n, Tryz.prog.types.size = n + 2 := ⟨Tryz.prog.types.size - 2, by have : 2 ≤ Tryz.prog.types.size := (by decide +kernel); omega⟩
    rw [hn]
    simp (decide := true) [Program.keyLits, Tryz.underlying83, Tryz.underlying32, Tryz.underlying9, Tryz.underlying3, Tryz.underlying30, Tryz.underlying33, hc1, hc2, hc3, hc4, hc5, hc6, w1, w2, w3, w4, m2]
  obtain ⟨ls, hls⟩ := hk
  refine ⟨.string (keyBytes ls), ?_⟩
  unfold keyOf
  rw [Tryz.underlying83]
  simp only [kt, hf, Bool.and_self, if_true, hls, Option.map_some]
/-- what was told at a place -/
structure Td where
  k : Pk
  label : Nat
  a : Atr
  stale : Bool
def Td.ar (t : Td) : Array Value := #[.int .u32 (t.label : Nat), .int .i64 t.a.origin, .slice t.a.pA t.a.segs.length t.a.pC, .string t.a.next, .bool t.a.hasMed, .int .u32 (t.a.med : Nat), .bool t.a.hasPref, .int .u32 (t.a.pref : Nat), .bool t.a.atomic, .int .u32 (t.a.aggAs : Nat), .int .u32 (t.a.aggId : Nat), .slice t.a.mA t.a.comms.length t.a.mC, .slice t.a.xA t.a.exts.length t.a.xC, .slice t.a.lA t.a.larges.length t.a.lC, .bool t.a.hasOrig, .int .u32 (t.a.orig : Nat), .slice t.a.kA t.a.clus.length t.a.kC, .bool t.stale]
def Td.v (t : Td) : Value := .agg t.ar
def tdL (S : List Td) : List (Value × Value) := S.map fun p => (p.k.v, p.v)
theorem tdL_at {S : List Td} {i : Nat} {p : Td} (h : S[i]? = some p) : (tdL S)[i]? = some (p.k.v, p.v) := by
  unfold tdL
  rw [List.getElem?_map, h]
  rfl
theorem tdL_no {S : List Td} {k : Pk} (h : ∀ p ∈ S, p.k ≠ k) : ∀ p ∈ tdL S, p.1 ≠ k.v := fun p hp e => by
  obtain ⟨x, hx, rfl⟩ := List.mem_map.1 hp
  exact h x hx (Pk.v_inj e)
theorem tdL_back {S : List Td} {i : Nat} {key v : Value} (h : (tdL S)[i]? = some (key, v)) : ∃ p, S[i]? = some p ∧ key = p.k.v ∧ v = p.v := by
  unfold tdL at h
  rw [List.getElem?_map] at h
  cases hs : S[i]? with
  | none => rw [hs] at h; cases h
  | some p =>
    rw [hs] at h
    simp only [Option.map_some, Option.some.injEq, Prod.mk.injEq] at h
    exact ⟨p, rfl, h.1.symm, h.2.symm⟩
theorem tdL_erase (S : List Td) (j : Nat) : (tdL S).eraseIdx j = tdL (S.eraseIdx j) := by unfold tdL; rw [← Go.ChangeMaps.map_eraseIdx]
theorem tdL_snoc (S : List Td) (t : Td) : tdL S ++ [(t.k.v, t.v)] = tdL (S ++ [t]) := by simp [tdL]
theorem tdL_set (S : List Td) (j : Nat) (t : Td) : (tdL S).set j (t.k.v, t.v) = tdL (S.set j t) := by
  unfold tdL
  rw [List.map_set]
theorem OwnM.keepX {w w' : World} {base C : Nat} {e : TypeId} {v : Value} {n : Nat} {xs : List Value} {X : Nat → Prop} (h : OwnM w base e C v n xs) (hg : GrownX X w w') (hX : ∀ i, X i → ∀ cs T fr, w.heap[i]? ≠ some (.cells cs T fr)) : OwnM w' base e C v n xs :=
  OwnM.keep h (fun k hk => hg.block k (OwnM.lt h k hk).2 (fun hx => by
    rcases h.2 with ⟨rfl, _⟩ | ⟨q, cap, cur, fr, rfl, _, hq, _⟩
    · simp [Value.ownBlock] at hk
    · simp [Value.ownBlock] at hk
      subst hk
      exact hX _ hx _ _ _ hq))
theorem AtO.keepX {w w' : World} {base : Nat} {a : Atr} {X : Nat → Prop} (h : AtO w base a) (hg : GrownX X w w') (hX : ∀ i, X i → ∀ cs T fr, w.heap[i]? ≠ some (.cells cs T fr)) : AtO w' base a :=
  { h with path := ⟨OwnM.keepX h.path.own hg hX, fun s hs => ⟨OwnM.keepX (h.path.as_ s hs).1 hg hX, (h.path.as_ s hs).2⟩⟩, comms := OwnM.keepX h.comms hg hX, exts := OwnM.keepX h.exts hg hX, larges := OwnM.keepX h.larges hg hX, clus := OwnM.keepX h.clus hg hX }
/-- a rib in memory -/
structure RibAt (w : World) (base b m : Nat) (most : Int) (S : List Td) : Prop where
  blk : CellsAt w b #[.int .i64 most, .map (some m)] 53
  map : MapAt Tryz.prog 83 w m (tdL S)
  ne : b ≠ m
  ok : ∀ p ∈ S, p.k.Ok ∧ p.label < 4294967296
  own : ∀ p ∈ S, AtO w base p.a
  sz : ∀ p ∈ S, AtrSz p.a.c
  len : S.length ≤ 1000
  low : base ≤ b ∧ base ≤ m
section
variable {w w' : World} {base b m : Nat} {most : Int} {S : List Td}
theorem RibAt.lt (h : RibAt w base b m most S) : b < w.heap.size ∧ m < w.heap.size := ⟨h.blk.lt, h.map.lt⟩
theorem RibAt.keep (h : RibAt w base b m most S) (hk : ∀ i, base ≤ i → i < w.heap.size → w'.heap[i]? = w.heap[i]?) : RibAt w' base b m most S :=
  { h with blk := (hk b h.low.1 h.blk.lt).trans h.blk, map := h.map.keep (hk m h.low.2 h.map.lt), own := fun p hp => (h.own p hp).keep hk }
theorem RibAt.below (h : RibAt w base b m most S) (hb : Below w.heap.size w w') : RibAt w' base b m most S := h.keep fun i _ hi => hb.block i hi
theorem RibAt.drew (h : RibAt w base b m most S) (n : Nat) : RibAt (w.drewN n) base b m most S := h.keep fun i _ _ => rfl
theorem RibAt.alloc (h : RibAt w base b m most S) (o : Obj) : RibAt (w.alloc o) base b m most S := h.below ((Below.refl _ _).alloc (Nat.le_refl _) o)
theorem RibAt.keys (h : RibAt w base b m most S) : S.Pairwise (fun p q => p.k ≠ q.k) := by
  have := h.map.apart
  unfold tdL at this
  rw [List.pairwise_map] at this
  exact this.imp (fun hne e => hne (by rw [e]))
theorem RibAt.mapBlk (h : RibAt w base b m most S) : ∀ cs T fr, w.heap[m]? ≠ some (.cells cs T fr) := fun cs T fr e => by
  obtain ⟨es, clock, hb, _⟩ := h.map
  rw [hb] at e
  cases e
end
theorem keyp_one {S : List Td} (h : S.Pairwise (fun p q => p.k ≠ q.k)) {i j : Nat} {p q : Td} (hi : S[i]? = some p) (hj : S[j]? = some q) (e : p.k = q.k) : i = j := by
  obtain ⟨a1, a2⟩ := List.getElem?_eq_some_iff.1 hi
  obtain ⟨b1, b2⟩ := List.getElem?_eq_some_iff.1 hj
  rcases Nat.lt_trichotomy i j with hl | he | hg
  · have := List.pairwise_iff_getElem.1 h i j a1 b1 hl
    rw [a2, b2] at this
    exact absurd e this
  · exact he
  · have := List.pairwise_iff_getElem.1 h j i b1 a1 hg
    rw [a2, b2] at this
    exact absurd e.symm this
theorem zero_td (w : World) : (zeroValue 86).run Tryz.prog w = .ok (.agg (Td.mk ⟨0, 0, ⟨#[]⟩, 0, 0⟩ 0 noAtr false).ar) w := by kernel_rfl
theorem rnone_any (b m : Nat) (most : Int) (w : World) (h : CellsAt w b #[.int .i64 most, .map (some m)] 53) : Calls Tryz.prog 34 #[.pointer (some ⟨b, 0, none⟩)] w fun e w' => e = .returned (.bool false) ∧ w' = w := by
  have q1 := fun (w : World) (r : Option Nat) => run_eql_map_nil (P := Tryz.prog) w 51 _ _ r Tryz.underlying51
  obtain ⟨c0, c1⟩ := h.c2
  go_enter Tryz.func34, Tryz.ntmps34
  go_wp2_with fail
  go_ret
  exact ⟨rfl, rfl⟩
end Go.Proofs.YtldpcliahfiloaaGreat
namespace Go.Proofs
open Go.Shelf
def Tryz.sortPk_ren : Go.Shelf.Ren := ⟨fun | 6 => 45 | 15 => 67 | 14 => 66 | 28 => 87 | 29 => 88 | 20 => 79 | 21 => 80 | 22 => 81 | 23 => 82 | 24 => 83 | 25 => 84 | 26 => 85 | 27 => 86 | 46 => 101 | 47 => 102 | 48 => 103 | 49 => 104 | 50 => 105 | 57 => 108 | n => n, fun | 22 => 79 | 24 => 83 | 25 => 103 | 3 => 3 | 39 => 123 | 0 => 0 | 53 => 33 | 55 => 30 | 4 => 4 | 46 => 133 | 45 => 132 | 50 => 95 | 5 => 5 | 9 => 9 | 66 => 146 | 70 => 150 | 76 => 153 | 77 => 154 | n => n, fun | n => n⟩
theorem Tryz.sortPk : Go.Proofs.SlLaysF0.n6 Tryz.prog Tryz.sortPk_ren := {
  mixed := by kernel_rfl
  f6 := ⟨Tryz.f45.name, by decide, Tryz.func45.trans (congrArg some (by kernel_rfl))⟩
  f14 := ⟨Tryz.f66.name, by decide, Tryz.func66.trans (congrArg some (by kernel_rfl))⟩
  f15 := Tryz.func67.trans (congrArg some (by kernel_rfl))
  f20 := ⟨Tryz.f79.name, by decide, Tryz.func79.trans (congrArg some (by kernel_rfl))⟩
  f21 := ⟨Tryz.f80.name, by decide, Tryz.func80.trans (congrArg some (by kernel_rfl))⟩
  f22 := ⟨Tryz.f81.name, by decide, Tryz.func81.trans (congrArg some (by kernel_rfl))⟩
  f23 := ⟨Tryz.f82.name, by decide, Tryz.func82.trans (congrArg some (by kernel_rfl))⟩
  f24 := ⟨Tryz.f83.name, by decide, Tryz.func83.trans (congrArg some (by kernel_rfl))⟩
  f25 := ⟨Tryz.f84.name, by decide, Tryz.func84.trans (congrArg some (by kernel_rfl))⟩
  f26 := ⟨Tryz.f85.name, by decide, Tryz.func85.trans (congrArg some (by kernel_rfl))⟩
  f27 := ⟨Tryz.f86.name, by decide, Tryz.func86.trans (congrArg some (by kernel_rfl))⟩
  f28 := Tryz.func87.trans (congrArg some (by kernel_rfl))
  f29 := Tryz.func88.trans (congrArg some (by kernel_rfl))
  f46 := ⟨Tryz.f101.name, by decide, Tryz.func101.trans (congrArg some (by kernel_rfl))⟩
  f47 := Tryz.func102.trans (congrArg some (by kernel_rfl))
  f48 := Tryz.func103.trans (congrArg some (by kernel_rfl))
  f49 := ⟨Tryz.f104.name, by decide, Tryz.func104.trans (congrArg some (by kernel_rfl))⟩
  f50 := ⟨Tryz.f105.name, by decide, Tryz.func105.trans (congrArg some (by kernel_rfl))⟩
  f57 := ⟨Tryz.f108.name, by decide, Tryz.func108.trans (congrArg some (by kernel_rfl))⟩
  t0 := Tryz.underlying0
  a0 := Tryz.isAgg0
  z0 := Tryz.sizeOf0
  v0 := Tryz.zeroValue0
  t3 := Tryz.underlying3
  a3 := Tryz.isAgg3
  z3 := Tryz.sizeOf3
  v3 := Tryz.zeroValue3
  t4 := Tryz.underlying4
  a4 := Tryz.isAgg4
  z4 := Tryz.sizeOf4
  v4 := Tryz.zeroValue4
  t5 := Tryz.underlying5
  a5 := Tryz.isAgg5
  z5 := Tryz.sizeOf5
  v5 := Tryz.zeroValue5
  t9 := Tryz.underlying9
  a9 := Tryz.isAgg9
  z9 := Tryz.sizeOf9
  v9 := Tryz.zeroValue9
  t22 := Tryz.underlying79
  a22 := Tryz.isAgg79
  z22 := Tryz.sizeOf79
  v22 := Tryz.zeroValue79
  t25 := Tryz.underlying103
  a25 := Tryz.isAgg103
  z25 := Tryz.sizeOf103
  v25 := Tryz.zeroValue103
  t39 := Tryz.underlying123
  a39 := Tryz.isAgg123
  z39 := Tryz.sizeOf123
  v39 := Tryz.zeroValue123
  t45 := Tryz.underlying132
  a45 := Tryz.isAgg132
  z45 := Tryz.sizeOf132
  v45 := Tryz.zeroValue132
  t46 := Tryz.underlying133
  a46 := Tryz.isAgg133
  z46 := Tryz.sizeOf133
  v46 := Tryz.zeroValue133
  t50 := Tryz.underlying95
  a50 := Tryz.isAgg95
  z50 := Tryz.sizeOf95
  v50 := Tryz.zeroValue95
  t53 := Tryz.underlying33
  a53 := Tryz.isAgg33
  z53 := Tryz.sizeOf33
  v53 := Tryz.zeroValue33
  t55 := Tryz.underlying30
  a55 := Tryz.isAgg30
  z55 := Tryz.sizeOf30
  v55 := Tryz.zeroValue30
  t66 := Tryz.underlying146
  a66 := Tryz.isAgg146
  z66 := Tryz.sizeOf146
  v66 := Tryz.zeroValue146
  t70 := Tryz.underlying150
  a70 := Tryz.isAgg150
  z70 := Tryz.sizeOf150
  v70 := Tryz.zeroValue150
  t76 := Tryz.underlying153
  a76 := Tryz.isAgg153
  z76 := Tryz.sizeOf153
  v76 := Tryz.zeroValue153
  t77 := Tryz.underlying154
  a77 := Tryz.isAgg154
  z77 := Tryz.sizeOf154
  v77 := Tryz.zeroValue154 }
end Go.Proofs
set_option linter.unusedVariables false
set_option linter.unusedSimpArgs false
namespace Go.Proofs.YtldpcliahfiloaaGreat
open Go.RowKit Go.MapKept Go.Shelf
open Go.Lib hiding intOf
open Go.Sort hiding Below

def roF (x y : Int) : Int := if x = 0 then y else x
/-- a weak order -/
structure WO {α : Type} (c : α → α → Int) : Prop where
  refl : ∀ x, c x x ≤ 0
  anti : ∀ x y, 0 < c x y ↔ c y x < 0
  trans : ∀ x y z, c x y ≤ 0 → c y z ≤ 0 → c x z ≤ 0
theorem ci_pos (x y : Int) : 0 < Lib.compareInt x y ↔ y < x := by unfold Lib.compareInt; repeat' split <;> omega
theorem ci_neg (x y : Int) : Lib.compareInt x y < 0 ↔ x < y := by unfold Lib.compareInt; repeat' split <;> omega
theorem ci_le (x y : Int) : Lib.compareInt x y ≤ 0 ↔ x ≤ y := by unfold Lib.compareInt; repeat' split <;> omega
theorem wo_int {α : Type} (f : α → Int) : WO fun x y => Lib.compareInt (f x) (f y) :=
  ⟨fun x => (ci_le _ _).2 (Int.le_refl _), fun x y => by rw [ci_pos, ci_neg], fun x y z h1 h2 => (ci_le _ _).2 (Int.le_trans ((ci_le _ _).1 h1) ((ci_le _ _).1 h2))⟩
theorem cb_refl : ∀ a : List UInt8, Lib.compareBytes a a = 0
  | [] => rfl
  | x :: a => by unfold Lib.compareBytes; rw [if_neg (UInt8.lt_irrefl x), if_neg (UInt8.lt_irrefl x)]; exact cb_refl a
theorem u8_cases (a b : UInt8) : a < b ∧ ¬ b < a ∨ a = b ∨ b < a ∧ ¬ a < b := by
  rcases Nat.lt_trichotomy a.toNat b.toNat with h | h | h
  · exact .inl ⟨UInt8.lt_iff_toNat_lt.2 h, fun h2 => by have := UInt8.lt_iff_toNat_lt.1 h2; omega⟩
  · exact .inr (.inl (UInt8.toNat_inj.1 h))
  · exact .inr (.inr ⟨UInt8.lt_iff_toNat_lt.2 h, fun h2 => by have := UInt8.lt_iff_toNat_lt.1 h2; omega⟩)
theorem cb_anti : ∀ a b : List UInt8, 0 < Lib.compareBytes a b ↔ Lib.compareBytes b a < 0
  | [], [] => by decide
  | [], _ :: _ => by unfold Lib.compareBytes; decide
  | _ :: _, [] => by unfold Lib.compareBytes; decide
  | x :: a, y :: b => by
    have ih := cb_anti a b
    unfold Lib.compareBytes
    rcases u8_cases x y with ⟨h1, h2⟩ | rfl | ⟨h1, h2⟩
    · rw [if_pos h1, if_neg h2, if_pos h1]; decide
    · rw [if_neg (UInt8.lt_irrefl x), if_neg (UInt8.lt_irrefl x), if_neg (UInt8.lt_irrefl x), if_neg (UInt8.lt_irrefl x)]; exact ih
    · rw [if_neg h2, if_pos h1, if_pos h1]; decide
theorem cb_trans : ∀ a b c : List UInt8, Lib.compareBytes a b ≤ 0 → Lib.compareBytes b c ≤ 0 → Lib.compareBytes a c ≤ 0
  | [], _, [] => fun _ _ => by decide
  | [], _, _ :: _ => fun _ _ => by unfold Lib.compareBytes; decide
  | _ :: _, [], c => fun h _ => absurd h (by unfold Lib.compareBytes; decide)
  | x :: a, y :: b, [] => fun _ h => absurd h (by unfold Lib.compareBytes; decide)
  | x :: a, y :: b, z :: c => fun h1 h2 => by
    have ih := cb_trans a b c
    unfold Lib.compareBytes at h1 h2 ⊢
    rcases u8_cases x y with ⟨p1, p2⟩ | rfl | ⟨p1, p2⟩
    · rcases u8_cases y z with ⟨q1, q2⟩ | rfl | ⟨q1, q2⟩
      · rw [if_pos (UInt8.lt_trans p1 q1)]; decide
      · rw [if_pos p1]; decide
      · rw [if_neg q2, if_pos q1] at h2; exact absurd h2 (by decide)
    · rcases u8_cases x z with ⟨q1, q2⟩ | rfl | ⟨q1, q2⟩
      · rw [if_pos q1]; decide
      · rw [if_neg (UInt8.lt_irrefl x), if_neg (UInt8.lt_irrefl x)] at h1 h2 ⊢; exact ih h1 h2
      · rw [if_neg q2, if_pos q1] at h2; exact absurd h2 (by decide)
    · rw [if_neg p2, if_pos p1] at h1; exact absurd h1 (by decide)
theorem wo_bytes {α : Type} (f : α → List UInt8) : WO fun x y => Lib.compareBytes (f x) (f y) :=
  ⟨fun x => by rw [cb_refl]; decide, fun x y => cb_anti _ _, fun x y z => cb_trans _ _ _⟩
theorem wo_lex {α : Type} {a b : α → α → Int} (ha : WO a) (hb : WO b) : WO fun x y => roF (a x y) (b x y) := by
  have zero : ∀ x y, a x y = 0 → a y x = 0 := fun x y h => by
    have h1 := ha.anti x y
    have h2 := ha.anti y x
    omega
  refine ⟨fun x => ?_, fun x y => ?_, fun x y z => ?_⟩
  · show roF _ _ ≤ 0
    have h1 := ha.anti x x
    have h2 := ha.refl x
    unfold roF
    split
    · exact hb.refl x
    · exact h2
  · show 0 < roF _ _ ↔ roF _ _ < 0
    unfold roF
    by_cases h : a x y = 0
    · rw [if_pos h, if_pos (zero x y h)]
      exact hb.anti x y
    · rw [if_neg h, if_neg (fun h2 => h (zero y x h2))]
      exact ha.anti x y
  · show roF _ _ ≤ 0 → roF _ _ ≤ 0 → roF _ _ ≤ 0
    unfold roF
    intro h1 h2
    by_cases p : a x y = 0
    · rw [if_pos p] at h1
      by_cases q : a y z = 0
      · rw [if_pos q] at h2
        have e1 := ha.trans x y z (by omega) (by omega)
        have e2 := ha.trans z y x (by have := zero y z q; omega) (by have := zero x y p; omega)
        have e3 := ha.anti z x
        have e4 := ha.anti x z
        rw [if_pos (by omega)]
        exact hb.trans x y z h1 h2
      · rw [if_neg q] at h2
        have e1 := ha.trans x y z (by omega) (by omega)
        have e2 : a x z ≠ 0 := fun e => q (by
          have e3 := ha.trans y x z (by have := zero x y p; omega) (by omega)
          have e4 := ha.trans z x y (by have := zero x z e; omega) (by omega)
          have e5 := ha.anti z y
          omega)
        rw [if_neg e2]
        exact e1
    · rw [if_neg p] at h1
      have hyz : a y z ≤ 0 := by
        by_cases q : a y z = 0
        · omega
        · rw [if_neg q] at h2; exact h2
      have e1 := ha.trans x y z h1 hyz
      have e2 : a x z ≠ 0 := fun e => p (by
        have e3 := ha.trans y z x hyz (by have := zero x z e; omega)
        have e4 := ha.anti x y
        have e5 := ha.anti y x
        omega)
      rw [if_neg e2]
      exact e1
theorem ci_zero (x y : Int) : Lib.compareInt x y = 0 ↔ x = y := by unfold Lib.compareInt; repeat' split <;> omega
theorem cb_zero : ∀ a b : List UInt8, Lib.compareBytes a b = 0 → a = b
  | [], [], _ => rfl
  | [], _ :: _, h => absurd h (by unfold Lib.compareBytes; decide)
  | _ :: _, [], h => absurd h (by unfold Lib.compareBytes; decide)
  | x :: a, y :: b, h => by
    unfold Lib.compareBytes at h
    rcases u8_cases x y with ⟨h1, h2⟩ | rfl | ⟨h1, h2⟩
    · rw [if_pos h1] at h; exact absurd h (by decide)
    · rw [if_neg (UInt8.lt_irrefl x), if_neg (UInt8.lt_irrefl x)] at h
      rw [cb_zero a b h]
    · rw [if_neg h2, if_pos h1] at h; exact absurd h (by decide)
/-- prim.Cmp -/
def pcF (x y : Pk) : Int := roF (Lib.compareInt x.fam y.fam) (roF (Lib.compareInt x.rd y.rd) (roF (Lib.compareBytes x.addr.data.toList y.addr.data.toList) (Lib.compareInt x.len y.len)))
/-- adjin.order -/
def cfP (x y : Pk) : Int := roF (pcF x y) (Lib.compareInt (x.id : Nat) (y.id : Nat))
theorem roF_zero {x y : Int} (h : roF x y = 0) : x = 0 ∧ y = 0 := by
  unfold roF at h
  split at h
  · rename_i h1; exact ⟨h1, h⟩
  · rename_i h1; exact absurd h h1
theorem wo_pc : WO pcF := wo_lex (wo_int fun x : Pk => x.fam) (wo_lex (wo_int fun x : Pk => x.rd) (wo_lex (wo_bytes fun x : Pk => x.addr.data.toList) (wo_int fun x : Pk => x.len)))
theorem wo_cf : WO cfP := wo_lex wo_pc (wo_int fun x : Pk => (x.id : Int))
theorem cfP_zero {x y : Pk} (h : cfP x y = 0) : x = y := by
  obtain ⟨h1, h2⟩ := roF_zero h
  obtain ⟨h3, h4⟩ := roF_zero h1
  obtain ⟨h5, h6⟩ := roF_zero h4
  obtain ⟨h7, h8⟩ := roF_zero h6
  have e1 := (ci_zero _ _).1 h2
  have e2 := (ci_zero _ _).1 h3
  have e3 := (ci_zero _ _).1 h5
  have e4 := cb_zero _ _ h7
  have e5 := (ci_zero _ _).1 h8
  obtain ⟨f, r, ⟨⟨a⟩⟩, l, i⟩ := x
  obtain ⟨f2, r2, ⟨⟨a2⟩⟩, l2, i2⟩ := y
  simp only at e1 e2 e3 e4 e5
  have e1' : i = i2 := by omega
  subst e1' e2 e3 e5
  have e6 : a = a2 := e4
  rw [e6]
theorem swo_of {α : Type} {c : α → α → Int} (h : WO c) : SWO (ltOf c) where
  irrefl x := by
    unfold ltOf
    have h1 := h.anti x x
    have h2 := h.refl x
    rw [decide_eq_false_iff_not]
    omega
  trans x y z h1 h2 := by
    unfold ltOf at *
    rw [decide_eq_true_iff] at *
    have a1 := h.anti x z
    have a2 := h.anti z x
    have t1 := h.trans x y z (by omega) (by omega)
    refine Decidable.byContradiction fun h0 => ?_
    have h3 : c x z = 0 := by omega
    have h4 : c z x ≤ 0 := by omega
    have t2 := h.trans z x y h4 (by omega)
    have a3 := h.anti z y
    have a4 := h.anti y z
    omega
  ntrans x y z h1 h2 := by
    unfold ltOf at *
    rw [decide_eq_false_iff_not] at *
    have a1 := h.anti x y
    have a2 := h.anti y z
    have a3 := h.anti y x
    have a4 := h.anti z y
    have a5 := h.anti z x
    have a6 := h.anti x z
    have t1 := h.trans z y x (by omega) (by omega)
    omega
theorem swoP : SWO (ltOf cfP) := swo_of wo_cf
/-- places in order -/
def OrdP (l : List Pk) : Prop := l.Pairwise fun x y => cfP x y < 0
theorem cf_total (x y : Pk) : cfP x y < 0 ∨ x = y ∨ cfP y x < 0 := by
  have a1 := wo_cf.anti x y
  rcases Int.lt_trichotomy (cfP x y) 0 with h | h | h
  · exact .inl h
  · exact .inr (.inl (cfP_zero h))
  · exact .inr (.inr (a1.1 h))
theorem cf_irrefl (x : Pk) : ¬ cfP x x < 0 := by
  have a1 := wo_cf.anti x x
  have a2 := wo_cf.refl x
  omega
end Go.Proofs.YtldpcliahfiloaaGreat
