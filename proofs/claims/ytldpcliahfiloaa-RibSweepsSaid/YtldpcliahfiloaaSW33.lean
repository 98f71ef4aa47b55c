/-
  Several texts in one.
-/
import Derived.Test.YtldpcliahfiloaaSW4
import Derived.Test.YtldpcliahfiloaaSW14
import Derived.Test.YtldpcliahfiloaaSW21
import Derived.Test.YtldpcliahfiloaaSW32
set_option linter.unusedVariables false
set_option linter.unusedSimpArgs false
namespace Go.Proofs.Ytldpcliahfiloaa
open Go.RowKit Go.MapKept
open Go.Maps (Keyed)

/-- a place -/
structure Pk where
  fam : Int
  rd : Int
  addr : ByteArray
  len : Int
  id : Nat
instance : DecidableEq Pk := fun a b => decidable_of_iff (a.fam = b.fam ∧ a.rd = b.rd ∧ a.addr = b.addr ∧ a.len = b.len ∧ a.id = b.id) (by cases a; cases b; simp)
def Pk.cs (p : Pk) : List Value := [.int .i64 p.fam, .int .u64 p.rd, .string p.addr, .int .i64 p.len, .int .u32 (p.id : Nat)]
def Pk.ar (p : Pk) : Array Value := #[.int .i64 p.fam, .int .u64 p.rd, .string p.addr, .int .i64 p.len, .int .u32 (p.id : Nat)]
def Pk.v (p : Pk) : Value := .agg #[.int .i64 p.fam, .int .u64 p.rd, .string p.addr, .int .i64 p.len, .int .u32 (p.id : Nat)]
structure Pk.Ok (p : Pk) : Prop where
  fam : -9223372036854775808 ≤ p.fam ∧ p.fam ≤ 9223372036854775807
  rd : 0 ≤ p.rd ∧ p.rd < 18446744073709551616
  addr : p.addr.size ≤ 9223372036854775807
  len : -9223372036854775808 ≤ p.len ∧ p.len ≤ 9223372036854775807
  id : p.id < 4294967296
theorem Pk.v_inj {a b : Pk} (h : a.v = b.v) : a = b := by
  cases a; cases b
  simp [Pk.v] at h
  obtain ⟨h1, h2, h3, h4, h5⟩ := h
  subst h1 h2 h3 h4
  simp only [Pk.mk.injEq, true_and]
  omega
theorem pkRow : 65 < Try.prog.types.size := by decide +kernel
theorem pkWide : (match Try.prog.underlying 65 with | some (.array _ _) | some (.struct _) => true | _ => false) = true := by kernel_rfl
set_option maxRecDepth 100000 in
theorem pkLaw : Keyed Try.prog 65 := Keyed.of_law (deep_law_laid laidOut (m := 5) (by omega) pkRow (by kernel_rfl) pkWide)
set_option maxRecDepth 100000 in
theorem pk_key (k : Pk) (h : k.Ok) : ∃ l, keyOf Try.prog 65 k.v = some l := by
  obtain ⟨h1, h2, h3, h4, h5⟩ := h
  have w1 : (Lit.int .i64 k.fam).wf = true := by simp [Lit.wf, IntKind.min, IntKind.max, IntKind.signed, IntKind.bits]; omega
  have w2 : (Lit.int .u64 k.rd).wf = true := by simp [Lit.wf, IntKind.min, IntKind.max, IntKind.signed, IntKind.bits]; omega
  have w3 : (Lit.int .i64 k.len).wf = true := by simp [Lit.wf, IntKind.min, IntKind.max, IntKind.signed, IntKind.bits]; omega
  have w4 : (Lit.int .u32 (k.id : Nat)).wf = true := by simp [Lit.wf, IntKind.min, IntKind.max, IntKind.signed, IntKind.bits]; omega
  have m2 : k.addr.size ≤ maxLen := by unfold maxLen; omega
  have kt : Try.prog.keyType 65 = true := by kernel_rfl
  have hf : k.v.formed Try.prog 65 = true := by
    unfold Pk.v
    kernel_rfl
  have hc1 : Try.prog.cellsOf 65 = 5 := by kernel_rfl
  have hc2 : Try.prog.cellsOf 29 = 4 := by kernel_rfl
  have hc3 : Try.prog.cellsOf 9 = 1 := by kernel_rfl
  have hc4 : Try.prog.cellsOf 3 = 1 := by kernel_rfl
  have hc5 : Try.prog.cellsOf 23 = 1 := by kernel_rfl
  have hc6 : Try.prog.cellsOf 30 = 1 := by kernel_rfl
  have hv : k.v.cells.toList = [.int .i64 k.fam, .int .u64 k.rd, .string k.addr, .int .i64 k.len, .int .u32 (k.id : Nat)] := rfl
  have hk : ∃ ls, Try.prog.keyLits (Try.prog.types.size + 1) 65 k.v.cells.toList = some ls := by
    rw [hv]
    obtain ⟨n, hn⟩ : ∃ n, Try.prog.types.size = n + 2 := ⟨Try.prog.types.size - 2, by have : 2 ≤ Try.prog.types.size := (by decide +kernel); omega⟩
    rw [hn]
    simp (decide := true) [Program.keyLits, Try.underlying65, Try.underlying29, Try.underlying9, Try.underlying3, Try.underlying23, Try.underlying30, hc1, hc2, hc3, hc4, hc5, hc6, w1, w2, w3, w4, m2]
  obtain ⟨ls, hls⟩ := hk
  refine ⟨.string (keyBytes ls), ?_⟩
  unfold keyOf
  rw [Try.underlying65]
  simp only [kt, hf, Bool.and_self, if_true, hls, Option.map_some]
/-- what was told at a place -/
structure Td where
  k : Pk
  label : Nat
  a : Atr
  stale : Bool
def Td.ar (t : Td) : Array Value := #[.int .u32 (t.label : Nat), .int .i64 t.a.origin, .slice t.a.pA t.a.segs.length t.a.pC, .string t.a.next, .bool t.a.hasMed, .int .u32 (t.a.med : Nat), .bool t.a.hasPref, .int .u32 (t.a.pref : Nat), .bool t.a.atomic, .int .u32 (t.a.aggAs : Nat), .int .u32 (t.a.aggId : Nat), .slice t.a.mA t.a.comms.length t.a.mC, .slice t.a.xA t.a.exts.length t.a.xC, .slice t.a.lA t.a.larges.length t.a.lC, .bool t.a.hasOrig, .int .u32 (t.a.orig : Nat), .slice t.a.kA t.a.clus.length t.a.kC, .bool t.stale]
def Td.v (t : Td) : Value := .agg t.ar
def tdL (S : List Td) : List (Value × Value) := S.map fun p => (p.k.v, p.v)
theorem tdL_at {S : List Td} {i : Nat} {p : Td} (h : S[i]? = some p) : (tdL S)[i]? = some (p.k.v, p.v) := by
  unfold tdL
  rw [List.getElem?_map, h]
  rfl
theorem tdL_no {S : List Td} {k : Pk} (h : ∀ p ∈ S, p.k ≠ k) : ∀ p ∈ tdL S, p.1 ≠ k.v := fun p hp e => by
  obtain ⟨x, hx, rfl⟩ := List.mem_map.1 hp
  exact h x hx (Pk.v_inj e)
theorem tdL_back {S : List Td} {i : Nat} {key v : Value} (h : (tdL S)[i]? = some (key, v)) : ∃ p, S[i]? = some p ∧ key = p.k.v ∧ v = p.v := by
  unfold tdL at h
  rw [List.getElem?_map] at h
  cases hs : S[i]? with
  | none => rw [hs] at h; cases h
  | some p =>
    rw [hs] at h
    simp only [Option.map_some, Option.some.injEq, Prod.mk.injEq] at h
    exact ⟨p, rfl, h.1.symm, h.2.symm⟩
theorem tdL_erase (S : List Td) (j : Nat) : (tdL S).eraseIdx j = tdL (S.eraseIdx j) := by unfold tdL; rw [← Go.ChangeMaps.map_eraseIdx]
theorem tdL_snoc (S : List Td) (t : Td) : tdL S ++ [(t.k.v, t.v)] = tdL (S ++ [t]) := by simp [tdL]
theorem tdL_set (S : List Td) (j : Nat) (t : Td) : (tdL S).set j (t.k.v, t.v) = tdL (S.set j t) := by
  unfold tdL
  rw [List.map_set]
theorem OwnM.keepX {w w' : World} {base C : Nat} {e : TypeId} {v : Value} {n : Nat} {xs : List Value} {X : Nat → Prop} (h : OwnM w base e C v n xs) (hg : GrownX X w w') (hX : ∀ i, X i → ∀ cs T fr, w.heap[i]? ≠ some (.cells cs T fr)) : OwnM w' base e C v n xs :=
  OwnM.keep h (fun k hk => hg.block k (OwnM.lt h k hk).2 (fun hx => by
    rcases h.2 with ⟨rfl, _⟩ | ⟨q, cap, cur, fr, rfl, _, hq, _⟩
    · simp [Value.ownBlock] at hk
    · simp [Value.ownBlock] at hk
      subst hk
      exact hX _ hx _ _ _ hq))
theorem AtO.keepX {w w' : World} {base : Nat} {a : Atr} {X : Nat → Prop} (h : AtO w base a) (hg : GrownX X w w') (hX : ∀ i, X i → ∀ cs T fr, w.heap[i]? ≠ some (.cells cs T fr)) : AtO w' base a :=
  { h with path := ⟨OwnM.keepX h.path.own hg hX, fun s hs => ⟨OwnM.keepX (h.path.as_ s hs).1 hg hX, (h.path.as_ s hs).2⟩⟩, comms := OwnM.keepX h.comms hg hX, exts := OwnM.keepX h.exts hg hX, larges := OwnM.keepX h.larges hg hX, clus := OwnM.keepX h.clus hg hX }
/-- a rib in memory -/
structure RibAt (w : World) (base b m : Nat) (most : Int) (S : List Td) : Prop where
  blk : CellsAt w b #[.int .i64 most, .map (some m)] 63
  map : MapAt Try.prog 65 w m (tdL S)
  ne : b ≠ m
  ok : ∀ p ∈ S, p.k.Ok ∧ p.label < 4294967296
  own : ∀ p ∈ S, AtO w base p.a
  sz : ∀ p ∈ S, AtrSz p.a.c
  len : S.length ≤ 1000
  low : base ≤ b ∧ base ≤ m
section
variable {w w' : World} {base b m : Nat} {most : Int} {S : List Td}
theorem RibAt.lt (h : RibAt w base b m most S) : b < w.heap.size ∧ m < w.heap.size := ⟨h.blk.lt, h.map.lt⟩
theorem RibAt.keep (h : RibAt w base b m most S) (hk : ∀ i, base ≤ i → i < w.heap.size → w'.heap[i]? = w.heap[i]?) : RibAt w' base b m most S :=
  { h with blk := (hk b h.low.1 h.blk.lt).trans h.blk, map := h.map.keep (hk m h.low.2 h.map.lt), own := fun p hp => (h.own p hp).keep hk }
theorem RibAt.below (h : RibAt w base b m most S) (hb : Below w.heap.size w w') : RibAt w' base b m most S := h.keep fun i _ hi => hb.block i hi
theorem RibAt.drew (h : RibAt w base b m most S) (n : Nat) : RibAt (w.drewN n) base b m most S := h.keep fun i _ _ => rfl
theorem RibAt.alloc (h : RibAt w base b m most S) (o : Obj) : RibAt (w.alloc o) base b m most S := h.below ((Below.refl _ _).alloc (Nat.le_refl _) o)
theorem RibAt.keys (h : RibAt w base b m most S) : S.Pairwise (fun p q => p.k ≠ q.k) := by
  have := h.map.apart
  unfold tdL at this
  rw [List.pairwise_map] at this
  exact this.imp (fun hne e => hne (by rw [e]))
theorem RibAt.mapBlk (h : RibAt w base b m most S) : ∀ cs T fr, w.heap[m]? ≠ some (.cells cs T fr) := fun cs T fr e => by
  obtain ⟨es, clock, hb, _⟩ := h.map
  rw [hb] at e
  cases e
end
theorem keyp_one {S : List Td} (h : S.Pairwise (fun p q => p.k ≠ q.k)) {i j : Nat} {p q : Td} (hi : S[i]? = some p) (hj : S[j]? = some q) (e : p.k = q.k) : i = j := by
  obtain ⟨a1, a2⟩ := List.getElem?_eq_some_iff.1 hi
  obtain ⟨b1, b2⟩ := List.getElem?_eq_some_iff.1 hj
  rcases Nat.lt_trichotomy i j with hl | he | hg
  · have := List.pairwise_iff_getElem.1 h i j a1 b1 hl
    rw [a2, b2] at this
    exact absurd e this
  · exact he
  · have := List.pairwise_iff_getElem.1 h j i b1 a1 hg
    rw [a2, b2] at this
    exact absurd e.symm this
theorem zero_td (w : World) : (zeroValue 67).run Try.prog w = .ok (.agg (Td.mk ⟨0, 0, ⟨#[]⟩, 0, 0⟩ 0 noAtr false).ar) w := by kernel_rfl
theorem rnone_any (b m : Nat) (most : Int) (w : World) (h : CellsAt w b #[.int .i64 most, .map (some m)] 63) : Calls Try.prog 23 #[.pointer (some ⟨b, 0, none⟩)] w fun e w' => e = .returned (.bool false) ∧ w' = w := by
  have q1 := fun (w : World) (r : Option Nat) => run_eql_map_nil (P := Try.prog) w 61 _ _ r Try.underlying61
  obtain ⟨c0, c1⟩ := h.c2
  go_enter Try.func23, Try.ntmps23
  go_wp2_with fail
  go_ret
  exact ⟨rfl, rfl⟩
end Go.Proofs.Ytldpcliahfiloaa
