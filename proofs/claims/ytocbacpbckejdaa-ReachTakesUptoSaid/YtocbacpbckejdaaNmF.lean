/-
  What heraldref07.first stands on; laws of its steps. Conditions: sizes.
-/
import Derived.Test.YtocbacpbckejdaaNmE
set_option linter.unusedVariables false
set_option linter.unusedSimpArgs false
namespace Go.Proofs.Ytocbacpbckejdaa
open Go.RowKit

/-- the result's block and the block of the prefix that is being read -/
structure FrAt (w V : World) (c6 c8 : Nat) (n : Nl) : Prop where
  bl : Below w.heap.size w V
  res : CellsAt V c6 nlZero.cs.toArray 47
  box : CellsAt V c8 n.cs.toArray 47
  h6 : w.heap.size ≤ c6
  h8 : w.heap.size ≤ c8
  ne : c6 ≠ c8
section
variable {w V V' : World} {c6 c8 : Nat} {n : Nl}
theorem FrAt.new (w : World) : FrAt w ((w.alloc (.cells nlZero.cs.toArray 47)).alloc (.cells nlZero.cs.toArray 47)) w.heap.size (w.heap.size + 1) nlZero := by
  refine ⟨((Below.refl _ _).alloc (Nat.le_refl _) _).alloc (by simp) _, (CellsAt.new _ _ _).alloc _, ?_, Nat.le_refl _, by omega, by omega⟩
  have h := CellsAt.new (w.alloc (.cells nlZero.cs.toArray 47)) nlZero.cs.toArray 47
  rwa [World.size_alloc] at h
theorem FrAt.below (h : FrAt w V c6 c8 n) (hb : Below V.heap.size V V') : FrAt w V' c6 c8 n := ⟨h.bl.trans (hb.mono h.bl.size), h.res.below hb h.res.lt, h.box.below hb h.box.lt, h.h6, h.h8, h.ne⟩
theorem FrAt.alloc (h : FrAt w V c6 c8 n) (o : Obj) : FrAt w (V.alloc o) c6 c8 n := h.below ((Below.refl _ _).alloc (Nat.le_refl _) o)
theorem FrAt.drewN (h : FrAt w V c6 c8 n) (q : Nat) : FrAt w (V.drewN q) c6 c8 n := h.below (below_drewN (Below.refl _ _) q)
theorem FrAt.set (h : FrAt w V c6 c8 n) (i : Nat) (v : Value) (n' : Nl) (e : n.cs.toArray.setIfInBounds i v = n'.cs.toArray) : FrAt w (V.setCell ⟨c8, i, none⟩ v) c6 c8 n' :=
  ⟨h.bl.setCell (p := ⟨c8, i, none⟩) h.h8 v, h.res.setOther (p := ⟨c8, i, none⟩) h.ne v, (h.box.setc i v).cast e, h.h6, h.h8, h.ne⟩
/-- another block turns -/
theorem FrAt.high (h : FrAt w V c6 c8 n) {g : Nat} (hg : V.grownBy V' (some g)) (g1 : w.heap.size ≤ g) (g2 : c6 ≠ g) (g3 : c8 ≠ g) : FrAt w V' c6 c8 n :=
  ⟨below_grownB h.bl hg g1 h.bl.size, (hg.block _ h.res.lt (fun e => g2 (Option.some.inj e))).trans h.res, (hg.block _ h.box.lt (fun e => g3 (Option.some.inj e))).trans h.box, h.h6, h.h8, h.ne⟩
end
section
variable {ops : Array Oper} {rest : List Oper} {op : Oper} {a : Act} {Q : Exit → Act → World → Prop} {w V : World} {c6 c8 : Nat} {n : Nl}
/-- a cell of the prefix is laid -/
theorem wpList_fr_set (hgd : op.guard = none) (ty : TypeId) (p q : Operand) (ho : op.op = .store ty p q) (i : Nat) (hx : a.eval p = .pointer (some ⟨c8, i, none⟩)) (v : Value) (hy : a.eval q = v) (hi : (Try.prog.info? ty).map (·.size) = some 1)
    (hM : Hid (FrAt w V c6 c8 n)) (n' : Nl) (e : Hid (n.cs.toArray.setIfInBounds i v = n'.cs.toArray)) (hi2 : i < 6) (h1 : v.oneCell' = true)
    (h : ∀ V', Hid (FrAt w V' c6 c8 n') → Hid (V.grownBy V' (some c8)) → wpList Try.prog ops Q rest (a.put op.dst undef) V') : wpList Try.prog ops Q (op :: rest) a V :=
  wpList_plain hgd fun _ hK => by
    have hs : n.cs.toArray.size = 6 := rfl
    have ht : (V.cell? ⟨c8, i, none⟩).isSome = true := by rw [hM.out.box.c i, Array.getElem?_eq_getElem (by rw [hs]; exact hi2)]; rfl
    unfold Oper.wp execOp
    simp only [ho, hx, hy, run_storeAt_one (P := Try.prog) V c8 i ty v ht (hM.out.box.frozen i) hi h1, Sem.run_bind, Sem.run_pure, Result.andThen_ok]
    exact hK _ _ (h _ (hM.out.set i v n' e.out) (grown_setCell V _ _))
/-- the whole prefix is laid as the result -/
theorem wpList_fr_res (hgd : op.guard = none) (p q : Operand) (ho : op.op = .store 47 p q) (hx : a.eval p = .pointer (some ⟨c6, 0, none⟩)) (hy : a.eval q = n.v)
    (hM : Hid (FrAt w V c6 c8 n))
    (h : ∀ V', Hid (CellsAt V' c6 n.cs.toArray 47) → Hid (Below w.heap.size w V') → wpList Try.prog ops Q rest (a.put op.dst undef) V') : wpList Try.prog ops Q (op :: rest) a V := by
  obtain ⟨i0, z0, hinf, _, hsz, _, _⟩ := infoNl2
  have hr : V.heap[c6]? = some (.cells nlZero.cs.toArray 47 (0, 0)) := hM.out.res
  have hst := run_storeCells_m (P := Try.prog) c6 0 47 (0, 0) n.cs 0 nlZero.cs.toArray V hr (by rw [Nl.cs_length]; exact Nat.le_refl 6) (.inl (Nat.le_refl _)) n.ones
  have hrun := run_storeAt_many V c6 0 47 n.cs _ (by rw [hinf, Option.map_some, hsz]; rfl) hst
  have hrun2 : (Instr.storeAt 47 (.pointer (some ⟨c6, 0, none⟩)) n.v).run Try.prog V = .ok () (V.setRow c6 (n.cs.toArray)) := hrun
  refine wpList_plain hgd fun K hK => ?_
  unfold Oper.wp execOp
  simp only [ho, hx, hy, hrun2, Sem.run_bind, Sem.run_pure, Result.andThen_ok]
  exact hK _ _ (h _ (setRow_heap V c6 _ _ _ _ hr) (Go.below_setRow hM.out.bl hM.out.h6 _))
end
/-- the answer of first -/
def RFPost (w : World) (f : Int) (add : Bool) (t : ByteArray) (e : Ending) (w' : World) : Prop := Below w.heap.size w w' ∧ match decStep f add t with
  | none => ∃ n : Nl, e = .returned (.tuple #[n.v, .int .i64 0])
  | some (x, t') => ∃ k : Nat, 0 < k ∧ k ≤ t.size ∧ t' = t.extract k t.size ∧ e = .returned (.tuple #[x.v, .int .i64 k])
theorem RFPost.no {w w' : World} {f : Int} {add : Bool} {t : ByteArray} {e : Ending} (h : decStep f add t = none) (n : Nl) (he : e = .returned (.tuple #[n.v, .int .i64 0])) (hb : Below w.heap.size w w') : RFPost w f add t e w' := by
  refine ⟨hb, ?_⟩
  rw [h]
  exact ⟨n, he⟩
theorem RFPost.yes {w w' : World} {f : Int} {add : Bool} {t : ByteArray} {e : Ending} {x : Nl} {k : Nat} (h : decStep f add t = some (x, t.extract k t.size)) (h0 : 0 < k) (h1 : k ≤ t.size) (he : e = .returned (.tuple #[x.v, .int .i64 k])) (hb : Below w.heap.size w w') : RFPost w f add t e w' := by
  refine ⟨hb, ?_⟩
  rw [h]
  exact ⟨k, h0, h1, rfl, he⟩

/-- the bits of an address, laid one by one -/
def mL (sz : Nat) (told : ByteArray) (j : Nat) : List UInt8 := maskK (addrL sz told) j sz
theorem mL_length {sz : Nat} {told : ByteArray} (h : told.size ≤ sz) (j : Nat) : (mL sz told j).length = sz := by unfold mL; rw [maskK_length, addrL_length h]
theorem mL_zero {sz : Nat} {told : ByteArray} (h : told.size ≤ sz) : mL sz told 0 = List.replicate sz 0 := by
  apply List.ext_getElem?
  intro i
  have hl := addrL_length h
  by_cases hi : i < sz
  · unfold mL maskK
    rw [List.getElem?_mapIdx, List.getElem?_eq_getElem (by omega), Option.map_some, if_pos hi, List.getElem?_replicate, if_pos hi]
    unfold mval
    rw [if_pos (by omega)]
  · rw [List.getElem?_eq_none (by rw [mL_length h]; omega), List.getElem?_eq_none (by rw [List.length_replicate]; omega)]
theorem addrL_at {sz q : Nat} {told : ByteArray} {x : UInt8} (h : told.data.toList[q]? = some x) : (addrL sz told)[q]? = some x := by
  unfold addrL overL
  rw [List.getElem?_append_left (List.getElem?_eq_some_iff.1 h).1]
  exact h
theorem mL_at {sz q j : Nat} {told : ByteArray} {x : UInt8} (hs : told.size ≤ sz) (hq : q < sz) (h : told.data.toList[q]? = some x) : (mL sz told j)[q]? = some (mval x ((j : Int) - 8 * q)) := by
  unfold mL maskK
  rw [List.getElem?_mapIdx, addrL_at h, Option.map_some, if_pos hq]
theorem mL_succ {sz j : Nat} {told : ByteArray} {x : UInt8} (hs : told.size ≤ sz) (hq : j / 8 < sz) (h : told.data.toList[j / 8]? = some x) : mL sz told (j + 1) = (mL sz told j).set (j / 8) (mval x (((j + 1 : Nat) : Int) - 8 * (j / 8 : Nat))) := by
  have hl := addrL_length hs
  apply List.ext_getElem?
  intro i
  by_cases hi : i < sz
  · by_cases hiq : i = j / 8
    · subst hiq
      rw [mL_at hs hq h, List.getElem?_set_self (by rw [mL_length hs]; exact hq)]
    · rw [List.getElem?_set_ne (by omega)]
      unfold mL maskK
      rw [List.getElem?_mapIdx, List.getElem?_mapIdx]
      obtain ⟨y, hy⟩ : ∃ y, (addrL sz told)[i]? = some y := ⟨_, List.getElem?_eq_getElem (by omega)⟩
      rw [hy, Option.map_some, Option.map_some, if_pos hi, if_pos hi]
      congr 1
      unfold mval
      by_cases hlt : i < j / 8
      · rw [if_neg (by omega), if_neg (by omega), if_neg (by omega), if_neg (by omega)]
      · rw [if_pos (by omega), if_pos (by omega)]
  · rw [List.getElem?_eq_none (by rw [mL_length hs]; omega), List.getElem?_eq_none (by rw [List.length_set, mL_length hs]; omega)]
theorem mL_end {sz bits : Nat} {told : ByteArray} (hs : told.size ≤ sz) : (⟨(mL sz told bits).toArray⟩ : ByteArray) = addrB sz bits told := by
  unfold addrB maskB mL
  have e : (ByteArray.mk (addrL sz told).toArray).size = sz := by
    show (addrL sz told).toArray.size = sz
    rw [List.size_toArray, addrL_length hs]
  rw [e]
theorem bit_step (x : UInt8) (r : Nat) (h : r < 8) : bits .or .u8 ((mval x (r : Int)).toNat : Int) (bits .and .u8 (x.toNat : Int) (128 / 2 ^ r)) = ((mval x ((r : Int) + 1)).toNat : Int) := by
  have key : ∀ (y : Fin 256) (t : Fin 8), bits .or .u8 ((mval (UInt8.ofNat y.val) (t.val : Int)).toNat : Int) (bits .and .u8 ((UInt8.ofNat y.val).toNat : Int) (128 / 2 ^ t.val)) = ((mval (UInt8.ofNat y.val) ((t.val : Int) + 1)).toNat : Int) := by decide +kernel
  have k := key ⟨x.toNat, x.toNat_lt⟩ ⟨r, h⟩
  have hx : UInt8.ofNat x.toNat = x := by simp
  simp only [hx] at k
  exact k
theorem u32_par (v : Nat) (h : v < 16777216) : bits .and .u32 (v : Int) 1 = (v : Int) % 2 := by
  rw [u32_and _ _ (by omega) (by omega) (by omega) (by omega)]
  have e : ((v : Int).toNat &&& (1 : Int).toNat) = v % 2 := by
    rw [Int.toNat_natCast]
    exact Nat.and_one_is_mod v
  rw [e]
  omega
end Go.Proofs.Ytocbacpbckejdaa
