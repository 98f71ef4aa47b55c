/-
  The chapter's three paths; its examples. Conditions: sizes.
-/
import Derived.Test.YtoamigfjpcniaaaDeO
set_option linter.unusedVariables false
set_option linter.unusedSimpArgs false
namespace Go.Proofs.Ytoamigfjpcniaaa
open Go.RowKit Go.MapKept Go.Shelf
open Go.Lib hiding intOf

def medP (p : Pt) (m : Int) : Pt := { p with hasMed := true, med := m }
theorem medP_ok {w : World} {p : Pt} (h : PtOk w p) (m : Int) : PtOk w (medP p m) := ⟨h.rd, h.segs, h.len, h.cap, h.clen, h.ccap, h.peer, h.addr, h.crd, h.one1, h.one2, h.one3⟩
/-- a path of a neighbour with one segment of a list of ASs -/
def OneP (w : World) (peer : ByteArray) (id : Int) (l : List Nat) (p : Pt) : Prop := ∃ (A B : Option Addr) (c d : Nat), p = mkP peer id A [⟨2, B, l, d⟩] c ∧ PtOk w p
theorem OneP.below {w w' : World} {peer : ByteArray} {id : Int} {l : List Nat} {p : Pt} (h : OneP w peer id l p) (hb : Below w.heap.size w w') : OneP w' peer id l p := by
  obtain ⟨A, B, c, d, e, ho⟩ := h
  exact ⟨A, B, c, d, e, ho.below hb (Nat.le_refl _)⟩
theorem path_one (peer : ByteArray) (id : Int) (l : List Nat) (b n : Nat) (T : TypeId) (cs : Array Value) (w : World) (hc : CellsAt w b cs T) (hcs : cs = (l.map fun n => Value.int .u32 (n : Nat)).toArray) (hn : l.length = n) (h0 : 0 < l.length) (hl : l.length ≤ 1000000) (hf : ∀ n ∈ l, n < 4294967296) (hp : peer.size ≤ 9223372036854775807) :
    Calls Try.prog 30 #[.string peer, .int .u32 id, .slice (some ⟨b, 0, none⟩) n n] w fun e w' => ∃ p, e = .returned (.agg p.cs) ∧ OneP w' peer id l p ∧ Below w.heap.size w w' := by
  subst hn
  subst hcs
  refine (path_any peer id (sgA (some ⟨b, 0, none⟩) l l.length) w rfl (sg_new hc hl hf) h0 hp).mono ?_
  rintro e w' ⟨A, c, rfl, ho, hb⟩
  exact ⟨_, rfl, ⟨A, some ⟨b, 0, none⟩, c, l.length, rfl, ho⟩, hb⟩

/-- the chapter's three -/
def ThreeAt (w : World) (b : Nat) (p1 p2 p3 : Pt) : Prop := CellsAt w b (rows [medP p1 5, medP p2 3, medP p3 9]) 38 ∧ OneP w ⟨#[97]⟩ 1 [1] p1 ∧ OneP w ⟨#[98]⟩ 2 [1] p2 ∧ OneP w ⟨#[99]⟩ 3 [2] p3
theorem CellsAt.setc {w : World} {b : Nat} {cs : Array Value} {T : TypeId} (h : CellsAt w b cs T) (i : Nat) (u : Value) : CellsAt (w.setCell ⟨b, i, none⟩ u) b (cs.setIfInBounds i u) T := by
  have h2 : w.heap[b]? = some (.cells cs T (0, 0)) := h
  rw [setCell_eq_setRow w b i _ _ _ _ h2]
  exact setRow_heap w b _ _ _ _ h2
theorem CellsAt.frozen {w : World} {b : Nat} {cs : Array Value} {T : TypeId} (h : CellsAt w b cs T) (i : Nat) : w.frozen? ⟨b, i, none⟩ = false := by
  have h2 : w.heap[b]? = some (.cells cs T (0, 0)) := h
  simp only [World.frozen?, h2]
  exact Bool.and_eq_false_iff.2 (.inr (by simp))
theorem CellsAt.cast {w : World} {b : Nat} {cs ds : Array Value} {T : TypeId} (h : CellsAt w b cs T) (e : cs = ds) : CellsAt w b ds T := e ▸ h
def rowsK (k : Nat) (p1 p2 p3 : Pt) : Array Value := rows [if 0 < k then medP p1 5 else p1, if 1 < k then medP p2 3 else p2, if 2 < k then medP p3 9 else p3]
set_option maxRecDepth 100000 in
set_option maxHeartbeats 4000000 in
theorem three_any (w : World) : Calls Try.prog 31 #[] w fun e w' => ∃ b p1 p2 p3, e = .returned (.slice (some ⟨b, 0, none⟩) 3 3) ∧ ThreeAt w' b p1 p2 p3 ∧ Below w.heap.size w w' := by
  have HP := Lib.hid path_one
  go_enter Try.func31, Try.ntmps31
  go_wp2_with fail
  refine (HP.out ⟨#[97]⟩ 1 [1] w.heap.size 1 _ _ _ (CellsAt.new w #[.int .u32 1] 28) rfl rfl (by decide) (by decide) (by decide) (by decide)).mono ?_
  rintro e w1 ⟨p1, rfl, ho1, hb1⟩
  have HQ1 := Lib.hid ho1
  have HB1 : Hid (Below w.heap.size w w1) := ((Below.refl _ _).alloc (Nat.le_refl _) _).trans (hb1.mono (by simp))
  clear ho1 hb1
  have hs1 : w.heap.size ≤ w1.heap.size := HB1.out.size
  go_wp2_with fail
  refine (HP.out ⟨#[98]⟩ 2 [1] w1.heap.size 1 _ _ _ (CellsAt.new w1 #[.int .u32 1] 28) rfl rfl (by decide) (by decide) (by decide) (by decide)).mono ?_
  rintro e w2 ⟨p2, rfl, ho2, hb2⟩
  have HQ2 := Lib.hid ho2
  have HB2 : Hid (Below w.heap.size w w2) := (HB1.out.alloc hs1 _).trans (hb2.mono (by simp; omega))
  have HQ1b : Hid (OneP w2 ⟨#[97]⟩ 1 [1] p1) := HQ1.out.below (((Below.refl w1.heap.size w1).alloc (Nat.le_refl _) _).trans (hb2.mono (by simp)))
  clear ho2 hb2
  have hs2 : w.heap.size ≤ w2.heap.size := HB2.out.size
  go_wp2_with fail
  refine (HP.out ⟨#[99]⟩ 3 [2] w2.heap.size 1 _ _ _ (CellsAt.new w2 #[.int .u32 2] 28) rfl rfl (by decide) (by decide) (by decide) (by decide)).mono ?_
  rintro e w3 ⟨p3, rfl, ho3, hb3⟩
  have HQ3 := Lib.hid ho3
  have HB3 : Hid (Below w.heap.size w w3) := (HB2.out.alloc hs2 _).trans (hb3.mono (by simp; omega))
  have HQ1c : Hid (OneP w3 ⟨#[97]⟩ 1 [1] p1) := HQ1b.out.below (((Below.refl w2.heap.size w2).alloc (Nat.le_refl _) _).trans (hb3.mono (by simp)))
  have HQ2c : Hid (OneP w3 ⟨#[98]⟩ 2 [1] p2) := HQ2.out.below (((Below.refl w2.heap.size w2).alloc (Nat.le_refl _) _).trans (hb3.mono (by simp)))
  clear ho3 hb3
  have hs3 : w.heap.size ≤ w3.heap.size := HB3.out.size
  go_wp2_with (with_reducible show wpList _ _ _ (_ :: _) _ _; refine wpList_build_paths rfl rfl [p1, p2, p3] ?hv rfl (by decide) (by decide) ?_)
  have HC0 : Hid (CellsAt (w3.alloc (.cells (rows [p1, p2, p3]) 38)) w3.heap.size (rows [p1, p2, p3]) 38) := CellsAt.new _ _ _
  have HB0 : Hid (Below w3.heap.size w3 (w3.alloc (.cells (rows [p1, p2, p3]) 38))) := (Below.refl _ _).alloc (Nat.le_refl _) _
  clear HP HQ1 HQ1b HQ2 HB1 HB2 hs1 hs2
  go_loopw [2] (fun i wr => ∃ k : Nat, k ≤ 3 ∧ i = .int .i64 k ∧ Hid (CellsAt wr w3.heap.size (rowsK k p1 p2 p3) 38) ∧ Hid (Below w3.heap.size w3 wr)) (fun i _ => 4 - (intOf i).toNat)
  case atStart => exact ⟨0, by omega, rfl, HC0.out, HB0.out⟩
  case round =>
    obtain ⟨k, hk, rfl, HC, HB⟩ := hrel
    clear HC0 HB0
    have hlt := HC.out.lt
    rcases (show k = 0 ∨ k = 1 ∨ k = 2 ∨ k = 3 by omega) with rfl | rfl | rfl | rfl
    · have l0 := (HC.out.c 9).trans (show (rowsK 0 p1 p2 p3)[9]? = some (.bool p1.hasMed) from by kernel_rfl)
      have l1 := (HC.out.c 10).trans (show (rowsK 0 p1 p2 p3)[10]? = some (.int .u32 p1.med) from by kernel_rfl)
      have f0 := HC.out.frozen 9
      have f1 := HC.out.frozen 10
      go_wp2_with fail
      exact ⟨⟨1, by omega, rfl, (((HC.out.setc 9 _).setc 10 _).alloc _).cast (by kernel_rfl), (below_setCell (below_setCell HB.out (Nat.le_refl _) _) (Nat.le_refl _) _).alloc (by simp [World.setCell]; omega) _⟩, by simp [intOf]⟩
    · have l0 := (HC.out.c 38).trans (show (rowsK 1 p1 p2 p3)[38]? = some (.bool p2.hasMed) from by kernel_rfl)
      have l1 := (HC.out.c 39).trans (show (rowsK 1 p1 p2 p3)[39]? = some (.int .u32 p2.med) from by kernel_rfl)
      have f0 := HC.out.frozen 38
      have f1 := HC.out.frozen 39
      go_wp2_with fail
      exact ⟨⟨2, by omega, rfl, (((HC.out.setc 38 _).setc 39 _).alloc _).cast (by kernel_rfl), (below_setCell (below_setCell HB.out (Nat.le_refl _) _) (Nat.le_refl _) _).alloc (by simp [World.setCell]; omega) _⟩, by simp [intOf]⟩
    · have l0 := (HC.out.c 67).trans (show (rowsK 2 p1 p2 p3)[67]? = some (.bool p3.hasMed) from by kernel_rfl)
      have l1 := (HC.out.c 68).trans (show (rowsK 2 p1 p2 p3)[68]? = some (.int .u32 p3.med) from by kernel_rfl)
      have f0 := HC.out.frozen 67
      have f1 := HC.out.frozen 68
      go_wp2_with fail
      exact ⟨⟨3, by omega, rfl, (((HC.out.setc 67 _).setc 68 _).alloc _).cast (by kernel_rfl), (below_setCell (below_setCell HB.out (Nat.le_refl _) _) (Nat.le_refl _) _).alloc (by simp [World.setCell]; omega) _⟩, by simp [intOf]⟩
    · go_wp2_with fail
      go_ret
      exact ⟨w3.heap.size, p1, p2, p3, rfl, ⟨HC.out, HQ1c.out.below HB.out, HQ2c.out.below HB.out, HQ3.out.below HB.out⟩, HB3.out.trans (HB.out.mono hs3)⟩
end Go.Proofs.Ytoamigfjpcniaaa
