/-
  The chapter's small attributes made; what works computes of them, plainly. Conditions: none.
-/
import Derived.Test.YtkcojblflebomaaGreatAbG
import Derived.Test.YtkcojblflebomaaGreatAbL
import Derived.Deep.MidRow
set_option linter.unusedVariables false
set_option linter.unusedSimpArgs false
namespace Go.Proofs.YtkcojblflebomaaGreat
open Go.RowKit Go.MapKept Go.Shelf
open Go.Lib hiding intOf

theorem attrs_ones (p : Atr) : p.ar.all Value.oneCell' = true := Array.all_eq_true_iff_forall_mem.2 (fun u hu => by
  simp only [Atr.ar, List.mem_toArray, List.mem_cons, List.not_mem_nil, or_false] at hu
  rcases hu with rfl | rfl | rfl | rfl | rfl | rfl | rfl | rfl | rfl | rfl | rfl | rfl | rfl | rfl | rfl | rfl <;> rfl)
theorem wpList_store_attrs {ops : Array Oper} {rest : List Oper} {op : Oper} {a : Act} {w : World} {Q : Exit → Act → World → Prop} (hgd : op.guard = none) (x y : Operand) (ho : op.op = .store 40 x y) (b : Nat) (hx : a.eval x = .pointer (some ⟨b, 0, none⟩)) (p : Atr) (hy : a.eval y = .agg p.ar) (q : Atr) (hc : CellsAt w b q.ar 40)
    (h : wpList Tryz.prog ops Q rest (a.put op.dst undef) (w.setRow b p.ar)) : wpList Tryz.prog ops Q (op :: rest) a w :=
  wpList_store_row hgd 40 x y ho b p.ar hx hy 40 q.ar hc (by rw [attrs_size]; rfl) rfl (attrs_ones p) h
theorem CellsAt.setRow' {w : World} {b : Nat} {cs : Array Value} {T : TypeId} (h : CellsAt w b cs T) (ds : Array Value) : CellsAt (w.setRow b ds) b ds T := setRow_heap w b _ _ _ _ h
theorem grown_setRow' (w : World) (b : Nat) (ds : Array Value) : w.grownBy (w.setRow b ds) (some b) :=
  ⟨rfl, rfl, rfl, by rw [setRow_size]; exact Nat.le_refl _, fun i h1 h2 => setRow_other w b i ds (fun e => h2 (by rw [e]))⟩
theorem results_attrs {fn : Func} {p : Tmp} (h : fn.results = #[.cell p 40]) (tmps : Array Value) (w : World) (g : Nat) (x : Atr) (hp : tmps.getD p undef = .pointer (some ⟨g, 0, none⟩)) (hg : CellsAt w g x.ar 40) :
    (results fn tmps).run Tryz.prog w = .ok x.v w := by
  obtain ⟨fs, hu⟩ := attrs_under
  exact results_cell_row h tmps w g 40 x.ar (0, 0) _ hp hg hu rfl (by rw [attrs_size]; rfl)
def oneC : AtC := ⟨1, [(2, [1])], ⟨#[10, 0, 0, 1]⟩, false, 0, false, 0, false, 0, 0, [], [], [], false, 0, []⟩
def oneA (n : Nat) : Atr := ⟨1, some ⟨n + 1 + 1, 0, none⟩, [⟨2, some ⟨n + 1, 0, none⟩, [1], 1⟩], 1, ⟨#[10, 0, 0, 1]⟩, false, 0, false, 0, false, 0, 0, none, [], 0, none, [], 0, none, [], 0, false, 0, none, [], 0⟩
theorem oneA_c (n : Nat) : (oneA n).c = oneC := rfl
theorem rd_none (w : World) (C : Nat) : Rd w none C [] := fun h => absurd h (by simp)
theorem oneA_ok {w : World} {n : Nat} (h1 : CellsAt w (n + 1) #[.int .u32 1] 35) (h2 : CellsAt w (n + 1 + 1) #[.int .i64 2, .slice (some ⟨n + 1, 0, none⟩) 1 1] 61) : AtrOk w (oneA n) := by
  have hs : SgOk w ⟨2, some ⟨n + 1, 0, none⟩, [1], 1⟩ := by
    refine ⟨fun _ => ⟨n + 1, 0, rfl, h1.lt, fun i cs hi j u hu => ?_⟩, Nat.le_refl _, show (1 : Nat) ≤ maxLen by decide, show ∀ n ∈ [1], n < 4294967296 by decide, show (-9223372036854775808 : Int) ≤ 2 ∧ (2 : Int) ≤ 9223372036854775807 by decide⟩
    match i, hi with
    | 0, hi =>
      obtain rfl : [Value.int .u32 ((1 : Nat) : Int)] = cs := Option.some.inj hi
      rw [show 0 + 0 * 1 + j = j by omega, h1.c, ← Array.getElem?_toList]
      exact hu
    | i + 1, hi => cases hi
  exact {
    prd := fun _ => ⟨n + 1 + 1, 0, rfl, h2.lt, fun i cs hi j u hu => by
      match i, hi with
      | 0, hi =>
        obtain rfl : [Value.int .i64 2, .slice (some ⟨n + 1, 0, none⟩) 1 1] = cs := Option.some.inj hi
        rw [show 0 + 0 * 2 + j = j by omega, h2.c, ← Array.getElem?_toList]
        exact hu
      | i + 1, hi => cases hi⟩
    segs := fun s hm => by
      obtain rfl := List.mem_singleton.1 hm
      exact hs
    plen := Nat.le_refl _
    pcap := show (1 : Nat) ≤ maxLen by decide
    next := show (4 : Nat) ≤ 9223372036854775807 by decide
    mrd := rd_none _ _
    mlen := Nat.le_refl _
    mcap := show (0 : Nat) ≤ maxLen by decide
    mfit := fun n h => by cases h
    xrd := rd_none _ _
    xlen := Nat.le_refl _
    xcap := show (0 : Nat) ≤ maxLen by decide
    xfit := fun n h => by cases h
    lrd := rd_none _ _
    llen := Nat.le_refl _
    lcap := show (0 : Nat) ≤ maxLen by decide
    lfit := fun n h => by cases h
    krd := rd_none _ _
    klen := Nat.le_refl _
    kcap := show (0 : Nat) ≤ maxLen by decide
    kfit := fun n h => by cases h
    ofit := show (-9223372036854775808 : Int) ≤ 1 ∧ (1 : Int) ≤ 9223372036854775807 by decide
    nfit := show (0 : Nat) < 4294967296 ∧ (0 : Nat) < 4294967296 ∧ (0 : Nat) < 4294967296 ∧ (0 : Nat) < 4294967296 ∧ (0 : Nat) < 4294967296 by decide }
set_option maxRecDepth 100000 in
set_option maxHeartbeats 4000000 in
theorem one_any (w : World) : Calls Tryz.prog 32 #[] w fun e w' => (∃ a : Atr, e = .returned a.v ∧ AtrOk w' a ∧ a.c = oneC) ∧ Below w.heap.size w w' := by
  go_enter Tryz.func32, Tryz.ntmps32
  have HA1 : Hid (∀ cs : Array Value, CellsAt (((w.alloc (.cells cs 40)).alloc (.cells #[.int .u32 1] 35)).alloc (.cells #[.int .i64 2, .slice (some ⟨w.heap.size + 1, 0, none⟩) 1 1] 61)) w.heap.size cs 40) := fun cs => ((CellsAt.new _ _ _).alloc _).alloc _
  have HA2 : Hid (∀ cs : Array Value, AtrOk (((w.alloc (.cells cs 40)).alloc (.cells #[.int .u32 1] 35)).alloc (.cells #[.int .i64 2, .slice (some ⟨w.heap.size + 1, 0, none⟩) 1 1] 61)) (oneA w.heap.size)) := fun cs => by
    have e1 : (w.alloc (.cells cs 40)).heap.size = w.heap.size + 1 := by simp
    have e2 : ((w.alloc (.cells cs 40)).alloc (.cells #[.int .u32 1] 35)).heap.size = w.heap.size + 1 + 1 := by simp
    have h1 := CellsAt.new (w.alloc (.cells cs 40)) #[.int .u32 1] 35
    have h2 := CellsAt.new ((w.alloc (.cells cs 40)).alloc (.cells #[.int .u32 1] 35)) #[.int .i64 2, .slice (some ⟨w.heap.size + 1, 0, none⟩) 1 1] 61
    rw [e1] at h1
    rw [e2] at h2
    exact oneA_ok (h1.alloc _) h2
  have HA3 : Hid (∀ cs : Array Value, Below w.heap.size w (((w.alloc (.cells cs 40)).alloc (.cells #[.int .u32 1] 35)).alloc (.cells #[.int .i64 2, .slice (some ⟨w.heap.size + 1, 0, none⟩) 1 1] 61))) := fun cs => (((Below.refl _ _).alloc (Nat.le_refl _) _).alloc (by simp) _).alloc (by simp; omega) _
  go_wp2_with fail
  try simp only [Exit.inBlock, Exit.then]
  exact bodyPost_ret (results_attrs rfl _ _ w.heap.size (oneA w.heap.size) rfl (HA1.out (oneA w.heap.size).ar)) rfl ⟨⟨_, rfl, HA2.out (oneA w.heap.size).ar, rfl⟩, HA3.out (oneA w.heap.size).ar⟩
def oneRaws : List Rw := [⟨64, 1, ⟨#[1]⟩⟩, ⟨64, 2, ⟨#[2, 1, 0, 0, 0, 1]⟩⟩, ⟨64, 3, ⟨#[10, 0, 0, 1]⟩⟩]
def laidB : ByteArray := ⟨#[64, 1, 1, 1, 64, 2, 6, 2, 1, 0, 0, 0, 1, 64, 3, 4, 10, 0, 0, 1]⟩
def workT (t : Nat) : ByteArray → Bool → AtC → AtC × Bool := if t = 1 then fun v _ c => take1 v c else if t = 2 then take2 else fun v _ c => take3 v c
theorem one_ok : atOk oneC = true := by decide +kernel
theorem one_write : writeF oneC true = oneRaws := by kernel_rfl
theorem one_lay : layR oneRaws = .tuple #[.string laidB, .int .i64 0] := by kernel_rfl
theorem one_split : splitA laidB = some oneRaws := by kernel_rfl
theorem one_read : readF workT true true [] ⟨0, [], ⟨#[]⟩, false, 0, false, 0, false, 0, 0, [], [], [], false, 0, []⟩ ⟨0, 0, 0⟩ oneRaws = (oneC, ⟨0, 0, 0⟩) := by kernel_rfl
end Go.Proofs.YtkcojblflebomaaGreat
