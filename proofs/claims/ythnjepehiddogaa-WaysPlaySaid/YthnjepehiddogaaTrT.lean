/-
  Prefixes that came in; contract of prim.Covers. Conditions: sizes.
-/
import Derived.Test.YthnjepehiddogaaTrS
import Derived.Lib.SmallJoins
set_option linter.unusedVariables false
set_option linter.unusedSimpArgs false
namespace Go.Proofs.Ythnjepehiddogaa
open Go.RowKit Go.MapKept
open Go.ChangeShapes Go.WideShapes Go.ChangeAt Go.Joins

/-- whatever prefix -/
structure Px where
  fam : Int
  rd : Int
  addr : ByteArray
  len : Int
def Px.cs (x : Px) : List Value := [.int .i64 x.fam, .int .u64 x.rd, .string x.addr, .int .i64 x.len]
def Px.v (x : Px) : Value := .agg #[.int .i64 x.fam, .int .u64 x.rd, .string x.addr, .int .i64 x.len]
def Px.tp (x : Px) : Tp := ⟨x.fam, x.rd, x.addr, x.len.toNat⟩
structure Px.In (x : Px) : Prop where
  addr : x.addr.size ≤ 9223372036854775807
  len : -9223372036854775808 ≤ x.len ∧ x.len ≤ 9223372036854775807
theorem list4 {α : Type} {l : List α} (h : l.length = 4) : ∃ a b c d, l = [a, b, c, d] := by
  match l, h with
  | [a, b, c, d], _ => exact ⟨a, b, c, d, rfl⟩
section
variable {H : Type} {enc : TypeId × Value → H} {w : World} {held : Bool} {base : Nat} {sp : Nat → Bool}
theorem px_cs {n : Nat} {cs : List Value} {y : DataW H × List MemPlace} (h : DataW.trod enc Try.prog w base sp held n 30 cs = some y) : ∃ x : Px, x.In ∧ cs = x.cs := by
  obtain ⟨zs, m2, rfl, _, hlen2, hzl, hg⟩ := DataW.trod_struct Try.underlying30 h
  have hc2 : Try.prog.cellsOf 30 = 4 := by kernel_rfl
  have hc3 : Try.prog.cellsOf 9 = 1 := by kernel_rfl
  have hc4 : Try.prog.cellsOf 3 = 1 := by kernel_rfl
  have hc5 : Try.prog.cellsOf 28 = 1 := by kernel_rfl
  rw [hc2] at hlen2
  obtain ⟨a, b, c, d, rfl⟩ := list4 hlen2
  have g0 := hg 0 _ rfl
  have g1 := hg 1 _ rfl
  have g2 := hg 2 _ rfl
  have g3 := hg 3 _ rfl
  change DataW.trod enc Try.prog w base sp held m2 3 (([a, b, c, d].drop 0).take (Try.prog.cellsOf 3)) = zs[0]? at g0
  change DataW.trod enc Try.prog w base sp held m2 28 (([a, b, c, d].drop 1).take (Try.prog.cellsOf 28)) = zs[1]? at g1
  change DataW.trod enc Try.prog w base sp held m2 9 (([a, b, c, d].drop 2).take (Try.prog.cellsOf 9)) = zs[2]? at g2
  change DataW.trod enc Try.prog w base sp held m2 3 (([a, b, c, d].drop 3).take (Try.prog.cellsOf 3)) = zs[3]? at g3
  simp only [hc3, hc4, hc5, List.drop_succ_cons, List.drop_zero, List.take_succ_cons, List.take_zero] at g0 g1 g2 g3
  have z0 : zs[0]? = some (zs[0]'(by rw [hzl]; decide)) := List.getElem?_eq_getElem _
  have z1 : zs[1]? = some (zs[1]'(by rw [hzl]; decide)) := List.getElem?_eq_getElem _
  have z2 : zs[2]? = some (zs[2]'(by rw [hzl]; decide)) := List.getElem?_eq_getElem _
  have z3 : zs[3]? = some (zs[3]'(by rw [hzl]; decide)) := List.getElem?_eq_getElem _
  rw [z0] at g0
  rw [z1] at g1
  rw [z2] at g2
  rw [z3] at g3
  obtain ⟨fm, rfl, f1a, f1b⟩ := isI64 Try.underlying3 g0
  obtain ⟨rd, rfl, r1, r2⟩ := isU64 Try.underlying28 g1
  obtain ⟨ad, had, _, hads⟩ := DataW.trod_string Try.underlying9 g2
  obtain ⟨ln, rfl, n1, n2⟩ := isI64 Try.underlying3 g3
  simp only [List.cons.injEq, and_true] at had
  subst had
  unfold maxLen at hads
  exact ⟨⟨fm, rd, ad, ln⟩, ⟨hads, ⟨n1, n2⟩⟩, rfl⟩
end
/-- elements that came in, as a list -/
theorem elems_list {w : World} {α : Type} {F : α → List Value} {E : α → Prop} {b off C : Nat} : ∀ k : Nat, (∀ i, i < k → ∃ cs : List Value, cs.length = C ∧ (∃ x, E x ∧ cs = F x) ∧ ∀ j, j < C → w.cell? ⟨b, off + i * C + j, none⟩ = cs[j]?) →
    ∃ L : List α, L.length = k ∧ (∀ x ∈ L, E x) ∧ ∀ i x, L[i]? = some x → (F x).length = C ∧ ∀ j, j < C → w.cell? ⟨b, off + i * C + j, none⟩ = (F x)[j]?
  | 0, _ => ⟨[], rfl, (fun x h => by cases h), fun i x h => by cases h⟩
  | k + 1, h => by
    obtain ⟨L, hl, hE, hL⟩ := elems_list (w := w) (F := F) (E := E) (b := b) (off := off) (C := C) k (fun i hi => h i (by omega))
    obtain ⟨cs, h1, ⟨x, hx, rfl⟩, h3⟩ := h k (by omega)
    refine ⟨L ++ [x], by simp [hl], (fun y hy => ?_), fun i y hi => ?_⟩
    · rcases List.mem_append.1 hy with hy | hy
      · exact hE y hy
      · rw [List.mem_singleton.1 hy]; exact hx
    · by_cases hik : i < k
      · rw [List.getElem?_append_left (by omega)] at hi
        exact hL i y hi
      · have hi2 := (List.getElem?_eq_some_iff.1 hi).1
        rw [List.length_append, List.length_singleton] at hi2
        obtain rfl : i = k := by omega
        rw [List.getElem?_append_right (by omega), hl, Nat.sub_self] at hi
        obtain rfl : x = y := by simpa using hi
        exact ⟨h1, h3⟩
/-- a list of prefixes that came in: its first ones -/
structure PxAt (w : World) (A : Option Addr) (cap : Nat) (L : List Px) : Prop where
  le : L.length ≤ cap
  cp : cap ≤ 9223372036854775807
  nil : A = none → cap = 0
  ok : ∀ x ∈ L, x.In
  at_ : 0 < L.length → ∃ b off, A = some ⟨b, off, none⟩ ∧ b < w.heap.size ∧ ∀ i x, L[i]? = some x → w.cell? ⟨b, off + i * 4, none⟩ = some (.int .i64 x.fam) ∧ w.cell? ⟨b, off + i * 4 + 1, none⟩ = some (.int .u64 x.rd) ∧ w.cell? ⟨b, off + i * 4 + 2, none⟩ = some (.string x.addr) ∧ w.cell? ⟨b, off + i * 4 + 3, none⟩ = some (.int .i64 x.len)
theorem PxAt.of_elems {w : World} {A : Option Addr} {len cap k : Nat} (h : ElemsIn w A len cap 4 (fun cs => ∃ x : Px, x.In ∧ cs = x.cs)) (hk : k ≤ len) : ∃ L, L.length = k ∧ PxAt w A cap L := by
  obtain ⟨h1, h2, h3, h4⟩ := h
  unfold maxLen at h2
  rcases Nat.eq_zero_or_pos k with h0 | h0
  · subst h0
    exact ⟨[], rfl, Nat.zero_le _, h2, h3, (fun n hn => by cases hn), fun hl => absurd hl (by simp)⟩
  · obtain ⟨b, off, rfl, hb, hc⟩ := h4 (by omega)
    obtain ⟨L, hl, hE, hL⟩ := elems_list (w := w) (F := Px.cs) (E := Px.In) (b := b) (off := off) (C := 4) k (fun i hi => hc i (by omega))
    refine ⟨L, hl, ⟨by omega, h2, h3, hE, fun _ => ⟨b, off, rfl, hb, fun i n hi => ?_⟩⟩⟩
    have hq := (hL i n hi).2
    exact ⟨(hq 0 (by omega)).trans rfl, (hq 1 (by omega)).trans rfl, (hq 2 (by omega)).trans rfl, (hq 3 (by omega)).trans rfl⟩
/-- read in a world in which only blocks from a floor on turned -/
theorem PxAt.floor {w w' : World} {A : Option Addr} {cap B : Nat} {L : List Px} (h : PxAt w A cap L) (hb : Below B w w') (hB : w.heap.size ≤ B) : PxAt w' A cap L :=
  ⟨h.le, h.cp, h.nil, h.ok, fun hl => by
    obtain ⟨b, off, rfl, hlt, hc⟩ := h.at_ hl
    refine ⟨b, off, rfl, Nat.lt_of_lt_of_le hlt hb.size, fun i x hx => ?_⟩
    obtain ⟨c0, c1, c2, c3⟩ := hc i x hx
    exact ⟨(hb.cell (p := ⟨b, _, none⟩) (Nat.lt_of_lt_of_le hlt hB)).trans c0, (hb.cell (p := ⟨b, _, none⟩) (Nat.lt_of_lt_of_le hlt hB)).trans c1, (hb.cell (p := ⟨b, _, none⟩) (Nat.lt_of_lt_of_le hlt hB)).trans c2, (hb.cell (p := ⟨b, _, none⟩) (Nat.lt_of_lt_of_le hlt hB)).trans c3⟩⟩

/-- one that covers -/
def covX (x : Px) (b : Tp) : Prop := PrefOk x.fam x.rd x.addr x.len ∧ x.fam = b.fam ∧ x.rd = b.rd ∧ cov x.tp b
theorem covX_cut {x : Px} {b : Tp} (hb : b.Ok) (h0 : 0 ≤ x.len) (h1 : x.len ≤ b.len) : covX x b ↔ b.fam = x.fam ∧ b.rd = x.rd ∧ maskB b.addr x.len = x.addr := by
  obtain ⟨fam, rd, addr, len⟩ := x
  obtain ⟨k, rfl⟩ : ∃ k : Nat, len = (k : Int) := ⟨len.toNat, by
    have h2 : (0 : Int) ≤ len := h0
    omega⟩
  have hk : k ≤ b.len := by
    have h2 : (k : Int) ≤ b.len := h1
    omega
  have hco := cut_ok hb hk
  constructor
  · rintro ⟨g1, g2, g3, g4⟩
    have g2' : fam = b.fam := g2
    have g3' : rd = b.rd := g3
    subst g2' g3'
    have hx : Tp.Ok ⟨b.fam, b.rd, addr, k⟩ := g1
    have e := Tp.ext_bits hco hx rfl rfl rfl (fun i hi => by
      have hi' : i < k := hi
      rw [cut_bit hb hk hi']
      exact (g4.2 i hi').symm)
    refine ⟨rfl, rfl, ?_⟩
    have e2 : (cutT b k).addr = addr := by rw [e]
    exact e2
  · rintro ⟨g1, g2, g3⟩
    have g1' : b.fam = fam := g1
    have g2' : b.rd = rd := g2
    have g3' : maskB b.addr (k : Nat) = addr := g3
    subst g1' g2' g3'
    refine ⟨hco, rfl, rfl, hk, fun i hi => ?_⟩
    have hi' : i < k := hi
    exact cut_bit hb hk hi'
def CoversPost (w : World) (x : Px) (b : Tp) (e : Ending) (w' : World) : Prop := Below w.heap.size w w' ∧ ∃ r : Bool, e = .returned (.bool r) ∧ (r = true ↔ covX x b)
set_option maxRecDepth 100000 in
set_option maxHeartbeats 4000000 in
theorem covers_neg (fam rd : Int) (addr : ByteArray) (len : Int) (b : Tp) (hb : b.Ok) (w : World) (h0 : len < 0) :
    Calls Try.prog 10 #[.agg #[.int .i64 fam, .int .u64 rd, .string addr, .int .i64 len], b.v] w (fun e w' => e = .returned (.bool false) ∧ Below w.heap.size w w') := by
  have hbs := hb.small
  have HCK := Lib.hid (fun w => check_any b.fam b.rd b.addr (b.len : Nat) w (by omega))
  rw [show prefC b.fam b.rd b.addr (b.len : Nat) = 0 from if_pos hb] at HCK
  have e1 : decide (len < 0) = true := decide_eq_true h0
  clear h0
  clear hb
  unfold Tp.v
  obtain ⟨W, hW⟩ : ∃ W, W = (w.alloc (.cells #[.int .i64 fam, .int .u64 rd, .string addr, .int .i64 len] 30)).alloc (.cells #[.int .i64 b.fam, .int .u64 b.rd, .string b.addr, .int .i64 (b.len : Nat)] 30) := ⟨_, rfl⟩
  have HB : Hid (Below w.heap.size w W) := by
    rw [hW]
    show Below _ _ _
    exact ((Below.refl _ _).alloc (Nat.le_refl _) _).alloc (by simp) _
  have H0 : Hid (CellsAt W w.heap.size #[.int .i64 fam, .int .u64 rd, .string addr, .int .i64 len] 30) := by
    rw [hW]
    exact (CellsAt.new w _ _).alloc _
  have H1 : Hid (CellsAt W (w.heap.size + 1) #[.int .i64 b.fam, .int .u64 b.rd, .string b.addr, .int .i64 (b.len : Nat)] 30) := by
    rw [hW]
    exact CellsAt.new' _ _ (by simp) _ _
  obtain ⟨b0, b1, b2, b3, _⟩ := c4_at H1.out
  go_enter Try.func10, Try.ntmps10
  go_wp2_with fail
  rw [← hW]
  clear hW
  go_wp2_with fail
  refine (HCK.out _).mono ?_
  rintro e w1 ⟨rfl, hb1⟩
  have HB1 : Hid (Below w.heap.size w w1) := HB.out.trans (hb1.mono HB.out.size)
  have G0 : Hid (CellsAt w1 w.heap.size #[.int .i64 fam, .int .u64 rd, .string addr, .int .i64 len] 30) := H0.out.below hb1 H0.out.lt
  have G1 : Hid (CellsAt w1 (w.heap.size + 1) #[.int .i64 b.fam, .int .u64 b.rd, .string b.addr, .int .i64 (b.len : Nat)] 30) := H1.out.below hb1 H1.out.lt
  clear hb1 H0 H1 HB b0 b1 b2 b3
  obtain ⟨a0, a1, a2, a3, _⟩ := c4_at G0.out
  obtain ⟨b0, b1, b2, b3, _⟩ := c4_at G1.out
  go_wp2_with fail
  go_ret
  exact ⟨rfl, HB1.out⟩
set_option maxRecDepth 100000 in
set_option maxHeartbeats 4000000 in
theorem covers_long (fam rd : Int) (addr : ByteArray) (len : Int) (b : Tp) (hb : b.Ok) (w : World) (h0 : ¬ len < 0) (h1 : (b.len : Int) < len) :
    Calls Try.prog 10 #[.agg #[.int .i64 fam, .int .u64 rd, .string addr, .int .i64 len], b.v] w (fun e w' => e = .returned (.bool false) ∧ Below w.heap.size w w') := by
  have hbs := hb.small
  have HCK := Lib.hid (fun w => check_any b.fam b.rd b.addr (b.len : Nat) w (by omega))
  rw [show prefC b.fam b.rd b.addr (b.len : Nat) = 0 from if_pos hb] at HCK
  have e1 : decide (len < 0) = false := decide_eq_false h0
  have e2 : decide ((b.len : Int) < len) = true := decide_eq_true h1
  clear h0 h1
  clear hb
  unfold Tp.v
  obtain ⟨W, hW⟩ : ∃ W, W = (w.alloc (.cells #[.int .i64 fam, .int .u64 rd, .string addr, .int .i64 len] 30)).alloc (.cells #[.int .i64 b.fam, .int .u64 b.rd, .string b.addr, .int .i64 (b.len : Nat)] 30) := ⟨_, rfl⟩
  have HB : Hid (Below w.heap.size w W) := by
    rw [hW]
    show Below _ _ _
    exact ((Below.refl _ _).alloc (Nat.le_refl _) _).alloc (by simp) _
  have H0 : Hid (CellsAt W w.heap.size #[.int .i64 fam, .int .u64 rd, .string addr, .int .i64 len] 30) := by
    rw [hW]
    exact (CellsAt.new w _ _).alloc _
  have H1 : Hid (CellsAt W (w.heap.size + 1) #[.int .i64 b.fam, .int .u64 b.rd, .string b.addr, .int .i64 (b.len : Nat)] 30) := by
    rw [hW]
    exact CellsAt.new' _ _ (by simp) _ _
  obtain ⟨b0, b1, b2, b3, _⟩ := c4_at H1.out
  go_enter Try.func10, Try.ntmps10
  go_wp2_with fail
  rw [← hW]
  clear hW
  go_wp2_with fail
  refine (HCK.out _).mono ?_
  rintro e w1 ⟨rfl, hb1⟩
  have HB1 : Hid (Below w.heap.size w w1) := HB.out.trans (hb1.mono HB.out.size)
  have G0 : Hid (CellsAt w1 w.heap.size #[.int .i64 fam, .int .u64 rd, .string addr, .int .i64 len] 30) := H0.out.below hb1 H0.out.lt
  have G1 : Hid (CellsAt w1 (w.heap.size + 1) #[.int .i64 b.fam, .int .u64 b.rd, .string b.addr, .int .i64 (b.len : Nat)] 30) := H1.out.below hb1 H1.out.lt
  clear hb1 H0 H1 HB b0 b1 b2 b3
  obtain ⟨a0, a1, a2, a3, _⟩ := c4_at G0.out
  obtain ⟨b0, b1, b2, b3, _⟩ := c4_at G1.out
  go_wp2_with fail
  go_ret
  exact ⟨rfl, HB1.out⟩
set_option maxRecDepth 100000 in
set_option maxHeartbeats 4000000 in
theorem covers_eq (k : Nat) (b : Tp) (hb : b.Ok) (w : World) (hk : k ≤ b.len) (M : ByteArray) (hM : maskB b.addr (k : Nat) = M) :
    Calls Try.prog 10 #[.agg #[.int .i64 b.fam, .int .u64 b.rd, .string M, .int .i64 (k : Nat)], b.v] w (fun e w' => e = .returned (.bool true) ∧ Below w.heap.size w w') := by
  have hbs := hb.small
  have HCK := Lib.hid (fun w => check_any b.fam b.rd b.addr (b.len : Nat) w (by omega))
  rw [show prefC b.fam b.rd b.addr (b.len : Nat) = 0 from if_pos hb] at HCK
  have HCU := Lib.hid (fun w => cut_any b hb k hk w)
  have e1 : decide ((k : Int) < 0) = false := decide_eq_false (by omega)
  have e2 : decide (b.len < k) = false := decide_eq_false (by omega)
  unfold Tp.v cutT at HCU
  dsimp only at HCU
  clear hk
  rw [hM] at HCU
  clear hM
  clear hb
  unfold Tp.v
  obtain ⟨W, hW⟩ : ∃ W, W = (w.alloc (.cells #[.int .i64 b.fam, .int .u64 b.rd, .string M, .int .i64 (k : Nat)] 30)).alloc (.cells #[.int .i64 b.fam, .int .u64 b.rd, .string b.addr, .int .i64 (b.len : Nat)] 30) := ⟨_, rfl⟩
  have HB : Hid (Below w.heap.size w W) := by
    rw [hW]
    show Below _ _ _
    exact ((Below.refl _ _).alloc (Nat.le_refl _) _).alloc (by simp) _
  have H0 : Hid (CellsAt W w.heap.size #[.int .i64 b.fam, .int .u64 b.rd, .string M, .int .i64 (k : Nat)] 30) := by
    rw [hW]
    exact (CellsAt.new w _ _).alloc _
  have H1 : Hid (CellsAt W (w.heap.size + 1) #[.int .i64 b.fam, .int .u64 b.rd, .string b.addr, .int .i64 (b.len : Nat)] 30) := by
    rw [hW]
    exact CellsAt.new' _ _ (by simp) _ _
  obtain ⟨b0, b1, b2, b3, _⟩ := c4_at H1.out
  go_enter Try.func10, Try.ntmps10
  go_wp2_with fail
  rw [← hW]
  clear hW
  go_wp2_with fail
  refine (HCK.out _).mono ?_
  rintro e w1 ⟨rfl, hb1⟩
  have HB1 : Hid (Below w.heap.size w w1) := HB.out.trans (hb1.mono HB.out.size)
  have G0 : Hid (CellsAt w1 w.heap.size #[.int .i64 b.fam, .int .u64 b.rd, .string M, .int .i64 (k : Nat)] 30) := H0.out.below hb1 H0.out.lt
  have G1 : Hid (CellsAt w1 (w.heap.size + 1) #[.int .i64 b.fam, .int .u64 b.rd, .string b.addr, .int .i64 (b.len : Nat)] 30) := H1.out.below hb1 H1.out.lt
  clear hb1 H0 H1 HB b0 b1 b2 b3
  obtain ⟨a0, a1, a2, a3, _⟩ := c4_at G0.out
  obtain ⟨b0, b1, b2, b3, _⟩ := c4_at G1.out
  go_wp2_with fail
  refine (HCU.out _).mono ?_
  rintro e w2 ⟨rfl, hb2⟩
  have HB2 : Hid (Below w.heap.size w w2) := HB1.out.trans (hb2.mono HB1.out.size)
  have G2 : Hid (CellsAt w2 w.heap.size #[.int .i64 b.fam, .int .u64 b.rd, .string M, .int .i64 (k : Nat)] 30) := G0.out.below hb2 G0.out.lt
  clear hb2 G0 G1 HB1 a0 a1 a2 a3 b0 b1 b2 b3
  have hl2 := G2.out.lt
  obtain ⟨a0, a1, a2, a3, _⟩ := c4_at G2.out
  go_wp2_with fail
  go_ret
  refine ⟨rfl, ?_⟩
  clear a0 a1 a2 a3
  repeat' (first | with_reducible exact HB2.out | with_reducible refine Below.setCell ?_ (by first | omega | (simp; omega) | simp) _ | with_reducible refine Below.alloc ?_ (by first | omega | (simp; omega) | simp) _)
set_option maxRecDepth 100000 in
set_option maxHeartbeats 4000000 in
theorem covers_nef (fam rd : Int) (addr : ByteArray) (k : Nat) (b : Tp) (hb : b.Ok) (w : World) (hk : k ≤ b.len) (hf : ¬ b.fam = fam) :
    Calls Try.prog 10 #[.agg #[.int .i64 fam, .int .u64 rd, .string addr, .int .i64 (k : Nat)], b.v] w (fun e w' => e = .returned (.bool false) ∧ Below w.heap.size w w') := by
  have hbs := hb.small
  have HCK := Lib.hid (fun w => check_any b.fam b.rd b.addr (b.len : Nat) w (by omega))
  rw [show prefC b.fam b.rd b.addr (b.len : Nat) = 0 from if_pos hb] at HCK
  have HCU := Lib.hid (fun w => cut_any b hb k hk w)
  have e1 : decide ((k : Int) < 0) = false := decide_eq_false (by omega)
  have e2 : decide (b.len < k) = false := decide_eq_false (by omega)
  unfold Tp.v cutT at HCU
  dsimp only at HCU
  clear hk
  have e3 : (b.fam == fam) = false := by rw [beq_eq_false_iff_ne]; exact hf
  generalize maskB b.addr (k : Nat) = M at HCU
  clear hb
  unfold Tp.v
  obtain ⟨W, hW⟩ : ∃ W, W = (w.alloc (.cells #[.int .i64 fam, .int .u64 rd, .string addr, .int .i64 (k : Nat)] 30)).alloc (.cells #[.int .i64 b.fam, .int .u64 b.rd, .string b.addr, .int .i64 (b.len : Nat)] 30) := ⟨_, rfl⟩
  have HB : Hid (Below w.heap.size w W) := by
    rw [hW]
    show Below _ _ _
    exact ((Below.refl _ _).alloc (Nat.le_refl _) _).alloc (by simp) _
  have H0 : Hid (CellsAt W w.heap.size #[.int .i64 fam, .int .u64 rd, .string addr, .int .i64 (k : Nat)] 30) := by
    rw [hW]
    exact (CellsAt.new w _ _).alloc _
  have H1 : Hid (CellsAt W (w.heap.size + 1) #[.int .i64 b.fam, .int .u64 b.rd, .string b.addr, .int .i64 (b.len : Nat)] 30) := by
    rw [hW]
    exact CellsAt.new' _ _ (by simp) _ _
  obtain ⟨b0, b1, b2, b3, _⟩ := c4_at H1.out
  go_enter Try.func10, Try.ntmps10
  go_wp2_with fail
  rw [← hW]
  clear hW
  go_wp2_with fail
  refine (HCK.out _).mono ?_
  rintro e w1 ⟨rfl, hb1⟩
  have HB1 : Hid (Below w.heap.size w w1) := HB.out.trans (hb1.mono HB.out.size)
  have G0 : Hid (CellsAt w1 w.heap.size #[.int .i64 fam, .int .u64 rd, .string addr, .int .i64 (k : Nat)] 30) := H0.out.below hb1 H0.out.lt
  have G1 : Hid (CellsAt w1 (w.heap.size + 1) #[.int .i64 b.fam, .int .u64 b.rd, .string b.addr, .int .i64 (b.len : Nat)] 30) := H1.out.below hb1 H1.out.lt
  clear hb1 H0 H1 HB b0 b1 b2 b3
  obtain ⟨a0, a1, a2, a3, _⟩ := c4_at G0.out
  obtain ⟨b0, b1, b2, b3, _⟩ := c4_at G1.out
  go_wp2_with fail
  refine (HCU.out _).mono ?_
  rintro e w2 ⟨rfl, hb2⟩
  have HB2 : Hid (Below w.heap.size w w2) := HB1.out.trans (hb2.mono HB1.out.size)
  have G2 : Hid (CellsAt w2 w.heap.size #[.int .i64 fam, .int .u64 rd, .string addr, .int .i64 (k : Nat)] 30) := G0.out.below hb2 G0.out.lt
  clear hb2 G0 G1 HB1 a0 a1 a2 a3 b0 b1 b2 b3
  have hl2 := G2.out.lt
  obtain ⟨a0, a1, a2, a3, _⟩ := c4_at G2.out
  go_wp2_with fail
  go_ret
  refine ⟨rfl, ?_⟩
  clear a0 a1 a2 a3
  repeat' (first | with_reducible exact HB2.out | with_reducible refine Below.setCell ?_ (by first | omega | (simp; omega) | simp) _ | with_reducible refine Below.alloc ?_ (by first | omega | (simp; omega) | simp) _)
set_option maxRecDepth 100000 in
set_option maxHeartbeats 4000000 in
theorem covers_ner (rd : Int) (addr : ByteArray) (k : Nat) (b : Tp) (hb : b.Ok) (w : World) (hk : k ≤ b.len) (hf : ¬ b.rd = rd) :
    Calls Try.prog 10 #[.agg #[.int .i64 b.fam, .int .u64 rd, .string addr, .int .i64 (k : Nat)], b.v] w (fun e w' => e = .returned (.bool false) ∧ Below w.heap.size w w') := by
  have hbs := hb.small
  have HCK := Lib.hid (fun w => check_any b.fam b.rd b.addr (b.len : Nat) w (by omega))
  rw [show prefC b.fam b.rd b.addr (b.len : Nat) = 0 from if_pos hb] at HCK
  have HCU := Lib.hid (fun w => cut_any b hb k hk w)
  have e1 : decide ((k : Int) < 0) = false := decide_eq_false (by omega)
  have e2 : decide (b.len < k) = false := decide_eq_false (by omega)
  unfold Tp.v cutT at HCU
  dsimp only at HCU
  clear hk
  have e3 : (b.rd == rd) = false := by rw [beq_eq_false_iff_ne]; exact hf
  generalize maskB b.addr (k : Nat) = M at HCU
  clear hb
  unfold Tp.v
  obtain ⟨W, hW⟩ : ∃ W, W = (w.alloc (.cells #[.int .i64 b.fam, .int .u64 rd, .string addr, .int .i64 (k : Nat)] 30)).alloc (.cells #[.int .i64 b.fam, .int .u64 b.rd, .string b.addr, .int .i64 (b.len : Nat)] 30) := ⟨_, rfl⟩
  have HB : Hid (Below w.heap.size w W) := by
    rw [hW]
    show Below _ _ _
    exact ((Below.refl _ _).alloc (Nat.le_refl _) _).alloc (by simp) _
  have H0 : Hid (CellsAt W w.heap.size #[.int .i64 b.fam, .int .u64 rd, .string addr, .int .i64 (k : Nat)] 30) := by
    rw [hW]
    exact (CellsAt.new w _ _).alloc _
  have H1 : Hid (CellsAt W (w.heap.size + 1) #[.int .i64 b.fam, .int .u64 b.rd, .string b.addr, .int .i64 (b.len : Nat)] 30) := by
    rw [hW]
    exact CellsAt.new' _ _ (by simp) _ _
  obtain ⟨b0, b1, b2, b3, _⟩ := c4_at H1.out
  go_enter Try.func10, Try.ntmps10
  go_wp2_with fail
  rw [← hW]
  clear hW
  go_wp2_with fail
  refine (HCK.out _).mono ?_
  rintro e w1 ⟨rfl, hb1⟩
  have HB1 : Hid (Below w.heap.size w w1) := HB.out.trans (hb1.mono HB.out.size)
  have G0 : Hid (CellsAt w1 w.heap.size #[.int .i64 b.fam, .int .u64 rd, .string addr, .int .i64 (k : Nat)] 30) := H0.out.below hb1 H0.out.lt
  have G1 : Hid (CellsAt w1 (w.heap.size + 1) #[.int .i64 b.fam, .int .u64 b.rd, .string b.addr, .int .i64 (b.len : Nat)] 30) := H1.out.below hb1 H1.out.lt
  clear hb1 H0 H1 HB b0 b1 b2 b3
  obtain ⟨a0, a1, a2, a3, _⟩ := c4_at G0.out
  obtain ⟨b0, b1, b2, b3, _⟩ := c4_at G1.out
  go_wp2_with fail
  refine (HCU.out _).mono ?_
  rintro e w2 ⟨rfl, hb2⟩
  have HB2 : Hid (Below w.heap.size w w2) := HB1.out.trans (hb2.mono HB1.out.size)
  have G2 : Hid (CellsAt w2 w.heap.size #[.int .i64 b.fam, .int .u64 rd, .string addr, .int .i64 (k : Nat)] 30) := G0.out.below hb2 G0.out.lt
  clear hb2 G0 G1 HB1 a0 a1 a2 a3 b0 b1 b2 b3
  have hl2 := G2.out.lt
  obtain ⟨a0, a1, a2, a3, _⟩ := c4_at G2.out
  go_wp2_with fail
  go_ret
  refine ⟨rfl, ?_⟩
  clear a0 a1 a2 a3
  repeat' (first | with_reducible exact HB2.out | with_reducible refine Below.setCell ?_ (by first | omega | (simp; omega) | simp) _ | with_reducible refine Below.alloc ?_ (by first | omega | (simp; omega) | simp) _)
set_option maxRecDepth 100000 in
set_option maxHeartbeats 4000000 in
theorem covers_nea (addr : ByteArray) (k : Nat) (b : Tp) (hb : b.Ok) (w : World) (hk : k ≤ b.len) (M : ByteArray) (hM : maskB b.addr (k : Nat) = M) (hf : ¬ M = addr) :
    Calls Try.prog 10 #[.agg #[.int .i64 b.fam, .int .u64 b.rd, .string addr, .int .i64 (k : Nat)], b.v] w (fun e w' => e = .returned (.bool false) ∧ Below w.heap.size w w') := by
  have hbs := hb.small
  have HCK := Lib.hid (fun w => check_any b.fam b.rd b.addr (b.len : Nat) w (by omega))
  rw [show prefC b.fam b.rd b.addr (b.len : Nat) = 0 from if_pos hb] at HCK
  have HCU := Lib.hid (fun w => cut_any b hb k hk w)
  have e1 : decide ((k : Int) < 0) = false := decide_eq_false (by omega)
  have e2 : decide (b.len < k) = false := decide_eq_false (by omega)
  unfold Tp.v cutT at HCU
  dsimp only at HCU
  clear hk
  rw [hM] at HCU
  clear hM
  have e3 := toList_ne hf
  have e4 : ¬ M.toList = addr.toList := fun e => by
    rw [e] at e3
    simp at e3
  clear hf
  clear hb
  unfold Tp.v
  obtain ⟨W, hW⟩ : ∃ W, W = (w.alloc (.cells #[.int .i64 b.fam, .int .u64 b.rd, .string addr, .int .i64 (k : Nat)] 30)).alloc (.cells #[.int .i64 b.fam, .int .u64 b.rd, .string b.addr, .int .i64 (b.len : Nat)] 30) := ⟨_, rfl⟩
  have HB : Hid (Below w.heap.size w W) := by
    rw [hW]
    show Below _ _ _
    exact ((Below.refl _ _).alloc (Nat.le_refl _) _).alloc (by simp) _
  have H0 : Hid (CellsAt W w.heap.size #[.int .i64 b.fam, .int .u64 b.rd, .string addr, .int .i64 (k : Nat)] 30) := by
    rw [hW]
    exact (CellsAt.new w _ _).alloc _
  have H1 : Hid (CellsAt W (w.heap.size + 1) #[.int .i64 b.fam, .int .u64 b.rd, .string b.addr, .int .i64 (b.len : Nat)] 30) := by
    rw [hW]
    exact CellsAt.new' _ _ (by simp) _ _
  obtain ⟨b0, b1, b2, b3, _⟩ := c4_at H1.out
  go_enter Try.func10, Try.ntmps10
  go_wp2_with fail
  rw [← hW]
  clear hW
  go_wp2_with fail
  refine (HCK.out _).mono ?_
  rintro e w1 ⟨rfl, hb1⟩
  have HB1 : Hid (Below w.heap.size w w1) := HB.out.trans (hb1.mono HB.out.size)
  have G0 : Hid (CellsAt w1 w.heap.size #[.int .i64 b.fam, .int .u64 b.rd, .string addr, .int .i64 (k : Nat)] 30) := H0.out.below hb1 H0.out.lt
  have G1 : Hid (CellsAt w1 (w.heap.size + 1) #[.int .i64 b.fam, .int .u64 b.rd, .string b.addr, .int .i64 (b.len : Nat)] 30) := H1.out.below hb1 H1.out.lt
  clear hb1 H0 H1 HB b0 b1 b2 b3
  obtain ⟨a0, a1, a2, a3, _⟩ := c4_at G0.out
  obtain ⟨b0, b1, b2, b3, _⟩ := c4_at G1.out
  go_wp2_with fail
  refine (HCU.out _).mono ?_
  rintro e w2 ⟨rfl, hb2⟩
  have HB2 : Hid (Below w.heap.size w w2) := HB1.out.trans (hb2.mono HB1.out.size)
  have G2 : Hid (CellsAt w2 w.heap.size #[.int .i64 b.fam, .int .u64 b.rd, .string addr, .int .i64 (k : Nat)] 30) := G0.out.below hb2 G0.out.lt
  clear hb2 G0 G1 HB1 a0 a1 a2 a3 b0 b1 b2 b3
  have hl2 := G2.out.lt
  obtain ⟨a0, a1, a2, a3, _⟩ := c4_at G2.out
  go_wp2_with fail
  go_ret
  refine ⟨rfl, ?_⟩
  clear a0 a1 a2 a3
  repeat' (first | with_reducible exact HB2.out | with_reducible refine Below.setCell ?_ (by first | omega | (simp; omega) | simp) _ | with_reducible refine Below.alloc ?_ (by first | omega | (simp; omega) | simp) _)
theorem covers_any (x : Px) (b : Tp) (hb : b.Ok) (w : World) : Calls Try.prog 10 #[x.v, b.v] w (CoversPost w x b) := by
  have no : ¬ covX x b → ∀ e w', (e = .returned (.bool false) ∧ Below w.heap.size w w') → CoversPost w x b e w' := fun hn e w' k => ⟨k.2, false, k.1, fun h => (by cases h), fun h => absurd h hn⟩
  by_cases h0 : x.len < 0
  · refine (covers_neg x.fam x.rd x.addr x.len b hb w h0).mono (no fun h => ?_)
    have := h.1.2.2.1
    omega
  · by_cases h1 : (b.len : Int) < x.len
    · refine (covers_long x.fam x.rd x.addr x.len b hb w h0 h1).mono (no fun h => ?_)
      have h2 : x.len.toNat ≤ b.len := h.2.2.2.1
      omega
    · have hiff := covX_cut (x := x) hb (by omega) (by omega)
      obtain ⟨fam, rd, addr, len⟩ := x
      obtain ⟨k, rfl⟩ : ∃ k : Nat, len = (k : Int) := ⟨len.toNat, by
        have h2 : ¬ len < 0 := h0
        omega⟩
      have hk : k ≤ b.len := by
        have h2 : ¬ (b.len : Int) < (k : Int) := h1
        omega
      simp only at hiff
      by_cases hf : b.fam = fam
      · by_cases hr : b.rd = rd
        · by_cases hm : maskB b.addr (k : Nat) = addr
          · have hc := hiff.2 ⟨hf, hr, hm⟩
            have key := covers_eq k b hb w hk _ hm
            subst hf hr
            exact key.mono fun e w' k2 => ⟨k2.2, true, k2.1, fun _ => hc, fun _ => rfl⟩
          · have key := covers_nea addr k b hb w hk _ rfl hm
            subst hf hr
            exact key.mono (no fun h => hm (hiff.1 h).2.2)
        · have key := covers_ner rd addr k b hb w hk hr
          subst hf
          exact key.mono (no fun h => hr (hiff.1 h).2.1)
      · exact (covers_nef fam rd addr k b hb w hk hf).mono (no fun h => hf (hiff.1 h).1)
theorem covers_bad (x b : Px) (hb : ¬ PrefOk b.fam b.rd b.addr b.len) (ha : b.addr.size ≤ 9223372036854775807) (w : World) : Calls Try.prog 10 #[x.v, b.v] w fun e w' => e = .returned (.bool false) ∧ Below w.heap.size w w' := by
  have HCK := Lib.hid (fun w => check_any b.fam b.rd b.addr b.len w ha)
  rw [show prefC b.fam b.rd b.addr b.len = 2 from if_neg hb] at HCK
  clear hb
  unfold Px.v
  go_enter Try.func10, Try.ntmps10
  go_wp2_with fail
  refine (HCK.out _).mono ?_
  rintro e w1 ⟨rfl, hb1⟩
  have HB1 : Hid (Below w.heap.size w w1) := by
    show Below _ _ _
    exact (((Below.refl _ _).alloc (Nat.le_refl _) _).alloc (by simp) _).trans (hb1.mono (by simp; omega))
  clear hb1
  go_wp2_with fail
  go_ret
  exact ⟨rfl, HB1.out⟩
end Go.Proofs.Ythnjepehiddogaa
