/-
  The examples' answers, computed. Conditions: none.
-/
import Derived.Test.YtoamigfjpcniaaaDmA
import Derived.Test.YtoamigfjpcniaaaDeT
import Derived.Test.YtoamigfjpcniaaaDlB
set_option linter.unusedVariables false
set_option linter.unusedSimpArgs false
namespace Go.Proofs.Ytoamigfjpcniaaa
open Go.RowKit Go.MapKept Go.Shelf
open Go.Lib hiding intOf

def prefP (p : Pt) : Pt := { p with hasPref := true, pref := 90 }
def pref0 (p : Pt) : Pt := { p with hasPref := true }
def kindP (k : Int) (p : Pt) : Pt := { p with kind := k }
def nextP (s : ByteArray) (p : Pt) : Pt := { p with next := s }
def orig0 (p : Pt) : Pt := { p with hasOrig := true }
def origP (p : Pt) : Pt := { p with hasOrig := true, orig := 9 }
def clusP (C : Option Addr) (e : Nat) (p : Pt) : Pt := { p with cA := C, clus := [9], cC := e }
theorem prefP_ok {w : World} {p : Pt} (h : PtOk w p) : PtOk w (prefP p) := ⟨h.rd, h.segs, h.len, h.cap, h.clen, h.ccap, h.peer, h.addr, h.crd, h.one1, h.one2, h.one3⟩
theorem kindP_ok {w : World} {p : Pt} {k : Int} (h : PtOk w p) : PtOk w (kindP k p) := ⟨h.rd, h.segs, h.len, h.cap, h.clen, h.ccap, h.peer, h.addr, h.crd, h.one1, h.one2, h.one3⟩
theorem nextP_ok {w : World} {p : Pt} {k : ByteArray} (h : PtOk w p) : PtOk w (nextP k p) := ⟨h.rd, h.segs, h.len, h.cap, h.clen, h.ccap, h.peer, h.addr, h.crd, h.one1, h.one2, h.one3⟩
theorem origP_ok {w : World} {p : Pt} (h : PtOk w p) : PtOk w (origP p) := ⟨h.rd, h.segs, h.len, h.cap, h.clen, h.ccap, h.peer, h.addr, h.crd, h.one1, h.one2, h.one3⟩
theorem clusP_ok {w : World} {p : Pt} {b : Nat} {T : TypeId} (h : PtOk w p) (hc : CellsAt w b #[.int .u32 9] T) : PtOk w (clusP (some ⟨b, 0, none⟩) 1 p) :=
  ⟨h.rd, h.segs, h.len, h.cap, Nat.le_refl _, by show 1 ≤ maxLen; decide, h.peer, h.addr, fun _ => ⟨b, 0, rfl, hc.lt, fun i cs hi j u hu => by
    match i, hi with
    | 0, hi =>
      obtain rfl : [.int .u32 9] = cs := Option.some.inj hi
      rw [show 0 + 0 * 1 + j = j by omega, hc.c, ← Array.getElem?_toList]
      exact hu
    | i + 1, hi => cases hi⟩, h.one1, h.one2, h.one3⟩
theorem kn_a {w v : World} {p1 p2 : Pt} (h1 : OneP w ⟨#[97]⟩ 1 [1] p1) (h2 : OneP v ⟨#[98]⟩ 2 [1, 2] p2) : bestV (bestF (openL freeP 0 [prefP p1, p2])) = .tuple #[.int .i64 1, .bool true] := by
  obtain ⟨A1, B1, c1, d1, rfl, _⟩ := h1
  obtain ⟨A2, B2, c2, d2, rfl, _⟩ := h2
  kernel_rfl
theorem kn_none : bestV (bestF (openL freeP 0 [])) = .tuple #[.int .i64 0, .bool false] := by
  rw [show openL freeP 0 [] = [] from rfl, bestF_nil]
  rfl
theorem kn_b {w : World} {p1 p3 : Pt} (h1 : OneP w ⟨#[97]⟩ 1 [1] p1) (h3 : OneP w ⟨#[99]⟩ 3 [2] p3) : bestV (bestF (openL freeP 0 [medP p1 5, medP p3 9])) = .tuple #[.int .i64 0, .bool true] := by
  obtain ⟨A1, B1, c1, d1, rfl, _⟩ := h1
  obtain ⟨A3, B3, c3, d3, rfl, _⟩ := h3
  kernel_rfl
theorem kn_o {w : World} {p1 p2 p3 : Pt} (h1 : OneP w ⟨#[97]⟩ 1 [1] p1) (h2 : OneP w ⟨#[98]⟩ 2 [1] p2) (h3 : OneP w ⟨#[99]⟩ 3 [2] p3) : orderF (openL freeP 0 [medP p1 5, medP p2 3, medP p3 9]) = [1, 0, 2] := by
  obtain ⟨A1, B1, c1, d1, rfl, _⟩ := h1
  obtain ⟨A2, B2, c2, d2, rfl, _⟩ := h2
  obtain ⟨A3, B3, c3, d3, rfl, _⟩ := h3
  kernel_rfl
theorem kn_c {w v : World} {p1 p2 : Pt} (h1 : OneP w ⟨#[97]⟩ 1 [1] p1) (h2 : OneP v ⟨#[]⟩ 0 [1, 1, 1] p2) : bestV (bestF (openL freeP 0 [p1, kindP 1 p2])) = .tuple #[.int .i64 1, .bool true] := by
  obtain ⟨A1, B1, c1, d1, rfl, _⟩ := h1
  obtain ⟨A2, B2, c2, d2, rfl, _⟩ := h2
  kernel_rfl
theorem kn_d {w v : World} {p1 p2 : Pt} (h1 : OneP w ⟨#[97]⟩ 1 [1] p1) (h2 : OneP v ⟨#[98]⟩ 2 [1] p2) : bestV (bestF (openL freeP 0 [kindP 4 p1, p2])) = .tuple #[.int .i64 1, .bool true] := by
  obtain ⟨A1, B1, c1, d1, rfl, _⟩ := h1
  obtain ⟨A2, B2, c2, d2, rfl, _⟩ := h2
  kernel_rfl
theorem kn_g {w v : World} {p1 p2 : Pt} (h1 : OneP w ⟨#[97]⟩ 1 [1] p1) (h2 : OneP v ⟨#[98]⟩ 2 [1] p2) : bestV (bestF (openL freeP 0 [kindP 3 p1, p2])) = .tuple #[.int .i64 1, .bool true] := by
  obtain ⟨A1, B1, c1, d1, rfl, _⟩ := h1
  obtain ⟨A2, B2, c2, d2, rfl, _⟩ := h2
  kernel_rfl
theorem kn_h {w v : World} {p1 p2 : Pt} (h1 : OneP w ⟨#[97]⟩ 1 [1] p1) (h2 : OneP v ⟨#[97]⟩ 1 [1] p2) : bestV (bestF (openL freeP 0 [kindP 4 p1, kindP 3 p2])) = .tuple #[.int .i64 1, .bool true] := by
  obtain ⟨A1, B1, c1, d1, rfl, _⟩ := h1
  obtain ⟨A2, B2, c2, d2, rfl, _⟩ := h2
  kernel_rfl
theorem kn_e {w v : World} {p1 p2 : Pt} (h1 : OneP w ⟨#[97]⟩ 1 [1] p1) (h2 : OneP v ⟨#[98]⟩ 2 [1] p2) : bestV (bestF (openL (costP priceF) 0 [nextP ⟨#[10, 0, 0, 1]⟩ p1, nextP ⟨#[10, 0, 0, 0]⟩ p2])) = .tuple #[.int .i64 1, .bool true] := by
  obtain ⟨A1, B1, c1, d1, rfl, _⟩ := h1
  obtain ⟨A2, B2, c2, d2, rfl, _⟩ := h2
  kernel_rfl
theorem kn_f {w v : World} {p1 p2 : Pt} (h1 : OneP w ⟨#[97]⟩ 1 [1] p1) (h2 : OneP v ⟨#[98]⟩ 2 [1] p2) : bestV (bestF (openL (costP priceF) 0 [nextP ⟨#[10, 0, 0, 3]⟩ p1, nextP ⟨#[10, 0, 0, 0]⟩ p2])) = .tuple #[.int .i64 1, .bool true] := by
  obtain ⟨A1, B1, c1, d1, rfl, _⟩ := h1
  obtain ⟨A2, B2, c2, d2, rfl, _⟩ := h2
  kernel_rfl
theorem kl_1 {w : World} {p : Pt} (h : OneP w ⟨#[97]⟩ 1 [2, 1] p) : loopsF 1 0 0 0 p = true := by
  obtain ⟨A1, B1, c1, d1, rfl, _⟩ := h
  kernel_rfl
theorem kl_2 {w : World} {p : Pt} (h : OneP w ⟨#[97]⟩ 1 [2] p) : loopsF 5 0 2 0 p = true := by
  obtain ⟨A1, B1, c1, d1, rfl, _⟩ := h
  kernel_rfl
theorem kl_3 {w : World} {p : Pt} (h : OneP w ⟨#[97]⟩ 1 [2] p) : loopsF 5 0 0 0 p = false := by
  obtain ⟨A1, B1, c1, d1, rfl, _⟩ := h
  kernel_rfl
theorem kl_4 {w : World} {p : Pt} (h : OneP w ⟨#[97]⟩ 1 [2] p) : loopsF 3 9 0 0 (origP p) = true := by
  obtain ⟨A1, B1, c1, d1, rfl, _⟩ := h
  kernel_rfl
theorem kl_5 {w : World} {p : Pt} {C : Option Addr} {e : Nat} (h : OneP w ⟨#[97]⟩ 1 [2] p) : loopsF 3 9 0 0 (clusP C e p) = true := by
  obtain ⟨A1, B1, c1, d1, rfl, _⟩ := h
  kernel_rfl
theorem kl_6 {w : World} {p : Pt} {C : Option Addr} {e : Nat} (h : OneP w ⟨#[97]⟩ 1 [2] p) : loopsF 3 9 0 7 (clusP C e p) = false := by
  obtain ⟨A1, B1, c1, d1, rfl, _⟩ := h
  kernel_rfl
theorem kl_7 {w : World} {p : Pt} (h : OneP w ⟨#[]⟩ 0 [1, 1, 1] p) : loopsF 1 0 0 0 (kindP 1 p) = false := by
  obtain ⟨A1, B1, c1, d1, rfl, _⟩ := h
  kernel_rfl
theorem kl_8 : degF (mkP ⟨#[97]⟩ 1 none [] 0) = 100 := by kernel_rfl
theorem kl_9 : neiF (mkP ⟨#[97]⟩ 1 none [] 0) = 0 := by kernel_rfl
end Go.Proofs.Ytoamigfjpcniaaa
