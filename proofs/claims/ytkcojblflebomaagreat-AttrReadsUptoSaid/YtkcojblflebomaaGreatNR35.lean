/-
  Several texts in one.
-/
import Derived.Test.YtkcojblflebomaaGreatNR32
import Derived.Test.YtkcojblflebomaaGreatNR34
set_option linter.unusedVariables false
set_option linter.unusedSimpArgs false
namespace Go.Proofs.YtkcojblflebomaaGreat
open Go.RowKit Go.MapKept Go.Shelf
open Go.Lib hiding intOf

theorem wp_name {P : Program} {c : Code} {Q : Exit → Act → World → Prop} {a : Act} {w : World} (h : ∀ W, W = w → Code.wp P c Q a W) : Code.wp P c Q a w := h w rfl
/-- two variables, stored into one behind the other -/
def rdW (w : World) (cs xs : Array Value) (v : Vd) : World := (((w.alloc (.cells cs 40)).alloc (.cells #[.int .i64 0, .int .u8 0, .int .u8 0] 42)).setRow w.heap.size xs).setRow (w.heap.size + 1) #[.int .i64 v.act, .int .u8 v.code, .int .u8 v.sub]
theorem rd_z (w : World) (cs : Array Value) : CellsAt ((w.alloc (.cells cs 40)).alloc (.cells #[.int .i64 0, .int .u8 0, .int .u8 0] 42)) w.heap.size cs 40 := (CellsAt.new _ _ _).alloc _
theorem rd_y (w : World) (cs xs : Array Value) : CellsAt (((w.alloc (.cells cs 40)).alloc (.cells #[.int .i64 0, .int .u8 0, .int .u8 0] 42)).setRow w.heap.size xs) (w.heap.size + 1) #[.int .i64 0, .int .u8 0, .int .u8 0] 42 := by
  have h := CellsAt.new (w.alloc (.cells cs 40)) #[.int .i64 0, .int .u8 0, .int .u8 0] 42
  have e5 : (w.alloc (.cells cs 40)).heap.size = w.heap.size + 1 := by simp
  rw [e5] at h
  exact h.row (grown_setRow' _ _ _) (by omega)
theorem rd_a (w : World) (cs xs : Array Value) (v : Vd) : CellsAt (rdW w cs xs v) w.heap.size xs 40 := ((rd_z w cs).setRow' _).row (grown_setRow' _ _ _) (by omega)
theorem rd_v (w : World) (cs xs : Array Value) (v : Vd) : CellsAt (rdW w cs xs v) (w.heap.size + 1) #[.int .i64 v.act, .int .u8 v.code, .int .u8 v.sub] 42 := (rd_y w cs xs).setRow' _
theorem rd_b (w : World) (cs xs : Array Value) (v : Vd) : Below w.heap.size w (rdW w cs xs v) := ((((Below.refl _ _).alloc (Nat.le_refl _) _).alloc (by simp) _).grown (grown_setRow' _ _ _) (by simp; omega) (fun k hk => by cases hk; omega)).grown (grown_setRow' _ _ _) (by rw [setRow_size]; simp; omega) (fun k hk => by cases hk; omega)
/-- attr.Read over the whole table -/
theorem read_tab (A : Option Addr) (cap : Nat) (L : List Rw) (four internal : Bool) (w : World) (h : RwsOk w A cap L) (hsz : ∀ r ∈ L, r.v.size ≤ 140737488351232) :
    Calls Tryz.prog 19 #[.slice A L.length cap, .bool four, .bool internal] w fun e w' => (∃ a : Atr, e = .returned (.tuple #[.agg a.ar, .agg #[.int .i64 (readF tab four internal [] noC ⟨0, 0, 0⟩ L).2.act, .int .u8 (readF tab four internal [] noC ⟨0, 0, 0⟩ L).2.code, .int .u8 (readF tab four internal [] noC ⟨0, 0, 0⟩ L).2.sub]]) ∧ AtO w' w.heap.size a ∧ a.c = (if 2 ≤ (readF tab four internal [] noC ⟨0, 0, 0⟩ L).2.act then noC else (readF tab four internal [] noC ⟨0, 0, 0⟩ L).1)) ∧ Below w.heap.size w w' := by
  refine (read_any tab A cap L four internal w h hsz (fun x hx b wr i f hr => tab_takes _ b wr i f hr)).mono ?_
  rintro e w' ⟨⟨a, he, ho, hc⟩, hb⟩
  exact ⟨⟨a, he, ho, hc⟩, hb⟩
end Go.Proofs.YtkcojblflebomaaGreat
