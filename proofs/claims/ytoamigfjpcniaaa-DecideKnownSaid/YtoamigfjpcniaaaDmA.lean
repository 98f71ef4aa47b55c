/-
  A path without a segment; are two lists of numbers alike? Conditions: sizes.
-/
import Derived.Test.YtoamigfjpcniaaaDeQ
import Derived.Test.YtoamigfjpcniaaaDeR
import Derived.Test.YtoamigfjpcniaaaDeV
import Derived.BigRegion
set_option linter.unusedVariables false
set_option linter.unusedSimpArgs false
namespace Go.Proofs.Ytoamigfjpcniaaa
open Go.RowKit Go.MapKept Go.Shelf
open Go.Lib hiding intOf

/-- a slice of ints that is read -/
structure NumAt (w : World) (A : Option Addr) (c : Nat) (xs : List Int) : Prop where
  rd : Rd w A 1 (xs.map fun n => [.int .i64 n])
  len : xs.length ≤ c
  cap : c ≤ maxLen
theorem NumAt.below {w w' : World} {A : Option Addr} {c : Nat} {xs : List Int} {B : Nat} (h : NumAt w A c xs) (hb : Below B w w') (hB : w.heap.size ≤ B) : NumAt w' A c xs := ⟨h.rd.below hb hB, h.len, h.cap⟩
theorem NumAt.at_ {w : World} {A : Option Addr} {c i : Nat} {xs : List Int} {x : Int} (h : NumAt w A c xs) (hi : xs[i]? = some x) : ∃ b off, A = some ⟨b, off, none⟩ ∧ b < w.heap.size ∧ w.cell? ⟨b, off + i, none⟩ = some (.int .i64 x) := by
  obtain ⟨b, off, hA, hb, hc⟩ := Rd.at_ (i := i) (cs := [.int .i64 x]) h.rd (by rw [List.getElem?_map, hi]; rfl)
  exact ⟨b, off, hA, hb, by simpa using hc 0 _ rfl⟩
theorem NumAt.new {w : World} {b : Nat} {T : TypeId} {xs : List Int} {cs : Array Value} (h : CellsAt w b cs T) (e : cs = (xs.map fun n => Value.int .i64 n).toArray) (hl : xs.length ≤ 1000000) : NumAt w (some ⟨b, 0, none⟩) xs.length xs := by
  subst e
  refine ⟨fun _ => ⟨b, 0, rfl, h.lt, fun i cs hi j u hu => ?_⟩, Nat.le_refl _, by unfold maxLen; omega⟩
  rw [List.getElem?_map] at hi
  cases hx : xs[i]? with
  | none => rw [hx] at hi; cases hi
  | some x =>
    rw [hx] at hi
    obtain rfl : [.int .i64 x] = cs := Option.some.inj hi
    cases j with
    | succ j => cases hu
    | zero =>
      obtain rfl : Value.int .i64 x = u := Option.some.inj hu
      rw [show 0 + i * 1 + 0 = i by omega, h.c, List.getElem?_toArray, List.getElem?_map, hx]
      rfl
def toI (ns : List Nat) : List Int := ns.map fun (n : Nat) => (n : Int)
theorem toI_len (ns : List Nat) : (toI ns).length = ns.length := List.length_map _
theorem NumOwn.num {w : World} {base : Nat} {v : Value} {ns : List Nat} (h : NumOwn w base v ns) : ∃ A c, v = .slice A ns.length c ∧ NumAt w A c (toI ns) := by
  rcases Nat.eq_zero_or_pos ns.length with h0 | h0
  · obtain rfl : ns = [] := List.eq_nil_of_length_eq_zero h0
    rcases h.2 with ⟨h2, _⟩ | ⟨g, cap, cur, fr, h2, _, _, _, h4, h5, _⟩
    · exact ⟨none, 0, h2, fun hl => absurd hl (by simp [toI]), Nat.le_refl _, by decide⟩
    · exact ⟨_, cap, h2, fun hl => absurd hl (by simp [toI]), Nat.zero_le _, h5⟩
  · obtain ⟨g, c, hv, hb, hg, hn, hc, hcell⟩ := NumOwn.c h h0
    refine ⟨_, c, hv, ⟨fun _ => ⟨g, 0, rfl, hg, fun i cs hi j u hu => ?_⟩, by rwa [toI_len], hc⟩⟩
    unfold toI at hi
    rw [List.map_map, List.getElem?_map] at hi
    cases hx : ns[i]? with
    | none => rw [hx] at hi; cases hi
    | some x =>
      rw [hx] at hi
      obtain rfl : [.int .i64 (x : Int)] = cs := Option.some.inj hi
      cases j with
      | succ j => cases hu
      | zero =>
        obtain rfl : Value.int .i64 (x : Int) = u := Option.some.inj hu
        rw [show 0 + i * 1 + 0 = i by omega]
        exact hcell i x hx

set_option maxRecDepth 100000 in
set_option maxHeartbeats 4000000 in
theorem path_none (peer : ByteArray) (id : Int) (w : World) (hp : peer.size ≤ 9223372036854775807) :
    Calls Try.prog 30 #[.string peer, .int .u32 id, .slice none 0 0] w fun e w' => e = .returned (.agg (mkP peer id none [] 0).cs) ∧ PtOk w' (mkP peer id none [] 0) ∧ Below w.heap.size w w' := by
  have HPS := Lib.hid hp
  have HO := Lib.hid (mkP_ones peer id none [] 0)
  clear hp
  have HC0 : Hid (CellsAt ((w.alloc (.cells zeroPt 38)).alloc (.cells (mkP peer id none [] 0).cs 38)) w.heap.size zeroPt 38) := (CellsAt.new _ _ _).alloc _
  have HB1 : Hid (Below w.heap.size w ((w.alloc (.cells zeroPt 38)).alloc (.cells (mkP peer id none [] 0).cs 38))) := ((Below.refl _ _).alloc (Nat.le_refl _) _).alloc (by simp) _
  have HC2 : Hid (CellsAt ((w.alloc (.cells zeroPt 38)).alloc (.cells (mkP peer id none [] 0).cs 38)) (w.heap.size + 1) (mkP peer id none [] 0).cs 38) := by
    have h := CellsAt.new (w.alloc (.cells zeroPt 38)) (mkP peer id none [] 0).cs 38
    rwa [show (w.alloc (.cells zeroPt 38)).heap.size = w.heap.size + 1 by simp] at h
  go_enter Try.func30, Try.ntmps30
  go_wp2_with (with_reducible show wpList _ _ _ (_ :: _) _ _; first | refine wpList_store_path_n (w.heap.size + 1) (by simp) rfl (.tmp 7) (.tmp 11) rfl rfl (mkP peer id none [] 0) rfl rfl HO.out ?_ | refine wpList_load_path' rfl (.tmp 7) rfl (w.heap.size + 1) 0 rfl (mkP peer id none [] 0) HC2.out.range ?_ | refine wpList_over_path rfl (.tmp 6) (.tmp 20) rfl rfl (mkP peer id none [] 0) rfl rfl HC0.out HO.out ?_)
  refine bodyPost_ret (results_path rfl _ _ w.heap.size (mkP peer id none [] 0) rfl (setRow_heap _ w.heap.size _ _ _ _ HC0.out)) rfl ?_
  exact ⟨rfl, mkP_ok (fun hl => absurd hl (by simp)) (fun z hz => by cases hz) (Nat.le_refl _) (by decide) HPS.out, Go.below_setRow HB1.out (Nat.le_refl _) _⟩

set_option maxRecDepth 100000 in
set_option maxHeartbeats 4000000 in
theorem alike_any (A B : Option Addr) (c d : Nat) (xs ys : List Int) (w : World) (h1 : NumAt w A c xs) (h2 : NumAt w B d ys) :
    Calls Try.prog 23 #[.slice A xs.length c, .slice B ys.length d] w fun e w' => e = .returned (.bool (decide (xs = ys))) ∧ Below w.heap.size w w' := by
  have H1 := Lib.hid h1
  have H2 := Lib.hid h2
  have l1 := h1.len
  have l2 := h2.len
  have l3 : c ≤ 9223372036854775807 := h1.cap
  have l4 : d ≤ 9223372036854775807 := h2.cap
  clear h1 h2
  by_cases hl : xs.length = ys.length
  · generalize hr : decide (xs = ys) = r
    have HR := Lib.hid hr
    clear hr
    have HLE := Lib.hid hl
    generalize hm : ys.length = m at hl l2 ⊢
    subst hl
    clear hm
    go_enter Try.func23, Try.ntmps23
    go_wp2_with fail
    go_loopw [5] (fun i wr => ∃ k : Nat, k ≤ xs.length ∧ i = .int .i64 k ∧ Hid (Below w.heap.size w wr) ∧ Hid (∀ j, j < k → xs[j]? = ys[j]?)) (fun i _ => xs.length + 1 - (intOf i).toNat)
    case atStart => exact ⟨0, by omega, rfl, Below.refl _ _, fun j hj => by omega⟩
    case round =>
      obtain ⟨k, hk, rfl, HB, HE⟩ := hrel
      by_cases hlt : k < xs.length
      · obtain ⟨x, hx⟩ : ∃ x, xs[k]? = some x := ⟨xs[k], List.getElem?_eq_getElem hlt⟩
        obtain ⟨y, hy⟩ : ∃ y, ys[k]? = some y := ⟨ys[k]'(by have := HLE.out; omega), List.getElem?_eq_getElem (by have := HLE.out; omega)⟩
        obtain ⟨b1, o1, rfl, hb1, hc1⟩ := (H1.out.below HB.out (Nat.le_refl _)).at_ hx
        obtain ⟨b2, o2, rfl, hb2, hc2⟩ := (H2.out.below HB.out (Nat.le_refl _)).at_ hy
        have HX := Lib.hid hx
        have HY := Lib.hid hy
        clear hx hy
        by_cases hxy : x = y
        · subst hxy
          have hne : (x != x) = false := by simp
          go_wp2_with fail
          go_region
          go_wp2_with fail
          exact ⟨⟨k + 1, by omega, by go_num, below_drewN HB.out 1, fun j hj => by
            by_cases e : j = k
            · subst e; exact HX.out.trans HY.out.symm
            · exact HE.out j (by omega)⟩, by simp [intOf]; omega⟩
        · have hne : (x == y) = false := beq_eq_false_iff_ne.2 hxy
          have hnb : (x != y) = true := by simp [bne, hne]
          obtain rfl : r = false := by
            rw [← HR.out, decide_eq_false_iff_not]
            intro e
            have hx := HX.out
            rw [e, HY.out] at hx
            exact hxy (Option.some.inj hx).symm
          clear hxy
          go_wp2_with fail
          go_region
          go_wp2_with fail
          go_ret
          exact ⟨rfl, below_drewN HB.out 1⟩
      · obtain rfl : k = xs.length := by omega
        obtain rfl : r = true := by
          rw [← HR.out, decide_eq_true_iff]
          apply List.ext_getElem?
          intro j
          by_cases hj : j < xs.length
          · exact HE.out j hj
          · rw [List.getElem?_eq_none (by omega), List.getElem?_eq_none (by have := HLE.out; omega)]
        go_wp2_with fail
        go_ret
        exact ⟨rfl, HB.out⟩
  · have hr : decide (xs = ys) = false := decide_eq_false_iff_not.2 (fun e => hl (by rw [e]))
    rw [hr]
    have hne : ((xs.length : Int) == (ys.length : Int)) = false := by rw [beq_eq_false_iff_ne]; omega
    have hnb : ((xs.length : Int) != (ys.length : Int)) = true := by simp [bne, hne]
    clear hr
    go_enter Try.func23, Try.ntmps23
    go_wp2_with fail
    go_ret
    exact ⟨rfl, Below.refl _ _⟩
end Go.Proofs.Ytoamigfjpcniaaa
