/-
  Several texts in one.
-/
import Derived.Test.YtojiieghjhjoaaaGreatKN16
import Derived.Test.YtojiieghjhjoaaaGreatKN15
import Derived.Test.YtojiieghjhjoaaaGreatKN18
import Derived.Test.YtojiieghjhjoaaaGreatKN21
import Derived.Laws.RangeAny
import Derived.Shelf.GgClosure.StringsIndexFunc
set_option linter.unusedVariables false
set_option linter.unusedSimpArgs false
namespace Go.Proofs.YtojiieghjhjoaaaGreat
open Go.RowKit Go.MapKept

/-- may a byte stand in a name? -/
def okB (c : Nat) : Bool := decide (97 ≤ c) && decide (c ≤ 122) || (decide (48 ≤ c) && decide (c ≤ 57) || c == 45)
def lowB (c : Nat) : Bool := decide (97 ≤ c) && decide (c ≤ 122)
def headB (s : ByteArray) : Bool := match s.data.toList with | [] => false | c :: _ => lowB c.toNat
def allB (s : ByteArray) : Bool := s.data.toList.all fun c => okB c.toNat
/-- is it a name? -/
def nameF (s : ByteArray) : Bool := decide (1 ≤ s.size) && decide (s.size ≤ 16) && headB s && allB s
theorem ba_length (s : ByteArray) : s.data.toList.length = s.size := by rw [Array.length_toList]; rfl
theorem ba_drop (s : ByteArray) (pos : Nat) (h : pos < s.size) : s.data.toList.drop pos = (s[pos]'h) :: s.data.toList.drop (pos + 1) := by
  rw [List.drop_eq_getElem_cons (by rw [ba_length]; exact h)]
  rfl
theorem okB_high {c : Nat} (h : 128 ≤ c) : okB c = false := by
  unfold okB
  have h1 : decide (c ≤ 122) = false := decide_eq_false (by omega)
  have h2 : decide (c ≤ 57) = false := decide_eq_false (by omega)
  have h3 : (c == 45) = false := beq_eq_false_iff_ne.2 (by omega)
  rw [h1, h2, h3]
  simp
theorem idx_from (s : ByteArray) : ∀ (f pos : Nat), s.size ≤ pos + f → decide (0 ≤ Lib.idxFuncFrom (fun r => !okB r) true s f pos) = !((s.data.toList.drop pos).all fun c => okB c.toNat)
  | f, pos, h => by
    by_cases hp : pos < s.size
    · obtain ⟨f, rfl⟩ : ∃ g, f = g + 1 := ⟨f - 1, by omega⟩
      rw [ba_drop s pos hp, List.all_cons]
      unfold Lib.idxFuncFrom
      rw [if_pos hp]
      by_cases ha : (s[pos]'hp).toNat < 128
      · rw [decode_ascii s pos hp ha]
        by_cases ho : okB (s[pos]'hp).toNat = true
        · rw [if_neg (by rw [ho]; simp), ho, Bool.true_and]
          exact idx_from s f (pos + 1) (by omega)
        · have ho := Bool.eq_false_iff.2 ho
          rw [if_pos (by rw [ho]; rfl), ho, Bool.false_and]
          simp
      · have hd := (decode_high s pos hp (by omega)).1
        rw [if_pos (by rw [okB_high hd]; rfl), okB_high (c := (s[pos]'hp).toNat) (by omega), Bool.false_and]
        simp
    · rw [Lib.idxFuncFrom_end _ _ _ _ _ hp, List.drop_eq_nil_of_le (by rw [ba_length]; omega)]
      rfl
/-- strings.ContainsFunc over a name's runes: a byte that may not be -/
theorem idx_name (s : ByteArray) : decide (0 ≤ Lib.idxFunc (fun r => !okB r) true s) = !allB s := by
  unfold Lib.idxFunc allB
  rw [idx_from s s.size 0 (by omega), List.drop_zero]

/-- what counts of a configuration -/
structure Cfg where
  as_ : Nat
  id : Nat
  confed : Nat
  cluster : Nat
  addr : ByteArray
/-- what a neighbour is -/
def kindF (cas tas : Nat) (client confed : Bool) : Int := if tas = cas then (if client = true then 5 else 4) else if confed = true then 3 else 2
/-- a path of ASs without the confederation's segments -/
def bareF (l : List (Int × List Nat)) : List (Int × List Nat) := l.filter fun s => !(s.1 == 3 || s.1 == 4)
def segKind (conf : Bool) : Int := if conf = true then 3 else 2
/-- an AS put ahead -/
def prepF (l : List (Int × List Nat)) (as_ : Nat) (conf : Bool) : List (Int × List Nat) × Int :=
  if pathOk l = false ∨ as_ = 0 then ([], 2) else
  match l with
  | [] => ([(segKind conf, [as_])], 0)
  | s :: r => if s.1 = segKind conf ∧ s.2.length < 255 then ((s.1, as_ :: s.2) :: r, 0) else if (s :: r).length = 16 then ([], 3) else ((segKind conf, [as_]) :: s :: r, 0)
/-- without ORIGINATOR_ID and clusters -/
def aloneF (c : AtC) : AtC := { c with hasOrig := false, orig := 0, clus := [] }
/-- with a LOCAL_PREF -/
def prefF (c : AtC) : AtC := { c with hasPref := true, pref := if c.hasPref = true then c.pref else 100 }
def outF (g : Cfg) (loc : Bool) (c : AtC) : AtC × Int :=
  ({ aloneF c with path := (prepF (bareF c.path) (if 0 < g.confed then g.confed else g.as_) false).1, hasPref := false, pref := 0, hasMed := loc && c.hasMed, med := if loc = true then c.med else 0 }, (prepF (bareF c.path) (if 0 < g.confed then g.confed else g.as_) false).2)
def memF (g : Cfg) (c : AtC) : AtC × Int := ({ prefF (aloneF c) with path := (prepF c.path g.as_ true).1 }, (prepF c.path g.as_ true).2)
def inF (g : Cfg) (refl : Bool) (sid : Nat) (c : AtC) : AtC × Int :=
  if refl = false then (prefF c, 0) else if 32 ≤ c.clus.length then (prefF c, 3) else
  ({ prefF c with hasOrig := true, orig := if c.hasOrig = true then c.orig else sid, clus := (if g.cluster = 0 then g.id else g.cluster) :: c.clus }, 0)
def noC : AtC := ⟨0, [], ⟨#[]⟩, false, 0, false, 0, false, 0, 0, [], [], [], false, 0, []⟩
end Go.Proofs.YtojiieghjhjoaaaGreat
set_option linter.unusedVariables false
set_option linter.unusedSimpArgs false
namespace Go.Proofs.YtojiieghjhjoaaaGreat
open Go.RowKit Go.MapKept

/-- a path -/
structure Pth where
  n : Nl
  a : Atr
  kind : Int
  peer : ByteArray
  as_ : Nat
  sid : Nat
  addr : ByteArray
  vrf : ByteArray
  stale : Bool
def Pth.ar (p : Pth) : Array Value := #[.int .i64 p.n.fam, .int .u64 p.n.rd, .string p.n.addr, .int .i64 p.n.len, .int .u32 p.n.id, .int .u32 p.n.label, .int .i64 p.a.origin, .slice p.a.pA p.a.segs.length p.a.pC, .string p.a.next, .bool p.a.hasMed, .int .u32 (p.a.med : Nat), .bool p.a.hasPref, .int .u32 (p.a.pref : Nat), .bool p.a.atomic, .int .u32 (p.a.aggAs : Nat), .int .u32 (p.a.aggId : Nat), .slice p.a.mA p.a.comms.length p.a.mC, .slice p.a.xA p.a.exts.length p.a.xC, .slice p.a.lA p.a.larges.length p.a.lC, .bool p.a.hasOrig, .int .u32 (p.a.orig : Nat), .slice p.a.kA p.a.clus.length p.a.kC, .int .i64 p.kind, .string p.peer, .int .u32 (p.as_ : Nat), .int .u32 (p.sid : Nat), .string p.addr, .string p.vrf, .bool p.stale]
structure PthOk (w : World) (p : Pth) : Prop where
  n : p.n.Ok
  a : AtrOk w p.a
  sz : AtrSz p.a.c
  peer : p.peer.size ≤ 9223372036854775807
  kind : -9223372036854775808 ≤ p.kind ∧ p.kind ≤ 9223372036854775807
  nums : p.as_ < 4294967296 ∧ p.sid < 4294967296
theorem PthOk.below {w w' : World} {p : Pth} {B : Nat} (h : PthOk w p) (hb : Below B w w') (hB : w.heap.size ≤ B) : PthOk w' p := { h with a := h.a.below hb hB }
/-- a configuration of which but these count -/
def Cfg.ar (g : Cfg) : Array Value := #[.int .u32 (g.as_ : Nat), .int .u32 (g.id : Nat), .int .u32 (g.confed : Nat), .slice none 0 0, .int .u32 (g.cluster : Nat), .string g.addr, .int .u32 0, .int .u32 0, .slice none 0 0, .slice none 0 0, .slice none 0 0, .slice none 0 0, .slice none 0 0]
structure Cfg.Ok (g : Cfg) : Prop where
  as_ : g.as_ < 4294967296
  id : g.id < 4294967296
  confed : g.confed < 4294967296
  cluster : g.cluster < 4294967296
  addr : g.addr.size ≤ 9223372036854775807
/-- a neighbour -/
structure Pr where
  name : ByteArray
  addr : ByteArray
  rfam : Int
  rrd : Int
  raddr : ByteArray
  rlen : Int
  as_ : Nat
  hold : Int
  retry : Int
  passive : Bool
  client : Bool
  confed : Bool
  fA : Option Addr
  fams : List Int
  fC : Nat
  send : Int
  take : Bool
  most : Int
  gr : Bool
  time : Int
  mrai : Int
  in_ : ByteArray
  out : ByteArray
  vrf : ByteArray
  selfNext : Bool
def Pr.ar (t : Pr) : Array Value := #[.string t.name, .string t.addr, .int .i64 t.rfam, .int .u64 t.rrd, .string t.raddr, .int .i64 t.rlen, .int .u32 (t.as_ : Nat), .int .i64 t.hold, .int .i64 t.retry, .bool t.passive, .bool t.client, .bool t.confed, .slice t.fA t.fams.length t.fC, .int .i64 t.send, .bool t.take, .int .i64 t.most, .bool t.gr, .int .i64 t.time, .int .i64 t.mrai, .string t.in_, .string t.out, .string t.vrf, .bool t.selfNext]
def i1 (n : Int) : List Value := [.int .i64 n]
structure PrOk (w : World) (t : Pr) : Prop where
  rd : Rd w t.fA 1 (t.fams.map i1)
  len : t.fams.length ≤ t.fC
  cap : t.fC ≤ maxLen
  name : t.name.size ≤ 9223372036854775807
  as_ : t.as_ < 4294967296
theorem PrOk.below {w w' : World} {t : Pr} {B : Nat} (h : PrOk w t) (hb : Below B w w') (hB : w.heap.size ≤ B) : PrOk w' t := { h with rd := h.rd.below hb hB }

/-- may the path be? -/
def mayPathF (p : Pth) : Bool := nlC p.n == 0 && atOk p.a.c && (if p.kind = 1 then p.peer.size == 0 else decide (1 < p.kind) && decide (p.kind ≤ 5) && nameF p.peer)
def kindOf (g : Cfg) (t : Pr) : Int := kindF g.as_ t.as_ t.client t.confed
/-- may the neighbour be told it? -/
def mayF (g : Cfg) (p : Pth) (t : Pr) : Bool :=
  mayPathF p && t.fams.contains p.n.fam && !(p.peer.toList == t.name.toList) && !hasN p.a.comms 4294967042 &&
  !(hasN p.a.comms 4294967041 && kindOf g t == 2) && !(hasN p.a.comms 4294967043 && (kindOf g t == 2 || kindOf g t == 3)) && !(kindOf g t == 4 && p.kind == 4)
def mapped : ByteArray := ⟨#[0, 0, 0, 0, 0, 0, 0, 0, 0, 0, 255, 255]⟩
/-- the next hop that it is told -/
def nextF (g : Cfg) (p : Pth) (t : Pr) : ByteArray :=
  if kindOf g t ≠ 2 ∧ t.selfNext = false ∧ (p.a.next.size : Int) = famSize p.n.fam then p.a.next
  else if famSize p.n.fam = 0 ∨ g.addr.size ≠ 4 then ⟨#[]⟩ else if famSize p.n.fam = 16 then mapped ++ g.addr else g.addr
def turnF (g : Cfg) (p : Pth) (t : Pr) : AtC × Int :=
  if kindOf g t = 2 then outF g (p.kind == 1) { p.a.c with next := nextF g p t } else if kindOf g t = 3 then memF g { p.a.c with next := nextF g p t }
  else inF g (p.kind == 4 || p.kind == 5) p.sid { p.a.c with next := nextF g p t }
/-- the attributes that it is told -/
def attrsF (g : Cfg) (p : Pth) (t : Pr) : AtC × Int :=
  if mayPathF p = false ∨ (nextF g p t).size = 0 then (noC, 2) else if (turnF g p t).2 ≠ 0 then (noC, (turnF g p t).2) else ((turnF g p t).1, 0)
def toldF (g : Cfg) (p : Pth) (t : Pr) : AtC × Bool := if mayF g p t = false then (noC, false) else ((attrsF g p t).1, (attrsF g p t).2 == 0)
end Go.Proofs.YtojiieghjhjoaaaGreat
