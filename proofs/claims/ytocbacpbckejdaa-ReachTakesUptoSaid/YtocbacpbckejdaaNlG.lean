/-
  Contracts of reach.lay, head, PutGone. Conditions: sizes.
-/
import Derived.Test.YtocbacpbckejdaaNlF
set_option linter.unusedVariables false
set_option linter.unusedSimpArgs false
namespace Go.Proofs.Ytocbacpbckejdaa
open Go.RowKit

/-- string(b) of bytes that were just laid -/
theorem conv_bytes (u : World) (l : List UInt8) (vals : Array Value) (h : vals = (byteVals l).toArray) (n : Nat) (hn : n = l.length) :
    (convert 52 9 (.slice (some ⟨u.heap.size, 0, none⟩) n n)).run Try.prog (u.alloc (.cells vals 5)) = .ok (.string ⟨l.toArray⟩) (u.alloc (.cells vals 5)) := by
  subst hn
  refine run_convert_bytes_back (P := Try.prog) _ 52 9 5 ⟨u.heap.size, 0, none⟩ l.length l Try.underlying52 Try.underlying5 Try.underlying9 (fun j hj => ?_)
  rw [add_flat, cell_of_row _ u.heap.size j _ _ _ (heap_alloc_new u _), h]
  simp [byteVals, hj]

/-- a pair's bytes -/
def headS (f : Int) : ByteArray := ⟨#[0, UInt8.ofNat (afiV f).toNat, UInt8.ofNat (safiV f).toNat]⟩
theorem head_any (f : Int) (w : World) (h1 : 1 ≤ f) (h2 : f ≤ 5) :
    Calls Try.prog 32 #[.agg #[.int .u16 (afiV f), .int .u8 (safiV f), .int .i64 (zeroV f), .int .i64 (sizeV f)]] w fun e w' => e = .returned (.string (headS f)) ∧ Below w.heap.size w w' := by
  rcases fam_five h1 h2 with rfl | rfl | rfl | rfl | rfl
  · have hc := conv_bytes (w.alloc (.cells #[.int .u16 1, .int .u8 1, .int .i64 0, .int .i64 4] 55)) [0, 1, 1] #[.int .u8 0, .int .u8 1, .int .u8 1] rfl 3 rfl
    simp only [World.size_alloc] at hc
    show Calls Try.prog 32 #[.agg #[.int .u16 1, .int .u8 1, .int .i64 0, .int .i64 4]] w fun e w' => e = .returned (.string ⟨#[0, 1, 1]⟩) ∧ Below w.heap.size w w'
    go_enter Try.func32, Try.ntmps32
    go_wp2_with fail
    go_ret
    exact ⟨rfl, by go_grown⟩
  · have hc := conv_bytes (w.alloc (.cells #[.int .u16 2, .int .u8 1, .int .i64 0, .int .i64 16] 55)) [0, 2, 1] #[.int .u8 0, .int .u8 2, .int .u8 1] rfl 3 rfl
    simp only [World.size_alloc] at hc
    show Calls Try.prog 32 #[.agg #[.int .u16 2, .int .u8 1, .int .i64 0, .int .i64 16]] w fun e w' => e = .returned (.string ⟨#[0, 2, 1]⟩) ∧ Below w.heap.size w w'
    go_enter Try.func32, Try.ntmps32
    go_wp2_with fail
    go_ret
    exact ⟨rfl, by go_grown⟩
  · have hc := conv_bytes (w.alloc (.cells #[.int .u16 1, .int .u8 4, .int .i64 0, .int .i64 4] 55)) [0, 1, 4] #[.int .u8 0, .int .u8 1, .int .u8 4] rfl 3 rfl
    simp only [World.size_alloc] at hc
    show Calls Try.prog 32 #[.agg #[.int .u16 1, .int .u8 4, .int .i64 0, .int .i64 4]] w fun e w' => e = .returned (.string ⟨#[0, 1, 4]⟩) ∧ Below w.heap.size w w'
    go_enter Try.func32, Try.ntmps32
    go_wp2_with fail
    go_ret
    exact ⟨rfl, by go_grown⟩
  · have hc := conv_bytes (w.alloc (.cells #[.int .u16 1, .int .u8 128, .int .i64 8, .int .i64 4] 55)) [0, 1, 128] #[.int .u8 0, .int .u8 1, .int .u8 128] rfl 3 rfl
    simp only [World.size_alloc] at hc
    show Calls Try.prog 32 #[.agg #[.int .u16 1, .int .u8 128, .int .i64 8, .int .i64 4]] w fun e w' => e = .returned (.string ⟨#[0, 1, 128]⟩) ∧ Below w.heap.size w w'
    go_enter Try.func32, Try.ntmps32
    go_wp2_with fail
    go_ret
    exact ⟨rfl, by go_grown⟩
  · have hc := conv_bytes (w.alloc (.cells #[.int .u16 2, .int .u8 128, .int .i64 8, .int .i64 16] 55)) [0, 2, 128] #[.int .u8 0, .int .u8 2, .int .u8 128] rfl 3 rfl
    simp only [World.size_alloc] at hc
    show Calls Try.prog 32 #[.agg #[.int .u16 2, .int .u8 128, .int .i64 8, .int .i64 16]] w fun e w' => e = .returned (.string ⟨#[0, 2, 128]⟩) ∧ Below w.heap.size w w'
    go_enter Try.func32, Try.ntmps32
    go_wp2_with fail
    go_ret
    exact ⟨rfl, by go_grown⟩

/-- the answer of lay -/
def layR (ahead : ByteArray) (L : List Nl) (fam : Int) (add : Bool) : Value :=
  if famSize fam = 0 ∨ ¬ ∀ n ∈ L, nlGood fam add n then .tuple #[.string ⟨#[]⟩, .int .i64 2]
  else if 4077 < ahead.size + (encAll L add).length then .tuple #[.string ⟨#[]⟩, .int .i64 3] else .tuple #[.string (ahead ++ ⟨(encAll L add).toArray⟩), .int .i64 0]

theorem lay_any (ahead : ByteArray) (A : Option Addr) (len cap : Nat) (L : List Nl) (fam : Int) (add : Bool) (w : World) (hr : NlRow w A len cap L) (hlen : len ≤ 10000) (ha : ahead.size ≤ 1000) :
    Calls Try.prog 31 #[.string ahead, .int .i64 fam, .slice A len cap, .bool add] w fun e w' => e = .returned (layR ahead L fam add) ∧ Below w.heap.size w w' := by
  have HE := Lib.hid (encode_any A len cap L fam add w hr hlen)
  by_cases hb : famSize fam = 0 ∨ ¬ ∀ n ∈ L, nlGood fam add n
  · have hres : Hid (layR ahead L fam add = .tuple #[.string ⟨#[]⟩, .int .i64 2]) := if_pos hb
    rw [encR_bad hb] at HE
    clear hb hr
    go_enter Try.func31, Try.ntmps31
    go_wp2_with fail
    refine HE.out.mono ?_
    rintro e w1 ⟨rfl, hb⟩
    go_wp2_with fail
    go_ret2
    exact ⟨ret_val hres.out.symm, hb⟩
  · have h1 : famSize fam ≠ 0 := fun h => hb (Or.inl h)
    have h2 : ∀ n ∈ L, nlGood fam add n := fun n hn => by
      by_cases h : nlGood fam add n
      · exact h
      · exact absurd (Or.inr (fun k => h (k n hn))) hb
    have hle := encAll_le (L := L) (add := add) (fun n hn => (h2 n hn).1)
    have hll := hr.hlen
    rw [encR_ok h1 h2] at HE
    have hsz : (ByteArray.mk (encAll L add).toArray).size = (encAll L add).length := by show (encAll L add).toArray.size = _; simp
    have hle2 : (ByteArray.mk (encAll L add).toArray).size ≤ 320000 := by omega
    by_cases hbig : 4077 < ahead.size + (encAll L add).length
    · have hres : Hid (layR ahead L fam add = .tuple #[.string ⟨#[]⟩, .int .i64 3]) := by show _ = _; unfold layR; rw [if_neg hb, if_pos hbig]
      rw [← hsz] at hbig
      clear hb h1 h2 hle hll hsz hr
      generalize (⟨(encAll L add).toArray⟩ : ByteArray) = E at HE hbig hle2
      have hs : 4077 < (ahead.size : Int) + (E.size : Int) := by omega
      go_enter Try.func31, Try.ntmps31
      go_wp2_with fail
      refine HE.out.mono ?_
      rintro e w1 ⟨rfl, hb⟩
      go_wp2_with fail
      go_ret2
      exact ⟨ret_val hres.out.symm, hb⟩
    · have hres : Hid (layR ahead L fam add = .tuple #[.string (ahead ++ ⟨(encAll L add).toArray⟩), .int .i64 0]) := by show _ = _; unfold layR; rw [if_neg hb, if_neg hbig]
      rw [← hsz] at hbig
      clear hb h1 h2 hle hll hsz hr
      generalize (⟨(encAll L add).toArray⟩ : ByteArray) = E at HE hbig hle2 hres
      have hs : ¬ 4077 < (ahead.size : Int) + (E.size : Int) := by omega
      go_enter Try.func31, Try.ntmps31
      go_wp2_with fail
      refine HE.out.mono ?_
      rintro e w1 ⟨rfl, hb⟩
      go_wp2_with fail
      go_ret2
      exact ⟨ret_val hres.out.symm, hb⟩

theorem headS_size (f : Int) : (headS f).size = 3 := rfl
/-- the answer of PutGone -/
def goneR (f : Int) (L : List Nl) (add : Bool) : Value := if 1 ≤ f ∧ f ≤ 5 then layR (headS f) L f add else .tuple #[.string ⟨#[]⟩, .int .i64 2]
theorem putgone_any (f : Int) (A : Option Addr) (len cap : Nat) (L : List Nl) (add : Bool) (w : World) (hr : NlRow w A len cap L) (hlen : len ≤ 10000) :
    Calls Try.prog 17 #[.int .i64 f, .slice A len cap, .bool add] w fun e w' => e = .returned (goneR f L add) ∧ Below w.heap.size w w' := by
  by_cases h : 1 ≤ f ∧ f ≤ 5
  · obtain ⟨h1, h2⟩ := h
    have hres : Hid (goneR f L add = layR (headS f) L f add) := if_pos ⟨h1, h2⟩
    have HR := Lib.hid hr
    clear hr
    go_enter Try.func17, Try.ntmps17
    go_wp2_with fail
    refine (rowOf_in f _ h1 h2).mono ?_
    rintro e w1 ⟨rfl, hb⟩
    have HB1 := Lib.hid (hb.alloc hb.size (.cells #[.int .u16 (afiV f), .int .u8 (safiV f), .int .i64 (zeroV f), .int .i64 (sizeV f)] 55))
    clear hb
    go_wp2_with fail
    refine (head_any f _ h1 h2).mono ?_
    rintro e w2 ⟨rfl, hb⟩
    have HB2 := Lib.hid (HB1.out.trans (hb.mono HB1.out.size))
    have HR2 := Lib.hid (HR.out.below HB2.out (Nat.le_refl _))
    clear hb HB1
    go_wp2_with fail
    refine (lay_any (headS f) _ _ _ L f add _ HR2.out hlen (by rw [headS_size]; omega)).mono ?_
    rintro e w3 ⟨rfl, hb⟩
    have HB3 := Lib.hid (HB2.out.trans (hb.mono HB2.out.size))
    clear hb HB2
    have hval : Hid (∃ (s : ByteArray) (z : Int), layR (headS f) L f add = .tuple #[.string s, .int .i64 z]) := by
      show ∃ s z, _
      unfold layR
      split
      · exact ⟨_, _, rfl⟩
      · split
        · exact ⟨_, _, rfl⟩
        · exact ⟨_, _, rfl⟩
    obtain ⟨s, z, hsz⟩ := hval.out
    rw [hsz] at hres ⊢
    clear hval hsz
    go_wp2_with fail
    go_ret2
    exact ⟨ret_val hres.out.symm, HB3.out⟩
  · have hres : Hid (goneR f L add = .tuple #[.string ⟨#[]⟩, .int .i64 2]) := if_neg h
    go_enter Try.func17, Try.ntmps17
    go_wp2_with fail
    refine (rowOf_out f _ (by omega)).mono ?_
    rintro e w1 ⟨rfl, hb⟩
    have HB1 := Lib.hid (hb.alloc hb.size (.cells #[.int .u16 0, .int .u8 0, .int .i64 0, .int .i64 0] 55))
    clear hb
    go_wp2_with fail
    go_ret2
    exact ⟨ret_val hres.out.symm, HB1.out⟩

end Go.Proofs.Ytocbacpbckejdaa
