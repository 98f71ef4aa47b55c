/-
  Several texts in one.
-/
import Derived.Test.YtldpcliahfiloaaSW37
set_option linter.unusedVariables false
set_option linter.unusedSimpArgs false
namespace Go.Proofs.Ytldpcliahfiloaa
open Go.RowKit Go.MapKept
open Go.Lib hiding intOf

/-- a told prefix's place -/
def Nl.k (n : Nl) : Pk := ⟨n.fam, n.rd, n.addr, n.len, n.id.toNat⟩
/-- attributes of a MED alone -/
def medC (m : Nat) : AtC := ⟨0, [], ⟨#[]⟩, true, m, false, 0, false, 0, 0, [], [], [], false, 0, []⟩
theorem nodup_sub {α : Type} [DecidableEq α] : ∀ (D M : List α), D.Nodup → (∀ d ∈ D, d ∈ M) → D.length ≤ M.length
  | [], _, _, _ => Nat.zero_le _
  | d :: r, M, hn, hs => by
    have hd := hs d (List.mem_cons_self ..)
    obtain ⟨h1, h2⟩ := List.nodup_cons.1 hn
    have ih := nodup_sub r (M.erase d) h2 (fun x hx => (List.mem_erase_of_ne (fun e => h1 (by rw [← e]; exact hx))).2 (hs x (List.mem_cons_of_mem _ hx)))
    rw [List.length_erase_of_mem hd] at ih
    have := List.length_pos_of_mem hd
    rw [List.length_cons]
    omega
end Go.Proofs.Ytldpcliahfiloaa
