/-
  Several texts in one.
-/
import Derived.Test.YtldpcliahfiloaaNW5
import Derived.Test.YtldpcliahfiloaaNW6
import Derived.Test.YtldpcliahfiloaaNW7
set_option linter.unusedVariables false
set_option linter.unusedSimpArgs false
namespace Go.Proofs.Ytldpcliahfiloaa
open Go.RowKit

/-- the first k of size bytes of v, the highest first -/
def beB (v size k : Nat) : List UInt8 := (List.range k).map fun j => UInt8.ofNat (v / 2 ^ (8 * (size - 1 - j)))
end Go.Proofs.Ytldpcliahfiloaa
