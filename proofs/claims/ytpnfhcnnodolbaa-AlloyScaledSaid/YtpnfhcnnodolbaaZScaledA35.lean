/- Texts of one proof, laid together: MemR. -/
import Derived.Test.YtpnfhcnnodolbaaZY2
import Derived.Test.YtpnfhcnnodolbaaZScaledA34
import Derived.Test.YtpnfhcnnodolbaaZY4
import Derived.Maps.AppendAt
set_option linter.unusedVariables false
set_option linter.unusedSimpArgs false
set_option linter.unusedSectionVars false
set_option linter.unnecessarySimpa false
namespace Go.Proofs.Ytpnfhcnnodolbaa
open Go Go.RowKit
theorem cellsG_congr {k n : Nat} {f g : Nat → Nat → Value} (h : ∀ i r, i < n → r < k → g i r = f i r) : cellsG k f n = cellsG k g n := by
 have := cellsG_append (k := k) (n := n) (m := 0) (f := f) (g := g) (h := f) h (fun i r hi => absurd hi (by omega))
 simpa [cellsG] using this
section
variable {w w' : World} {base : Nat} {e : TypeId} {k : Nat} {v : Value} {f g : Nat → Nat → Value} {n : Nat}
end
end Go.Proofs.Ytpnfhcnnodolbaa
