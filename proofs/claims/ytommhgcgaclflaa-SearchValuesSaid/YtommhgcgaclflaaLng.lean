/- Whether a plan is too long, with the answer told. -/
import Derived.Test.YtommhgcgaclflaaTH
import Derived.Test.YtommhgcgaclflaaZB14
import Derived.Test.YtommhgcgaclflaaZB11
namespace Go.Proofs.Ytommhgcgaclflaa
set_option linter.unusedVariables false
set_option linter.unusedSimpArgs false
set_option linter.unusedSectionVars false
set_option linter.unnecessarySimpa false
open Go Go.RowKit Game
theorem longC_any (p : List Int) (hl : p.length ≤ 9223372036854775807) (a : Option Addr) (cap : Nat) (b : Bool) (hb : decide (8 < p.length) = b) (w : World) : Calls Try.prog 17 #[.slice a p.length cap] w fun e w' => e = .returned (.bool b) ∧ Ext w w' := by
  subst hb; exact long_any p hl a cap w

end Go.Proofs.Ytommhgcgaclflaa
