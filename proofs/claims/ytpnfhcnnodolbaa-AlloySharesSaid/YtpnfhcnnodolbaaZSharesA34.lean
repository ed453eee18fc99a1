/- Texts of one proof, laid together: Edg. -/
import Derived.Test.YtpnfhcnnodolbaaZY2

namespace Go.Proofs.Ytpnfhcnnodolbaa.Game
def co (c : Nat → Int) (m : Nat) (x : Nat → Int) : Int := sm m fun i => x i * c i
end Go.Proofs.Ytpnfhcnnodolbaa.Game
