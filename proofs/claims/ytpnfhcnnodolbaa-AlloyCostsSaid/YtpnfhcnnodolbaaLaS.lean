/- The laws' helper small. -/
import Derived.Test.YtpnfhcnnodolbaaZB10
import Derived.Test.YtpnfhcnnodolbaaAa
namespace Go.Proofs.Ytpnfhcnnodolbaa
set_option linter.unusedVariables false
set_option linter.unusedSimpArgs false
set_option linter.unusedSectionVars false
set_option linter.unnecessarySimpa false
open Go Go.RowKit Game
set_option maxRecDepth 100000
structure OkS (n d : Int) : Prop where
 n0 : 0 ≤ n
 n1 : n ≤ 1000 * d
 d0 : 1 ≤ d
 d1 : d ≤ 6000000
 g : Int.gcd n d = 1
set_option maxHeartbeats 800000 in
theorem smallL_any (n d : Int) (h : OkS n d) (w : World) : Calls Try.prog 45 #[(.agg #[.int .i64 (n), .int .i64 (d)])] w fun e w' => e = .returned (.bool true) ∧ Ext w w' := by
 obtain ⟨h0, h1, h2, h3, hg⟩ := h
 have a1 : ¬ d < 1 := by omega
 have a2 : ¬ 6000000 < d := by omega
 have a3 : ¬ n < 0 := by omega
 have a4 : ¬ 1000 * d < n := by omega
 have a5 := Go.IntWalk.i64_in (1000 * d) (by omega)
 have hc := hid (fun W => common_any n d h0 (by omega) (by omega) (by omega) W)
 rw [hg] at hc
 replace hg := hid hg
 replace h1 := hid h1
 go_enter Try.func45, Try.ntmps45
 go_wp2_with fail
 refine (hc.out _).mono ?_; rintro e w1 ⟨rfl, hE⟩
 have x1 : Ext w w1 := exE
 go_wp2_with fail
 go_ret
 exact ⟨rfl, x1⟩

end Go.Proofs.Ytpnfhcnnodolbaa
