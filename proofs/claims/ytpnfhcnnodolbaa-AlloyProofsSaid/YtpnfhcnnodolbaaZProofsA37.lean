/- Texts of one proof, laid together: EqP. -/
import Derived.Test.YtpnfhcnnodolbaaZY21
import Derived.Test.YtpnfhcnnodolbaaZY10
import Derived.Test.YtpnfhcnnodolbaaZY7
import Derived.Test.YtpnfhcnnodolbaaZY2
import Derived.Test.YtpnfhcnnodolbaaZProofsA34
import Derived.Test.YtpnfhcnnodolbaaZY18
import Derived.Test.YtpnfhcnnodolbaaZProofsA36
import Derived.Test.YtpnfhcnnodolbaaZY4
import Derived.Test.YtpnfhcnnodolbaaZY17
import Derived.Test.YtpnfhcnnodolbaaZY16
import Derived.Test.YtpnfhcnnodolbaaZY8
import Derived.Test.YtpnfhcnnodolbaaZProofsA35
import Derived.Test.YtpnfhcnnodolbaaZY9
import Derived.Test.YtpnfhcnnodolbaaZY5
set_option linter.unusedVariables false
set_option linter.unusedSimpArgs false
set_option linter.unusedSectionVars false
set_option linter.unnecessarySimpa false
set_option maxRecDepth 100000
namespace Go.Proofs.Ytpnfhcnnodolbaa
open Go Go.RowKit
theorem run_eqProof (a b c d : Int) (w : World) : (Op.equalIn 10000 45 (.agg #[.int .i64 a, .int .i64 b, .int .i64 c, .int .i64 d]) (.agg #[.int .i64 a, .int .i64 b, .int .i64 c, .int .i64 d])).run Try.prog w = .ok true w := by
 have hp : Try.prog.plainKey 2 = true := by kernel_rfl
 rw [show (10000 : Nat) = 9998 + 1 + 1 from rfl, run_equalIn_agg w (9998 + 1) 45 _ _ (by unfold Program.fieldsOf; rw [Try.underlying45]) (by kernel_rfl)]
 unfold Program.fieldsOf
 rw [Try.underlying45]
 have q : ∀ (xs : Array Value) (off : Nat) (v : Value) (w : World), xs[off]? = some v → (part 2 xs off).run Try.prog w = .ok v w := fun xs off v w h => run_part_plain w hp h
 have hi : ∀ (x y : Int) (w : World), (Op.equalIn (9998 + 1) 2 (.int .i64 x) (.int .i64 y)).run Try.prog w = .ok (x == y) w := fun x y w => run_equalIn_int w 9998 2 .i64 .i64 x y Try.underlying2
 simp only [Op.eqFields]
 rw [if_pos (by decide), if_pos (by decide), if_pos (by decide), if_pos (by decide)]
 simp only [Sem.run_bind, q #[.int .i64 a, .int .i64 b, .int .i64 c, .int .i64 d] 0 (.int .i64 a) w rfl, q #[.int .i64 a, .int .i64 b, .int .i64 c, .int .i64 d] 1 (.int .i64 b) w rfl, q #[.int .i64 a, .int .i64 b, .int .i64 c, .int .i64 d] 2 (.int .i64 c) w rfl, q #[.int .i64 a, .int .i64 b, .int .i64 c, .int .i64 d] 3 (.int .i64 d) w rfl, Result.andThen_ok, hi, beq_self_eq_true, Bool.not_true, Bool.false_eq_true, if_false]
 simp
end Go.Proofs.Ytpnfhcnnodolbaa
