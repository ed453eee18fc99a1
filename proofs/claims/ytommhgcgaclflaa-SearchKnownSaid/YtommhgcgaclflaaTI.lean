/- The examples of the chapter that SearchKnown calls. -/
import Derived.Test.YtommhgcgaclflaaZB23
import Derived.Test.YtommhgcgaclflaaZB10
namespace Go.Proofs.Ytommhgcgaclflaa
set_option linter.unusedVariables false
set_option linter.unusedSimpArgs false
set_option linter.unusedSectionVars false
set_option linter.unnecessarySimpa false
open Go Go.RowKit Game
set_option maxRecDepth 100000

theorem SK1 (a p : Option Addr) (c c2 : Nat) (w : World) (h : Tab w a mxA) (hI : Ints w p [1, 0]) : Calls Try.prog 19 #[.agg #[.slice a 2 c], .slice p 2 c2] w (fun e w' => e = .returned (.tuple #[.agg #[.int .i64 (-1), .int .i64 (1)], .int .i64 (0)]) ∧ Ext w w') := by
  have h := sureP_any mxA (vld_fit vldA) a c [1, 0] (fit2 _ _ (⟨by decide, by decide⟩) (⟨by decide, by decide⟩)) (by simp) p c2 w h (by decide) (hw_of vldA) hI
  rw [show sureNE mxA [1, 0] = -1 from by decide +kernel, show sureDE mxA [1, 0] = 1 from by decide +kernel, show sureE mxA [1, 0] = 0 from by decide +kernel] at h
  exact h
theorem SK2 (a p : Option Addr) (c c2 : Nat) (w : World) (h : Tab w a mxA) (hI : Ints w p [1, 1]) : Calls Try.prog 21 #[.agg #[.slice a 2 c], .slice p 2 c2] w (fun e w' => e = .returned (.tuple #[.agg #[.int .i64 (1), .int .i64 (1)], .int .i64 (0)]) ∧ Ext w w') := by
  have h := boundP_any mxA (vld_fit vldA) a c [1, 1] (fit2 _ _ (⟨by decide, by decide⟩) (⟨by decide, by decide⟩)) (by simp) p c2 w h (by decide) (hw_of vldA) hI
  rw [show boundNE mxA [1, 1] = 1 from by decide +kernel, show boundDE mxA [1, 1] = 1 from by decide +kernel, show boundE mxA [1, 1] = 0 from by decide +kernel] at h
  exact h
theorem SK3 (a : Option Addr) (c : Nat) (w : World) (h : Tab w a mxB) : Calls Try.prog 25 #[.agg #[.slice a 2 c]] w (fun e w' => e = .returned (.tuple #[.agg #[.int .i64 (1), .int .i64 (1)], .int .i64 (0)]) ∧ Ext w w') := by
  have h := valueP_any mxB (vld_fit vldB) a c w h (by decide) (hw_of vldB)
  rw [show valNE mxB = 1 from by decide +kernel, show valDE mxB = 1 from by decide +kernel, show chkT mxB = 0 from by decide +kernel] at h
  exact h
theorem SK4 (a : Option Addr) (c : Nat) (w : World) (h : Tab w a mxC) : Calls Try.prog 36 #[.agg #[.slice a 3 c]] w (RetL2 [0, 1, 2] [0, 1, 2] 0 w) := by
  have h := usedP_any mxC (vld_fit vldC) a c w h (by decide) (hw_of vldC)
  rw [show usedR mxC = [0, 1, 2] from by decide +kernel, show usedC mxC = [0, 1, 2] from by decide +kernel, show chkT mxC = 0 from by decide +kernel] at h
  exact h
theorem SK5 (a : Option Addr) (c : Nat) (w : World) (h : Tab w a mxA) : Calls Try.prog 38 #[.agg #[.slice a 2 c]] w (RetL2 [0, 1] [0, 1] 0 w) := by
  have h := left_any mxA (vld_fit vldA) a c w h (by decide) (hw_of vldA)
  unfold RetLeft at h
  rw [show leftR mxA = [0, 1] from by decide +kernel, show leftC mxA = [0, 1] from by decide +kernel, show chkT mxA = 0 from by decide +kernel] at h
  exact h
theorem SK6 (a : Option Addr) (c : Nat) (w : World) (h : Tab w a mxC) : Calls Try.prog 38 #[.agg #[.slice a 3 c]] w (RetL2 [0, 1, 2] [0, 1, 2] 0 w) := by
  have h := left_any mxC (vld_fit vldC) a c w h (by decide) (hw_of vldC)
  unfold RetLeft at h
  rw [show leftR mxC = [0, 1, 2] from by decide +kernel, show leftC mxC = [0, 1, 2] from by decide +kernel, show chkT mxC = 0 from by decide +kernel] at h
  exact h
theorem SK7 (a : Option Addr) (c : Nat) (w : World) (h : Tab w a mxC) : Calls Try.prog 23 #[.agg #[.slice a 3 c]] w fun e w' => e = .returned (.int .i64 0) ∧ Ext w w' := by
  have h := checkTable_any mxC (vld_fit vldC) a c w h (by decide) (hw_of vldC)
  rw [show chkT mxC = 0 from by decide +kernel] at h
  exact h

end Go.Proofs.Ytommhgcgaclflaa
