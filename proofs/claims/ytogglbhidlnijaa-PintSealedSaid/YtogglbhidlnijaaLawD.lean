/- Small functions of the laws of dented measures: sound, Bottom. -/
import Derived.Test.YtogglbhidlnijaaLawB
import Derived.Test.YtogglbhidlnijaaPlainH
import Derived.Test.YtogglbhidlnijaaMemH
import Derived.IntWalk
import Derived.Deep.RegionHeld3
namespace Go.Proofs.Ytogglbhidlnijaa
set_option linter.unusedVariables false
set_option linter.unusedSimpArgs false
set_option linter.unusedSectionVars false
set_option linter.unnecessarySimpa false
open Go Go.RowKit
set_option maxRecDepth 100000

theorem sound_yes (d : Dent) (v : VldD d) (q : FitD d) (a : Option Addr) (cap : Nat) (w : World) (hI : Prs w a d.rs) : Calls Try.prog 61 #[(.agg #[.int .i64 d.L, .int .i64 d.R, .slice a d.rs.length cap])] w fun e w' => e = .returned (.bool true) ∧ Ext w w' := by
  have hB := (Ext.refl w).alloc (.cells #[.int .i64 d.L, .int .i64 d.R, .slice a d.rs.length cap] 50)
  have n4 := v.n4
  have hd : decide (10 < d.rs.length) = false := by simp; omega
  go_enter Try.func61, Try.ntmps61
  go_wp2_with fail
  refine (wide_any d a cap _ (by omega)).mono ?_; rintro e w1 ⟨rfl, hE⟩
  obtain ⟨c0, c1, c2⟩ := box3 hE
  rw [hd]
  go_wp2_with fail
  refine (checkDentedR_any d q a cap _ (hI.ext (by repeat (with_reducible first | assumption | exact Ext.refl _ | refine Ext.drew ?_ | refine Ext.drewN ?_ _ | refine Ext.alloc ?_ _ | (refine Ext.setCell ?_ ?sz _; case sz => (first | (simp; done) | (simp; omega))) | refine Ext.trans ?_ (by assumption)))) (by omega)).mono ?_; rintro e w2 ⟨rfl, hE2⟩
  rw [chkD_ok.2 v]
  go_wp2_with fail
  go_ret
  exact ⟨ret_bool (by simp), (by repeat (with_reducible first | assumption | exact Ext.refl _ | refine Ext.drew ?_ | refine Ext.drewN ?_ _ | refine Ext.alloc ?_ _ | (refine Ext.setCell ?_ ?sz _; case sz => (first | (simp; done) | (simp; omega))) | refine Ext.trans ?_ (by assumption)))⟩
theorem sound_no (d : Dent) (q : FitD d) (v : ¬ VldD d) (a : Option Addr) (cap : Nat) (w : World) (hI : Prs w a d.rs) (hl : d.rs.length ≤ 9223372036854775807) : Calls Try.prog 61 #[(.agg #[.int .i64 d.L, .int .i64 d.R, .slice a d.rs.length cap])] w fun e w' => e = .returned (.bool false) ∧ Ext w w' := by
  have hB := (Ext.refl w).alloc (.cells #[.int .i64 d.L, .int .i64 d.R, .slice a d.rs.length cap] 50)
  by_cases g : 10 < d.rs.length
  · have hd : decide (10 < d.rs.length) = true := by simpa using g
    go_enter Try.func61, Try.ntmps61
    go_wp2_with fail
    refine (wide_any d a cap _ (by omega)).mono ?_; rintro e w1 ⟨rfl, hE⟩
    rw [hd]
    go_wp2_with fail
    go_ret
    exact ⟨ret_bool (by simp), (by repeat (with_reducible first | assumption | exact Ext.refl _ | refine Ext.drew ?_ | refine Ext.drewN ?_ _ | refine Ext.alloc ?_ _ | (refine Ext.setCell ?_ ?sz _; case sz => (first | (simp; done) | (simp; omega))) | refine Ext.trans ?_ (by assumption)))⟩
  · have hd : decide (10 < d.rs.length) = false := by simpa using g
    go_enter Try.func61, Try.ntmps61
    go_wp2_with fail
    refine (wide_any d a cap _ (by omega)).mono ?_; rintro e w1 ⟨rfl, hE⟩
    obtain ⟨c0, c1, c2⟩ := box3 hE
    rw [hd]
    go_wp2_with fail
    refine (checkDentedR_any d q a cap _ (hI.ext (by repeat (with_reducible first | assumption | exact Ext.refl _ | refine Ext.drew ?_ | refine Ext.drewN ?_ _ | refine Ext.alloc ?_ _ | (refine Ext.setCell ?_ ?sz _; case sz => (first | (simp; done) | (simp; omega))) | refine Ext.trans ?_ (by assumption)))) (by omega)).mono ?_; rintro e w2 ⟨rfl, hE2⟩
    have hc : chkD d ≠ 0 := fun h => v (chkD_ok.1 h)
    go_wp2_with fail
    go_ret
    exact ⟨ret_bool (by simp [hc]), (by repeat (with_reducible first | assumption | exact Ext.refl _ | refine Ext.drew ?_ | refine Ext.drewN ?_ _ | refine Ext.alloc ?_ _ | (refine Ext.setCell ?_ ?sz _; case sz => (first | (simp; done) | (simp; omega))) | refine Ext.trans ?_ (by assumption)))⟩

end Go.Proofs.Ytogglbhidlnijaa
