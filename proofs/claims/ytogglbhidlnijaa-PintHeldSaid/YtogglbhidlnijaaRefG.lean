/- The reference's functions over dented measures, on. -/
import Derived.Test.YtogglbhidlnijaaRefF
namespace Go.Proofs.Ytogglbhidlnijaa
set_option linter.unusedVariables false
set_option linter.unusedSimpArgs false
set_option linter.unusedSectionVars false
set_option linter.unnecessarySimpa false
open Go Go.RowKit

theorem in_any (x y n : Int) (w : World) :
    Calls Try.prog 51 #[.agg #[.int .i64 x, .int .i64 y], .int .i64 n] w fun e w' => e = .returned (.bool (decide (x ≤ n ∧ n ≤ y))) ∧ Ext w w' := by
  by_cases g1 : x ≤ n
  all_goals by_cases g2 : n ≤ y
  all_goals
    go_enter Try.func51, Try.ntmps51
    go_wp2_with fail
    go_ret
    exact ⟨ret_bool (by simp [*]), (by repeat (with_reducible first | assumption | exact Ext.refl _ | refine Ext.drew ?_ | refine Ext.drewN ?_ _ | refine Ext.alloc ?_ _ | (refine Ext.setCell ?_ ?sz _; case sz => (first | (simp; done) | (simp; omega))) | refine Ext.trans ?_ (by assumption)))⟩

theorem measureR_any (d : Dent) (a a2 : Option Addr) (cap n2 cap2 : Nat) (w : World) :
    Calls Try.prog 53 #[(.agg #[.int .i64 d.L, .int .i64 d.R, .slice a d.rs.length cap]), .slice a2 n2 cap2] w fun e w' => e = .returned (.agg #[.int .i64 d.L, .int .i64 d.R, .slice a2 n2 cap2]) ∧ Ext w w' := by
  go_enter Try.func53, Try.ntmps53
  go_wp2_with fail
  refine bodyPost_ret (v := .agg #[.int .i64 d.L, .int .i64 d.R, .slice a2 n2 cap2]) (by simp [results, Try.results53, go_sem, *]) rfl ?_
  exact ⟨rfl, (by repeat (with_reducible first | assumption | exact Ext.refl _ | refine Ext.drew ?_ | refine Ext.drewN ?_ _ | refine Ext.alloc ?_ _ | (refine Ext.setCell ?_ ?sz _; case sz => (first | (simp; done) | (simp; omega))) | refine Ext.trans ?_ (by assumption)))⟩

set_option maxHeartbeats 400000 in
theorem dentedR_any (d : Dent) (q : FitD d) (a : Option Addr) (cap : Nat) (t : Int) (w : World) (hP : Prs w a d.rs) (hl : d.rs.length ≤ 1000) :
    Calls Try.prog 87 #[(.agg #[.int .i64 d.L, .int .i64 d.R, .slice a d.rs.length cap]), .int .i64 t] w fun e w' => e = .returned (.int .i64 (dtd d t)) ∧ Ext w w' := by
  have hB := (Ext.refl w).alloc (.cells #[.int .i64 d.L, .int .i64 d.R, .slice a d.rs.length cap] 50)
  by_cases g : chkD d = 0
  · have g0 : (chkD d != 0) = false := by simp [g]
    have H := hid (show dtd d t = if t < -20 ∨ 20 < t then 3 else 0 by unfold dtd; rw [if_neg (by simp [g])])
    clear g
    by_cases h1 : t < -20
    all_goals by_cases h2 : 20 < t
    all_goals
      go_enter Try.func87, Try.ntmps87
      go_wp2_with fail
      (refine (checkDentedR_any d q a cap _ (by first | assumption | exact Prs.ext hP (by repeat (with_reducible first | assumption | exact Ext.refl _ | refine Ext.drew ?_ | refine Ext.drewN ?_ _ | refine Ext.alloc ?_ _ | (refine Ext.setCell ?_ ?sz _; case sz => (first | (simp; done) | (simp; omega))) | refine Ext.trans ?_ (by assumption)))) hl).mono ?_; rintro e w1 ⟨rfl, hE⟩; obtain ⟨c0, c1, c2⟩ := box3 hE)
      go_wp2_with fail
      go_ret
      exact ⟨ret_int (by rw [H.out]; simp [*]), (by repeat (with_reducible first | assumption | exact Ext.refl _ | refine Ext.drew ?_ | refine Ext.drewN ?_ _ | refine Ext.alloc ?_ _ | (refine Ext.setCell ?_ ?sz _; case sz => (first | (simp; done) | (simp; omega))) | refine Ext.trans ?_ (by assumption)))⟩
  · have g0 : (chkD d != 0) = true := by simp [g]
    have H := hid (show dtd d t = chkD d by unfold dtd; rw [if_pos g])
    clear g
    go_enter Try.func87, Try.ntmps87
    go_wp2_with fail
    (refine (checkDentedR_any d q a cap _ (by first | assumption | exact Prs.ext hP (by repeat (with_reducible first | assumption | exact Ext.refl _ | refine Ext.drew ?_ | refine Ext.drewN ?_ _ | refine Ext.alloc ?_ _ | (refine Ext.setCell ?_ ?sz _; case sz => (first | (simp; done) | (simp; omega))) | refine Ext.trans ?_ (by assumption)))) hl).mono ?_; rintro e w1 ⟨rfl, hE⟩; obtain ⟨c0, c1, c2⟩ := box3 hE)
    go_wp2_with fail
    (refine (checkDentedR_any d q a cap _ (by first | assumption | exact Prs.ext hP (by repeat (with_reducible first | assumption | exact Ext.refl _ | refine Ext.drew ?_ | refine Ext.drewN ?_ _ | refine Ext.alloc ?_ _ | (refine Ext.setCell ?_ ?sz _; case sz => (first | (simp; done) | (simp; omega))) | refine Ext.trans ?_ (by assumption)))) hl).mono ?_; rintro e w2 ⟨rfl, hE2⟩)
    go_wp2_with fail
    go_ret
    exact ⟨ret_int H.out.symm, (by repeat (with_reducible first | assumption | exact Ext.refl _ | refine Ext.drew ?_ | refine Ext.drewN ?_ _ | refine Ext.alloc ?_ _ | (refine Ext.setCell ?_ ?sz _; case sz => (first | (simp; done) | (simp; omega))) | refine Ext.trans ?_ (by assumption)))⟩

set_option maxHeartbeats 400000 in
theorem askingR_any (d : Dent) (q : FitD d) (a : Option Addr) (cap : Nat) (t x y : Int) (w : World) (hP : Prs w a d.rs) (hl : d.rs.length ≤ 1000) :
    Calls Try.prog 91 #[(.agg #[.int .i64 d.L, .int .i64 d.R, .slice a d.rs.length cap]), .int .i64 t, .agg #[.int .i64 x, .int .i64 y]] w fun e w' => e = .returned (.int .i64 (ask d t x y)) ∧ Ext w w' := by
  by_cases g : dtd d t = 0
  · have g0 : (dtd d t != 0) = false := by simp [g]
    have H := hid (show ask d t x y = if y < x then 3 else 0 by unfold ask; rw [if_neg (by simp [g])])
    clear g
    by_cases h1 : y < x
    all_goals
      go_enter Try.func91, Try.ntmps91
      go_wp2_with fail
      refine (dentedR_any d q a cap t _ (by first | assumption | exact Prs.ext hP (by repeat (with_reducible first | assumption | exact Ext.refl _ | refine Ext.drew ?_ | refine Ext.drewN ?_ _ | refine Ext.alloc ?_ _ | (refine Ext.setCell ?_ ?sz _; case sz => (first | (simp; done) | (simp; omega))) | refine Ext.trans ?_ (by assumption)))) hl).mono ?_; rintro e w1 ⟨rfl, hE⟩
      have c3 := hE.cell (p := ⟨w.heap.size + 1, 0, none⟩) (v := .int .i64 x) (by simp [go_sem])
      have c4 := hE.cell (p := ⟨w.heap.size + 1, 1, none⟩) (v := .int .i64 y) (by simp [go_sem])
      go_wp2_with fail
      go_ret
      exact ⟨ret_int (by rw [H.out]; simp [*]), (by repeat (with_reducible first | assumption | exact Ext.refl _ | refine Ext.drew ?_ | refine Ext.drewN ?_ _ | refine Ext.alloc ?_ _ | (refine Ext.setCell ?_ ?sz _; case sz => (first | (simp; done) | (simp; omega))) | refine Ext.trans ?_ (by assumption)))⟩
  · have g0 : (dtd d t != 0) = true := by simp [g]
    have H := hid (show ask d t x y = dtd d t by unfold ask; rw [if_pos g])
    clear g
    go_enter Try.func91, Try.ntmps91
    go_wp2_with fail
    refine (dentedR_any d q a cap t _ (by first | assumption | exact Prs.ext hP (by repeat (with_reducible first | assumption | exact Ext.refl _ | refine Ext.drew ?_ | refine Ext.drewN ?_ _ | refine Ext.alloc ?_ _ | (refine Ext.setCell ?_ ?sz _; case sz => (first | (simp; done) | (simp; omega))) | refine Ext.trans ?_ (by assumption)))) hl).mono ?_; rintro e w1 ⟨rfl, hE⟩
    have c0 := hE.cell (p := ⟨w.heap.size, 0, none⟩) (v := .int .i64 d.L) (by simp [go_sem])
    have c1 := hE.cell (p := ⟨w.heap.size, 1, none⟩) (v := .int .i64 d.R) (by simp [go_sem])
    have c2 := hE.cell (p := ⟨w.heap.size, 2, none⟩) (v := .slice a d.rs.length cap) (by simp [go_sem])
    go_wp2_with fail
    refine (dentedR_any d q a cap t _ (by first | assumption | exact Prs.ext hP (by repeat (with_reducible first | assumption | exact Ext.refl _ | refine Ext.drew ?_ | refine Ext.drewN ?_ _ | refine Ext.alloc ?_ _ | (refine Ext.setCell ?_ ?sz _; case sz => (first | (simp; done) | (simp; omega))) | refine Ext.trans ?_ (by assumption)))) hl).mono ?_; rintro e w2 ⟨rfl, hE2⟩
    go_wp2_with fail
    go_ret
    exact ⟨ret_int H.out.symm, (by repeat (with_reducible first | assumption | exact Ext.refl _ | refine Ext.drew ?_ | refine Ext.drewN ?_ _ | refine Ext.alloc ?_ _ | (refine Ext.setCell ?_ ?sz _; case sz => (first | (simp; done) | (simp; omega))) | refine Ext.trans ?_ (by assumption)))⟩

end Go.Proofs.Ytogglbhidlnijaa
