/- The law PintProofs, walked. -/
import Derived.Test.YtogglbhidlnijaaLawM
namespace Go.Proofs.Ytogglbhidlnijaa
set_option linter.unusedVariables false
set_option linter.unusedSimpArgs false
set_option linter.unusedSectionVars false
set_option linter.unnecessarySimpa false
open Go Go.RowKit
set_option maxRecDepth 100000


set_option maxHeartbeats 8000000 in
theorem pintProofs_any (m : Meas) (q : Fit m) (a : Option Addr) (cap : Nat) (t i l r s : Int) (w : World) (hI : Ints w a m.hs) (hl : m.hs.length ≤ 9223372036854775807) (ht : I64 t) (hi : I64 i) (hL : I64 l) (hr : I64 r) (hs : I64 s) :
    Calls Try.prog 4 #[(.agg #[.int .i64 m.L, .int .i64 m.R, .slice a m.hs.length cap]), .int .i64 t, .int .i64 i, .int .i64 l, .int .i64 r, .int .i64 s] w fun e w' => e = .returned (.bool true) ∧ Ext w w' := by
  have hB := (Ext.refl w).alloc (.cells #[.int .i64 m.L, .int .i64 m.R, .slice a m.hs.length cap] 24)
  by_cases g : 14 < m.hs.length
  · have hd : decide (14 < m.hs.length) = true := by simpa using g
    go_enter Try.func4, Try.ntmps4
    go_wp2_with fail
    refine (great_any m a cap _ hl).mono ?_; rintro e w1 ⟨rfl, hE⟩
    rw [hd]
    go_wp2_with fail
    refine (works_any _).mono ?_; rintro e w2 ⟨rfl, hE2⟩
    go_wp2_with fail
    go_ret
    exact ⟨rfl, (by repeat (with_reducible first | assumption | exact Ext.refl _ | refine Ext.drew ?_ | refine Ext.drewN ?_ _ | refine Ext.alloc ?_ _ | (refine Ext.setCell ?_ ?sz _; case sz => (first | (simp; done) | (simp; omega))) | refine Ext.trans ?_ (by assumption)))⟩
  · have hd : decide (14 < m.hs.length) = false := by simpa using g
    have hl' : m.hs.length ≤ 1000 := by omega
    go_enter Try.func4, Try.ntmps4
    go_wp2_with fail
    refine (great_any m a cap _ hl).mono ?_; rintro e w1 ⟨rfl, hE⟩
    rw [hd]
    have X : Hid (Ext w w1) := hid (by repeat (with_reducible first | assumption | exact Ext.refl _ | refine Ext.drew ?_ | refine Ext.drewN ?_ _ | refine Ext.alloc ?_ _ | (refine Ext.setCell ?_ ?sz _; case sz => (first | (simp; done) | (simp; omega))) | refine Ext.trans ?_ (by assumption)))
    have S : MS w.heap.size m a cap w1 := ⟨hE.cell (by simp [go_sem]), hE.cell (by simp [go_sem]), hE.cell (by simp [go_sem]), hI.ext (by repeat (with_reducible first | assumption | exact Ext.refl _ | refine Ext.drew ?_ | refine Ext.drewN ?_ _ | refine Ext.alloc ?_ _ | (refine Ext.setCell ?_ ?sz _; case sz => (first | (simp; done) | (simp; omega))) | refine Ext.trans ?_ (by assumption)))⟩
    generalize w.heap.size = B at *
    replace S := hid S
    clear hE hB hI hd
    have m0 := S.out.m0; have m1 := S.out.m1; have m2 := S.out.m2
    go_wp2_with fail
    refine (checkWalls_any m q a cap t i l r _ S.out.i hl' ht hi hL hr).mono ?_; rintro e w2 ⟨rfl, hE⟩
    (have x : Ext w1 w2 := (by repeat (with_reducible first | assumption | exact Ext.refl _ | refine Ext.drew ?_ | refine Ext.drewN ?_ _ | refine Ext.alloc ?_ _ | (refine Ext.setCell ?_ ?sz _; case sz => (first | (simp; done) | (simp; omega))) | refine Ext.trans ?_ (by assumption))); replace S := hid (S.out.ext x); replace X := hid (X.out.trans x); clear x hE m0 m1 m2; have m0 := S.out.m0; have m1 := S.out.m1; have m2 := S.out.m2; go_wp2_with fail)
    refine (checkWallsR_any m q a cap t i l r _ S.out.i hl').mono ?_; rintro e w3 ⟨rfl, hE⟩
    (have x : Ext w2 w3 := (by repeat (with_reducible first | assumption | exact Ext.refl _ | refine Ext.drew ?_ | refine Ext.drewN ?_ _ | refine Ext.alloc ?_ _ | (refine Ext.setCell ?_ ?sz _; case sz => (first | (simp; done) | (simp; omega))) | refine Ext.trans ?_ (by assumption))); replace S := hid (S.out.ext x); replace X := hid (X.out.trans x); clear x hE m0 m1 m2; have m0 := S.out.m0; have m1 := S.out.m1; have m2 := S.out.m2; go_wp2_with fail)
    refine (walls_any m q a cap t i _ S.out.i hl' ht hi).mono ?_; rintro e w4 ⟨rfl, hE⟩
    (have x : Ext w3 w4 := (by repeat (with_reducible first | assumption | exact Ext.refl _ | refine Ext.drew ?_ | refine Ext.drewN ?_ _ | refine Ext.alloc ?_ _ | (refine Ext.setCell ?_ ?sz _; case sz => (first | (simp; done) | (simp; omega))) | refine Ext.trans ?_ (by assumption))); replace S := hid (S.out.ext x); replace X := hid (X.out.trans x); clear x hE m0 m1 m2; have m0 := S.out.m0; have m1 := S.out.m1; have m2 := S.out.m2; go_wp2_with fail)
    refine (wallsR_any m q a cap t i _ S.out.i hl').mono ?_; rintro e w5 ⟨rfl, hE⟩
    (have x : Ext w4 w5 := (by repeat (with_reducible first | assumption | exact Ext.refl _ | refine Ext.drew ?_ | refine Ext.drewN ?_ _ | refine Ext.alloc ?_ _ | (refine Ext.setCell ?_ ?sz _; case sz => (first | (simp; done) | (simp; omega))) | refine Ext.trans ?_ (by assumption))); replace S := hid (S.out.ext x); replace X := hid (X.out.trans x); clear x hE m0 m1 m2; have m0 := S.out.m0; have m1 := S.out.m1; have m2 := S.out.m2; go_wp2_with fail)
    refine (checkOut_any m q a cap t i s _ S.out.i hl' ht hi).mono ?_; rintro e w6 ⟨rfl, hE⟩
    (have x : Ext w5 w6 := (by repeat (with_reducible first | assumption | exact Ext.refl _ | refine Ext.drew ?_ | refine Ext.drewN ?_ _ | refine Ext.alloc ?_ _ | (refine Ext.setCell ?_ ?sz _; case sz => (first | (simp; done) | (simp; omega))) | refine Ext.trans ?_ (by assumption))); replace S := hid (S.out.ext x); replace X := hid (X.out.trans x); clear x hE m0 m1 m2; have m0 := S.out.m0; have m1 := S.out.m1; have m2 := S.out.m2; go_wp2_with fail)
    refine (checkOutR_any m q a cap t i s _ S.out.i hl').mono ?_; rintro e w7 ⟨rfl, hE⟩
    (have x : Ext w6 w7 := (by repeat (with_reducible first | assumption | exact Ext.refl _ | refine Ext.drew ?_ | refine Ext.drewN ?_ _ | refine Ext.alloc ?_ _ | (refine Ext.setCell ?_ ?sz _; case sz => (first | (simp; done) | (simp; omega))) | refine Ext.trans ?_ (by assumption))); replace S := hid (S.out.ext x); replace X := hid (X.out.trans x); clear x hE m0 m1 m2; have m0 := S.out.m0; have m1 := S.out.m1; have m2 := S.out.m2; go_wp2_with fail)
    refine (best_any m q a cap t _ S.out.i hl' ht).mono ?_; rintro e w8 ⟨rfl, hE⟩
    (have x : Ext w7 w8 := (by repeat (with_reducible first | assumption | exact Ext.refl _ | refine Ext.drew ?_ | refine Ext.drewN ?_ _ | refine Ext.alloc ?_ _ | (refine Ext.setCell ?_ ?sz _; case sz => (first | (simp; done) | (simp; omega))) | refine Ext.trans ?_ (by assumption))); replace S := hid (S.out.ext x); replace X := hid (X.out.trans x); clear x hE m0 m1 m2; have m0 := S.out.m0; have m1 := S.out.m1; have m2 := S.out.m2; go_wp2_with fail)
    refine (bestR_any m q a cap t _ S.out.i hl').mono ?_; rintro e w9 ⟨rfl, hE⟩
    (have x : Ext w8 w9 := (by repeat (with_reducible first | assumption | exact Ext.refl _ | refine Ext.drew ?_ | refine Ext.drewN ?_ _ | refine Ext.alloc ?_ _ | (refine Ext.setCell ?_ ?sz _; case sz => (first | (simp; done) | (simp; omega))) | refine Ext.trans ?_ (by assumption))); replace S := hid (S.out.ext x); replace X := hid (X.out.trans x); clear x hE m0 m1 m2; have m0 := S.out.m0; have m1 := S.out.m1; have m2 := S.out.m2; go_wp2_with fail)
    try simp only [beq_self_eq_true]
    refine (works_any _).mono ?_; rintro e w10 ⟨rfl, hE⟩
    all_goals
      go_wp2_with fail
      go_ret
      exact ⟨ret_bool (by simp), X.out.trans (by repeat (with_reducible first | assumption | exact Ext.refl _ | refine Ext.drew ?_ | refine Ext.drewN ?_ _ | refine Ext.alloc ?_ _ | (refine Ext.setCell ?_ ?sz _; case sz => (first | (simp; done) | (simp; omega))) | refine Ext.trans ?_ (by assumption)))⟩

end Go.Proofs.Ytogglbhidlnijaa
