/- The laws PintMeasures and PintProofs, walked. -/
import Derived.Test.YtogglbhidlnijaaWorksB
namespace Go.Proofs.Ytogglbhidlnijaa
set_option linter.unusedVariables false
set_option linter.unusedSimpArgs false
set_option linter.unusedSectionVars false
set_option linter.unnecessarySimpa false
open Go Go.RowKit
set_option maxRecDepth 100000

structure MS (B : Nat) (m : Meas) (a : Option Addr) (cap : Nat) (w : World) : Prop where
  m0 : w.cell? ⟨B, 0, none⟩ = some (.int .i64 m.L)
  m1 : w.cell? ⟨B, 1, none⟩ = some (.int .i64 m.R)
  m2 : w.cell? ⟨B, 2, none⟩ = some (.slice a m.hs.length cap)
  i : Ints w a m.hs
theorem MS.ext {B : Nat} {m : Meas} {a : Option Addr} {cap : Nat} {w w' : World} (h : MS B m a cap w) (k : Ext w w') : MS B m a cap w' :=
  ⟨k.cell h.m0, k.cell h.m1, k.cell h.m2, h.i.ext k⟩


set_option maxHeartbeats 8000000 in
theorem pintMeasures_any (m : Meas) (q : Fit m) (a : Option Addr) (cap : Nat) (t i : Int) (w : World) (hI : Ints w a m.hs) (hl : m.hs.length ≤ 9223372036854775807) (ht : I64 t) (hi : I64 i) :
    Calls Try.prog 3 #[(.agg #[.int .i64 m.L, .int .i64 m.R, .slice a m.hs.length cap]), .int .i64 t, .int .i64 i] w fun e w' => e = .returned (.bool true) ∧ Ext w w' := by
  have hB := (Ext.refl w).alloc (.cells #[.int .i64 m.L, .int .i64 m.R, .slice a m.hs.length cap] 24)
  by_cases g : 14 < m.hs.length
  · have hd : decide (14 < m.hs.length) = true := by simpa using g
    go_enter Try.func3, Try.ntmps3
    go_wp2_with fail
    refine (great_any m a cap _ hl).mono ?_; rintro e w1 ⟨rfl, hE⟩
    rw [hd]
    go_wp2_with fail
    refine (works_any _).mono ?_; rintro e w2 ⟨rfl, hE2⟩
    go_wp2_with fail
    go_ret
    exact ⟨rfl, (by repeat (with_reducible first | assumption | exact Ext.refl _ | refine Ext.drew ?_ | refine Ext.drewN ?_ _ | refine Ext.alloc ?_ _ | (refine Ext.setCell ?_ ?sz _; case sz => (first | (simp; done) | (simp; omega))) | refine Ext.trans ?_ (by assumption)))⟩
  · have hd : decide (14 < m.hs.length) = false := by simpa using g
    have hl' : m.hs.length ≤ 1000 := by omega
    go_enter Try.func3, Try.ntmps3
    go_wp2_with fail
    refine (great_any m a cap _ hl).mono ?_; rintro e w1 ⟨rfl, hE⟩
    rw [hd]
    have X : Hid (Ext w w1) := hid (by repeat (with_reducible first | assumption | exact Ext.refl _ | refine Ext.drew ?_ | refine Ext.drewN ?_ _ | refine Ext.alloc ?_ _ | (refine Ext.setCell ?_ ?sz _; case sz => (first | (simp; done) | (simp; omega))) | refine Ext.trans ?_ (by assumption)))
    have S : MS w.heap.size m a cap w1 := ⟨hE.cell (by simp [go_sem]), hE.cell (by simp [go_sem]), hE.cell (by simp [go_sem]), hI.ext (by repeat (with_reducible first | assumption | exact Ext.refl _ | refine Ext.drew ?_ | refine Ext.drewN ?_ _ | refine Ext.alloc ?_ _ | (refine Ext.setCell ?_ ?sz _; case sz => (first | (simp; done) | (simp; omega))) | refine Ext.trans ?_ (by assumption)))⟩
    generalize w.heap.size = B at *
    replace S := hid S
    clear hE hB hI hd
    have m0 := S.out.m0; have m1 := S.out.m1; have m2 := S.out.m2
    go_wp2_with fail
    refine (depths_any m q a cap t _ S.out.i hl' ht).mono ?_; rintro e w2 ⟨a2, c2, rfl, hK1, hE⟩
    (have x : Ext w1 w2 := (by repeat (with_reducible first | assumption | exact Ext.refl _ | refine Ext.drew ?_ | refine Ext.drewN ?_ _ | refine Ext.alloc ?_ _ | (refine Ext.setCell ?_ ?sz _; case sz => (first | (simp; done) | (simp; omega))) | refine Ext.trans ?_ (by assumption))); replace S := hid (S.out.ext x); replace X := hid (X.out.trans x); clear x hE m0 m1 m2; have m0 := S.out.m0; have m1 := S.out.m1; have m2 := S.out.m2; go_wp2_with fail)
    refine (depthsR_any m q a cap t _ S.out.i hl').mono ?_; rintro e w3 ⟨a3, c3, rfl, hK2, hE⟩
    replace hK1 := hid (hK1.ext hE)
    replace hK2 := hid hK2
    (have x : Ext w2 w3 := (by repeat (with_reducible first | assumption | exact Ext.refl _ | refine Ext.drew ?_ | refine Ext.drewN ?_ _ | refine Ext.alloc ?_ _ | (refine Ext.setCell ?_ ?sz _; case sz => (first | (simp; done) | (simp; omega))) | refine Ext.trans ?_ (by assumption))); replace S := hid (S.out.ext x); replace X := hid (X.out.trans x); clear x hE m0 m1 m2; have m0 := S.out.m0; have m1 := S.out.m1; have m2 := S.out.m2; go_wp2_with fail)
    refine (holds_any m q a cap t _ S.out.i hl' ht).mono ?_; rintro e w4 ⟨rfl, hE⟩
    replace hK1 := hid (hK1.out.ext hE); replace hK2 := hid (hK2.out.ext hE)
    (have x : Ext w3 w4 := (by repeat (with_reducible first | assumption | exact Ext.refl _ | refine Ext.drew ?_ | refine Ext.drewN ?_ _ | refine Ext.alloc ?_ _ | (refine Ext.setCell ?_ ?sz _; case sz => (first | (simp; done) | (simp; omega))) | refine Ext.trans ?_ (by assumption))); replace S := hid (S.out.ext x); replace X := hid (X.out.trans x); clear x hE m0 m1 m2; have m0 := S.out.m0; have m1 := S.out.m1; have m2 := S.out.m2; go_wp2_with fail)
    refine (holdsR_any m q a cap t _ S.out.i hl').mono ?_; rintro e w5 ⟨rfl, hE⟩
    replace hK1 := hid (hK1.out.ext hE); replace hK2 := hid (hK2.out.ext hE)
    (have x : Ext w4 w5 := (by repeat (with_reducible first | assumption | exact Ext.refl _ | refine Ext.drew ?_ | refine Ext.drewN ?_ _ | refine Ext.alloc ?_ _ | (refine Ext.setCell ?_ ?sz _; case sz => (first | (simp; done) | (simp; omega))) | refine Ext.trans ?_ (by assumption))); replace S := hid (S.out.ext x); replace X := hid (X.out.trans x); clear x hE m0 m1 m2; have m0 := S.out.m0; have m1 := S.out.m1; have m2 := S.out.m2; go_wp2_with fail)
    refine (over_any m q a cap t i _ S.out.i hl' ht hi).mono ?_; rintro e w6 ⟨rfl, hE⟩
    replace hK1 := hid (hK1.out.ext hE); replace hK2 := hid (hK2.out.ext hE)
    (have x : Ext w5 w6 := (by repeat (with_reducible first | assumption | exact Ext.refl _ | refine Ext.drew ?_ | refine Ext.drewN ?_ _ | refine Ext.alloc ?_ _ | (refine Ext.setCell ?_ ?sz _; case sz => (first | (simp; done) | (simp; omega))) | refine Ext.trans ?_ (by assumption))); replace S := hid (S.out.ext x); replace X := hid (X.out.trans x); clear x hE m0 m1 m2; have m0 := S.out.m0; have m1 := S.out.m1; have m2 := S.out.m2; go_wp2_with fail)
    refine (overR_any m q a cap t i _ S.out.i hl').mono ?_; rintro e w7 ⟨rfl, hE⟩
    replace hK1 := hid (hK1.out.ext hE); replace hK2 := hid (hK2.out.ext hE)
    (have x : Ext w6 w7 := (by repeat (with_reducible first | assumption | exact Ext.refl _ | refine Ext.drew ?_ | refine Ext.drewN ?_ _ | refine Ext.alloc ?_ _ | (refine Ext.setCell ?_ ?sz _; case sz => (first | (simp; done) | (simp; omega))) | refine Ext.trans ?_ (by assumption))); replace S := hid (S.out.ext x); replace X := hid (X.out.trans x); clear x hE m0 m1 m2; have m0 := S.out.m0; have m1 := S.out.m1; have m2 := S.out.m2; go_wp2_with fail)
    refine (pools_any m q a cap t _ S.out.i hl' ht).mono ?_; rintro e w8 ⟨a8, c8, rfl, hK3, hE⟩
    replace hK1 := hid (hK1.out.ext hE); replace hK2 := hid (hK2.out.ext hE)
    replace hK3 := hid hK3
    (have x : Ext w7 w8 := (by repeat (with_reducible first | assumption | exact Ext.refl _ | refine Ext.drew ?_ | refine Ext.drewN ?_ _ | refine Ext.alloc ?_ _ | (refine Ext.setCell ?_ ?sz _; case sz => (first | (simp; done) | (simp; omega))) | refine Ext.trans ?_ (by assumption))); replace S := hid (S.out.ext x); replace X := hid (X.out.trans x); clear x hE m0 m1 m2; have m0 := S.out.m0; have m1 := S.out.m1; have m2 := S.out.m2; go_wp2_with fail)
    refine (poolsR_any m q a cap t _ S.out.i hl').mono ?_; rintro e w9 ⟨a9, c9, rfl, hK4, hE⟩
    replace hK1 := hid (hK1.out.ext hE); replace hK2 := hid (hK2.out.ext hE); replace hK3 := hid (hK3.out.ext hE)
    replace hK4 := hid hK4
    (have x : Ext w8 w9 := (by repeat (with_reducible first | assumption | exact Ext.refl _ | refine Ext.drew ?_ | refine Ext.drewN ?_ _ | refine Ext.alloc ?_ _ | (refine Ext.setCell ?_ ?sz _; case sz => (first | (simp; done) | (simp; omega))) | refine Ext.trans ?_ (by assumption))); replace S := hid (S.out.ext x); replace X := hid (X.out.trans x); clear x hE m0 m1 m2; have m0 := S.out.m0; have m1 := S.out.m1; have m2 := S.out.m2; go_wp2_with fail)
    have hdl : (depthsOf m t).length ≤ 1099511627776 := by unfold depthsOf; split; · rw [depths_len]; omega
                                                           simp
    have hpl : (poolsOf m t).length ≤ 1099511627776 := by
      unfold poolsOf; split
      · have := (pls_bd m t m.hs.length).1; omega
      · simp
    have hb1 : (chk m == chk m) = true := by simp
    have hb2 : (tlt m t == tlt m t) = true := by simp
    have hb3 : (holdsOf m t == holdsOf m t) = true := by simp
    have hb4 : (overOf m t i == overOf m t i) = true := by simp
    have hb5 : (overE m t i == overE m t i) = true := by simp
    try simp only [List.append_eq, List.cons_append, List.nil_append]
    go_region_held3 (fun w' => w'.cell? ⟨B, 0, none⟩ = some (.int .i64 m.L) ∧ w'.cell? ⟨B, 1, none⟩ = some (.int .i64 m.R) ∧ w'.cell? ⟨B, 2, none⟩ = some (.slice a m.hs.length cap) ∧ Ext w9 w') (((try go_split_ands); (repeat' apply And.intro) <;> (first | (with_reducible assumption) | exact Ext.cell (w := w9) (by repeat (with_reducible first | assumption | exact Ext.refl _ | refine Ext.drew ?_ | refine Ext.drewN ?_ _ | refine Ext.alloc ?_ _ | (refine Ext.setCell ?_ ?sz _; case sz => (first | (simp; done) | (simp; omega))) | refine Ext.trans ?_ (by assumption))) (by assumption) | exact (by repeat (with_reducible first | assumption | exact Ext.refl _ | refine Ext.drew ?_ | refine Ext.drewN ?_ _ | refine Ext.alloc ?_ _ | (refine Ext.setCell ?_ ?sz _; case sz => (first | (simp; done) | (simp; omega))) | refine Ext.trans ?_ (by assumption)))))) (first | (go_at_call 27; refine (checkMeasure_any m q a cap _ (S.out.i.ext (by repeat (with_reducible first | assumption | exact Ext.refl _ | refine Ext.drew ?_ | refine Ext.drewN ?_ _ | refine Ext.alloc ?_ _ | (refine Ext.setCell ?_ ?sz _; case sz => (first | (simp; done) | (simp; omega))) | refine Ext.trans ?_ (by assumption)))) hl').mono ?_; rintro e wc ⟨rfl, hEc⟩) | (go_at_call 28; refine (checkMeasureR_any m q a cap _ (S.out.i.ext (by repeat (with_reducible first | assumption | exact Ext.refl _ | refine Ext.drew ?_ | refine Ext.drewN ?_ _ | refine Ext.alloc ?_ _ | (refine Ext.setCell ?_ ?sz _; case sz => (first | (simp; done) | (simp; omega))) | refine Ext.trans ?_ (by assumption)))) hl').mono ?_; rintro e wd ⟨rfl, hEd⟩) | (go_at_call 29; refine (longsEq_any a2 a3 c2 c3 (depthsOf m t) _ (hK1.out.ext (by repeat (with_reducible first | assumption | exact Ext.refl _ | refine Ext.drew ?_ | refine Ext.drewN ?_ _ | refine Ext.alloc ?_ _ | (refine Ext.setCell ?_ ?sz _; case sz => (first | (simp; done) | (simp; omega))) | refine Ext.trans ?_ (by assumption)))) (hK2.out.ext (by repeat (with_reducible first | assumption | exact Ext.refl _ | refine Ext.drew ?_ | refine Ext.drewN ?_ _ | refine Ext.alloc ?_ _ | (refine Ext.setCell ?_ ?sz _; case sz => (first | (simp; done) | (simp; omega))) | refine Ext.trans ?_ (by assumption)))) hdl).mono ?_; rintro e we ⟨rfl, hEe⟩) | (go_at_call 30; refine (pairsEq_any a8 a9 c8 c9 (poolsOf m t) _ (hK3.out.ext (by repeat (with_reducible first | assumption | exact Ext.refl _ | refine Ext.drew ?_ | refine Ext.drewN ?_ _ | refine Ext.alloc ?_ _ | (refine Ext.setCell ?_ ?sz _; case sz => (first | (simp; done) | (simp; omega))) | refine Ext.trans ?_ (by assumption)))) (hK4.out.ext (by repeat (with_reducible first | assumption | exact Ext.refl _ | refine Ext.drew ?_ | refine Ext.drewN ?_ _ | refine Ext.alloc ?_ _ | (refine Ext.setCell ?_ ?sz _; case sz => (first | (simp; done) | (simp; omega))) | refine Ext.trans ?_ (by assumption)))) hpl).mono ?_; rintro e wf ⟨rfl, hEf⟩) | (go_at_call 18; refine (works_any _).mono ?_; rintro e wg ⟨rfl, hEg⟩))
    all_goals
      go_wp2_with fail
      go_ret
      exact ⟨ret_bool (by simp), X.out.trans (by repeat (with_reducible first | assumption | exact Ext.refl _ | refine Ext.drew ?_ | refine Ext.drewN ?_ _ | refine Ext.alloc ?_ _ | (refine Ext.setCell ?_ ?sz _; case sz => (first | (simp; done) | (simp; omega))) | refine Ext.trans ?_ (by assumption)))⟩

end Go.Proofs.Ytogglbhidlnijaa
