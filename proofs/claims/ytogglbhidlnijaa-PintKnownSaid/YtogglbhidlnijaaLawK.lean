/- The law PintKnown, walked. -/
import Derived.Test.YtogglbhidlnijaaLawM
namespace Go.Proofs.Ytogglbhidlnijaa
set_option linter.unusedVariables false
set_option linter.unusedSimpArgs false
set_option linter.unusedSectionVars false
set_option linter.unnecessarySimpa false
open Go Go.RowKit
set_option maxRecDepth 100000

theorem K1 (a : Option Addr) (cap : Nat) (w : World) (hI : Ints w a mM.hs) : Calls Try.prog 19 #[(.agg #[.int .i64 5, .int .i64 4, .slice a 3 cap]), .int .i64 (-1)] w (RetIntsP [2, 0, 3] 0 w) := by
  have h := depths_any mM fitM a cap (-1) w hI (by decide) ⟨by decide, by decide⟩
  rw [show depthsOf mM (-1) = [2, 0, 3] from by decide, show tlt mM (-1) = 0 from by decide] at h
  exact h
theorem K2 (a : Option Addr) (cap : Nat) (w : World) (hI : Ints w a mM.hs) : Calls Try.prog 21 #[(.agg #[.int .i64 5, .int .i64 4, .slice a 3 cap]), .int .i64 0] w fun e w' => e = .returned (.tuple #[.int .i64 9, .int .i64 0]) ∧ Ext w w' := by
  have h := holds_any mM fitM a cap 0 w hI (by decide) ⟨by decide, by decide⟩
  rw [show holdsOf mM 0 = 9 from by decide, show tlt mM 0 = 0 from by decide] at h
  exact h
theorem K3 (a : Option Addr) (cap : Nat) (w : World) (hI : Ints w a mM.hs) : Calls Try.prog 21 #[(.agg #[.int .i64 5, .int .i64 4, .slice a 3 cap]), .int .i64 1] w fun e w' => e = .returned (.tuple #[.int .i64 6, .int .i64 0]) ∧ Ext w w' := by
  have h := holds_any mM fitM a cap 1 w hI (by decide) ⟨by decide, by decide⟩
  rw [show holdsOf mM 1 = 6 from by decide, show tlt mM 1 = 0 from by decide] at h
  exact h
theorem K4 (a : Option Addr) (cap : Nat) (w : World) (hI : Ints w a mM.hs) : Calls Try.prog 25 #[(.agg #[.int .i64 5, .int .i64 4, .slice a 3 cap]), .int .i64 (-1)] w (RetPrsP [(0, 0), (2, 2)] 0 w) := by
  have h := pools_any mM fitM a cap (-1) w hI (by decide) ⟨by decide, by decide⟩
  rw [show poolsOf mM (-1) = [(0, 0), (2, 2)] from by decide, show tlt mM (-1) = 0 from by decide] at h
  exact h
theorem K5 (a : Option Addr) (cap : Nat) (w : World) (hI : Ints w a mM.hs) : Calls Try.prog 33 #[(.agg #[.int .i64 5, .int .i64 4, .slice a 3 cap]), .int .i64 0, .int .i64 1] w fun e w' => e = .returned (.tuple #[.int .i64 (-1), .int .i64 3, .int .i64 0]) ∧ Ext w w' := by
  have h := walls_any mM fitM a cap 0 1 w hI (by decide) ⟨by decide, by decide⟩ ⟨by decide, by decide⟩
  rw [show wallLOf mM 0 1 = -1 from by decide, show wallROf mM 0 1 = 3 from by decide, show plc mM 0 1 = 0 from by decide] at h
  exact h
theorem K6 (a : Option Addr) (cap : Nat) (w : World) (hI : Ints w a mM.hs) : Calls Try.prog 35 #[(.agg #[.int .i64 5, .int .i64 4, .slice a 3 cap]), .int .i64 0, .int .i64 1, .int .i64 1] w fun e w' => e = .returned (.tuple #[.int .i64 2, .int .i64 0]) ∧ Ext w w' := by
  have h := checkOut_any mM fitM a cap 0 1 1 w hI (by decide) ⟨by decide, by decide⟩ ⟨by decide, by decide⟩
  rw [show outOf mM 0 1 1 = 2 from by decide, show outE mM 0 1 1 = 0 from by decide] at h
  exact h
theorem K7 (a : Option Addr) (cap : Nat) (w : World) (hP : Prs w a dD.rs) : Calls Try.prog 42 #[(.agg #[.int .i64 5, .int .i64 4, .slice a 3 cap]), .int .i64 0, .agg #[.int .i64 11, .int .i64 12]] w fun e w' => e = .returned (.tuple #[.int .i64 0, .int .i64 0]) ∧ Ext w w' := by
  have h := seal_any dD fitDD a cap 0 11 12 w hP (by decide) ⟨by decide, by decide⟩ ⟨by decide, by decide⟩ ⟨by decide, by decide⟩
  rw [show sealOf dD 0 11 12 = 0 from by decide, show ask dD 0 11 12 = 0 from by decide] at h
  exact h
theorem K8 (a : Option Addr) (cap : Nat) (w : World) (hI : Ints w a mM.hs) : Calls Try.prog 27 #[(.agg #[.int .i64 5, .int .i64 4, .slice a 3 cap])] w fun e w' => e = .returned (.int .i64 0) ∧ Ext w w' := by
  have h := checkMeasure_any mM fitM a cap w hI (by decide)
  rw [show chk mM = 0 from by decide] at h
  exact h
theorem K9 (a : Option Addr) (cap : Nat) (w : World) (hP : Prs w a dD.rs) : Calls Try.prog 44 #[(.agg #[.int .i64 5, .int .i64 4, .slice a 3 cap])] w fun e w' => e = .returned (.int .i64 0) ∧ Ext w w' := by
  have h := checkDented_any dD fitDD a cap w hP (by decide)
  rw [show chkD dD = 0 from by decide] at h
  exact h


set_option maxHeartbeats 20000000 in
theorem pintKnown_any (w : World) : Calls Try.prog 16 #[] w fun e w' => e = .returned (.bool true) ∧ Ext w w' := by
  go_enter Try.func16, Try.ntmps16
  go_wp2_with fail
  refine (measureX_any _).mono ?_; rintro e wa ⟨a, cap, rfl, hI, hE⟩
  have X : Ext w wa := (by repeat (with_reducible first | assumption | exact Ext.refl _ | refine Ext.drew ?_ | refine Ext.drewN ?_ _ | refine Ext.alloc ?_ _ | (refine Ext.setCell ?_ ?sz _; case sz => (first | (simp; done) | (simp; omega))) | refine Ext.trans ?_ (by assumption)))
  replace hI := hid hI
  clear hE
  go_wp2_with fail
  refine (dentedX_any _).mono ?_; rintro e w0 ⟨b, cb, rfl, hP, hE⟩
  replace X := hid (X.trans hE)
  replace hI := hid (hI.out.ext hE)
  replace hP := hid hP
  clear hE
  go_wp2_with fail
  refine (K1 a cap _ (hI.out.ext (by repeat (with_reducible first | assumption | exact Ext.refl _ | refine Ext.drew ?_ | refine Ext.drewN ?_ _ | refine Ext.alloc ?_ _ | (refine Ext.setCell ?_ ?sz _; case sz => (first | (simp; done) | (simp; omega))) | refine Ext.trans ?_ (by assumption))))).mono ?_; rintro e w1 ⟨a1, c1, rfl, hK1, hE⟩
  have S : WS w0.heap.size a b cap cb w1 := ⟨hE.cell (by simp [go_sem]), hE.cell (by simp [go_sem]), hE.cell (by simp [go_sem]), hE.cell (by simp [go_sem]), hE.cell (by simp [go_sem]), hE.cell (by simp [go_sem]), hI.out.ext (by repeat (with_reducible first | assumption | exact Ext.refl _ | refine Ext.drew ?_ | refine Ext.drewN ?_ _ | refine Ext.alloc ?_ _ | (refine Ext.setCell ?_ ?sz _; case sz => (first | (simp; done) | (simp; omega))) | refine Ext.trans ?_ (by assumption))), hP.out.ext (by repeat (with_reducible first | assumption | exact Ext.refl _ | refine Ext.drew ?_ | refine Ext.drewN ?_ _ | refine Ext.alloc ?_ _ | (refine Ext.setCell ?_ ?sz _; case sz => (first | (simp; done) | (simp; omega))) | refine Ext.trans ?_ (by assumption)))⟩
  replace X := hid (X.out.trans (show Ext w0 w1 from (by repeat (with_reducible first | assumption | exact Ext.refl _ | refine Ext.drew ?_ | refine Ext.drewN ?_ _ | refine Ext.alloc ?_ _ | (refine Ext.setCell ?_ ?sz _; case sz => (first | (simp; done) | (simp; omega))) | refine Ext.trans ?_ (by assumption)))))
  generalize w0.heap.size = B at *
  clear hI hP hE
  replace S := hid S
  have hlt := S.out.lt
  have hlt0 : B < w1.heap.size := by omega
  have m0 := S.out.m0; have m1 := S.out.m1; have m2 := S.out.m2; have d0 := S.out.d0; have d1 := S.out.d1; have d2 := S.out.d2
  replace hK1 := hid hK1
  go_wp2_with fail
  refine (K2 a cap _ (S.out.i.ext (by repeat (with_reducible first | assumption | exact Ext.refl _ | refine Ext.drew ?_ | refine Ext.drewN ?_ _ | refine Ext.alloc ?_ _ | (refine Ext.setCell ?_ ?sz _; case sz => (first | (simp; done) | (simp; omega))) | refine Ext.trans ?_ (by assumption))))).mono ?_; rintro e w2 ⟨rfl, hE⟩
  replace hK1 := hid (hK1.out.ext hE)
  (have x : Ext w1 w2 := (by repeat (with_reducible first | assumption | exact Ext.refl _ | refine Ext.drew ?_ | refine Ext.drewN ?_ _ | refine Ext.alloc ?_ _ | (refine Ext.setCell ?_ ?sz _; case sz => (first | (simp; done) | (simp; omega))) | refine Ext.trans ?_ (by assumption))); replace S := hid (S.out.ext x); replace X := hid (X.out.trans x); clear x hE m0 m1 m2 d0 d1 d2 hlt hlt0; have hlt := S.out.lt; have hlt0 : B < (w2).heap.size := by omega); (have m0 := S.out.m0; have m1 := S.out.m1; have m2 := S.out.m2; have d0 := S.out.d0; have d1 := S.out.d1; have d2 := S.out.d2)
  go_wp2_with fail
  refine (K3 a cap _ (S.out.i.ext (by repeat (with_reducible first | assumption | exact Ext.refl _ | refine Ext.drew ?_ | refine Ext.drewN ?_ _ | refine Ext.alloc ?_ _ | (refine Ext.setCell ?_ ?sz _; case sz => (first | (simp; done) | (simp; omega))) | refine Ext.trans ?_ (by assumption))))).mono ?_; rintro e w3 ⟨rfl, hE⟩
  replace hK1 := hid (hK1.out.ext hE)
  (have x : Ext w2 w3 := (by repeat (with_reducible first | assumption | exact Ext.refl _ | refine Ext.drew ?_ | refine Ext.drewN ?_ _ | refine Ext.alloc ?_ _ | (refine Ext.setCell ?_ ?sz _; case sz => (first | (simp; done) | (simp; omega))) | refine Ext.trans ?_ (by assumption))); replace S := hid (S.out.ext x); replace X := hid (X.out.trans x); clear x hE m0 m1 m2 d0 d1 d2 hlt hlt0; have hlt := S.out.lt; have hlt0 : B < (w3).heap.size := by omega); (have m0 := S.out.m0; have m1 := S.out.m1; have m2 := S.out.m2; have d0 := S.out.d0; have d1 := S.out.d1; have d2 := S.out.d2)
  go_wp2_with fail
  refine (K4 a cap _ (S.out.i.ext (by repeat (with_reducible first | assumption | exact Ext.refl _ | refine Ext.drew ?_ | refine Ext.drewN ?_ _ | refine Ext.alloc ?_ _ | (refine Ext.setCell ?_ ?sz _; case sz => (first | (simp; done) | (simp; omega))) | refine Ext.trans ?_ (by assumption))))).mono ?_; rintro e w4 ⟨a4, c4, rfl, hK4, hE⟩
  replace hK1 := hid (hK1.out.ext hE)
  replace hK4 := hid hK4
  (have x : Ext w3 w4 := (by repeat (with_reducible first | assumption | exact Ext.refl _ | refine Ext.drew ?_ | refine Ext.drewN ?_ _ | refine Ext.alloc ?_ _ | (refine Ext.setCell ?_ ?sz _; case sz => (first | (simp; done) | (simp; omega))) | refine Ext.trans ?_ (by assumption))); replace S := hid (S.out.ext x); replace X := hid (X.out.trans x); clear x hE m0 m1 m2 d0 d1 d2 hlt hlt0; have hlt := S.out.lt; have hlt0 : B < (w4).heap.size := by omega); (have m0 := S.out.m0; have m1 := S.out.m1; have m2 := S.out.m2; have d0 := S.out.d0; have d1 := S.out.d1; have d2 := S.out.d2)
  go_wp2_with fail
  refine (K5 a cap _ (S.out.i.ext (by repeat (with_reducible first | assumption | exact Ext.refl _ | refine Ext.drew ?_ | refine Ext.drewN ?_ _ | refine Ext.alloc ?_ _ | (refine Ext.setCell ?_ ?sz _; case sz => (first | (simp; done) | (simp; omega))) | refine Ext.trans ?_ (by assumption))))).mono ?_; rintro e w5 ⟨rfl, hE⟩
  replace hK1 := hid (hK1.out.ext hE)
  replace hK4 := hid (hK4.out.ext hE)
  (have x : Ext w4 w5 := (by repeat (with_reducible first | assumption | exact Ext.refl _ | refine Ext.drew ?_ | refine Ext.drewN ?_ _ | refine Ext.alloc ?_ _ | (refine Ext.setCell ?_ ?sz _; case sz => (first | (simp; done) | (simp; omega))) | refine Ext.trans ?_ (by assumption))); replace S := hid (S.out.ext x); replace X := hid (X.out.trans x); clear x hE m0 m1 m2 d0 d1 d2 hlt hlt0; have hlt := S.out.lt; have hlt0 : B < (w5).heap.size := by omega); (have m0 := S.out.m0; have m1 := S.out.m1; have m2 := S.out.m2; have d0 := S.out.d0; have d1 := S.out.d1; have d2 := S.out.d2)
  go_wp2_with fail
  refine (K6 a cap _ (S.out.i.ext (by repeat (with_reducible first | assumption | exact Ext.refl _ | refine Ext.drew ?_ | refine Ext.drewN ?_ _ | refine Ext.alloc ?_ _ | (refine Ext.setCell ?_ ?sz _; case sz => (first | (simp; done) | (simp; omega))) | refine Ext.trans ?_ (by assumption))))).mono ?_; rintro e w6 ⟨rfl, hE⟩
  replace hK1 := hid (hK1.out.ext hE)
  replace hK4 := hid (hK4.out.ext hE)
  (have x : Ext w5 w6 := (by repeat (with_reducible first | assumption | exact Ext.refl _ | refine Ext.drew ?_ | refine Ext.drewN ?_ _ | refine Ext.alloc ?_ _ | (refine Ext.setCell ?_ ?sz _; case sz => (first | (simp; done) | (simp; omega))) | refine Ext.trans ?_ (by assumption))); replace S := hid (S.out.ext x); replace X := hid (X.out.trans x); clear x hE m0 m1 m2 d0 d1 d2 hlt hlt0; have hlt := S.out.lt; have hlt0 : B < (w6).heap.size := by omega); (have m0 := S.out.m0; have m1 := S.out.m1; have m2 := S.out.m2; have d0 := S.out.d0; have d1 := S.out.d1; have d2 := S.out.d2)
  go_wp2_with fail
  go_region_held3 (fun w' => w'.cell? ⟨B + 1, 0, none⟩ = some (.int .i64 5) ∧ w'.cell? ⟨B + 1, 1, none⟩ = some (.int .i64 4) ∧ w'.cell? ⟨B + 1, 2, none⟩ = some (.slice b 3 cb) ∧ Ext w6 w') (((try go_split_ands); (repeat' apply And.intro) <;> (first | (with_reducible assumption) | exact Ext.cell (w := w6) (by repeat (with_reducible first | assumption | exact Ext.refl _ | refine Ext.drew ?_ | refine Ext.drewN ?_ _ | refine Ext.alloc ?_ _ | (refine Ext.setCell ?_ ?sz _; case sz => (first | (simp; done) | (simp; omega))) | refine Ext.trans ?_ (by assumption))) (by assumption) | exact (by repeat (with_reducible first | assumption | exact Ext.refl _ | refine Ext.drew ?_ | refine Ext.drewN ?_ _ | refine Ext.alloc ?_ _ | (refine Ext.setCell ?_ ?sz _; case sz => (first | (simp; done) | (simp; omega))) | refine Ext.trans ?_ (by assumption)))))) (first | (go_at_call 63; refine (to_any 11 12 _).mono ?_; rintro e wt ⟨rfl, hEt⟩) | (go_at_call 42; refine (K7 b cb _ (S.out.p.ext (by repeat (with_reducible first | assumption | exact Ext.refl _ | refine Ext.drew ?_ | refine Ext.drewN ?_ _ | refine Ext.alloc ?_ _ | (refine Ext.setCell ?_ ?sz _; case sz => (first | (simp; done) | (simp; omega))) | refine Ext.trans ?_ (by assumption))))).mono ?_; rintro e w7 ⟨rfl, hE⟩))
  all_goals
    have x6 : Ext w6 w7 := (by repeat (with_reducible first | assumption | exact Ext.refl _ | refine Ext.drew ?_ | refine Ext.drewN ?_ _ | refine Ext.alloc ?_ _ | (refine Ext.setCell ?_ ?sz _; case sz => (first | (simp; done) | (simp; omega))) | refine Ext.trans ?_ (by assumption)))
    replace hK1 := hid (hK1.out.ext x6)
    replace hK4 := hid (hK4.out.ext x6)
    replace S := hid (S.out.ext x6)
    replace X := hid (X.out.trans x6)
    clear x6 hE hEt m0 m1 m2 d0 d1 d2 hlt hlt0
    have hlt := S.out.lt
    have hlt0 : B < w7.heap.size := by omega
    have m0 := S.out.m0; have m1 := S.out.m1; have m2 := S.out.m2; have d0 := S.out.d0; have d1 := S.out.d1; have d2 := S.out.d2
    go_wp2_with fail
    refine (longs_any _ _).mono ?_; rintro e wl ⟨rfl, rfl⟩
    go_wp2_with fail
    refine (longs3_any a1 _ c1 3 2 0 3 _ (hK1.out.ext (by repeat (with_reducible first | assumption | exact Ext.refl _ | refine Ext.drew ?_ | refine Ext.drewN ?_ _ | refine Ext.alloc ?_ _ | (refine Ext.setCell ?_ ?sz _; case sz => (first | (simp; done) | (simp; omega))) | refine Ext.trans ?_ (by assumption)))) (ints3 (by simp))).mono ?_; rintro e w8 ⟨rfl, hE⟩
    have x7 : Ext w7 w8 := (by repeat (with_reducible first | assumption | exact Ext.refl _ | refine Ext.drew ?_ | refine Ext.drewN ?_ _ | refine Ext.alloc ?_ _ | (refine Ext.setCell ?_ ?sz _; case sz => (first | (simp; done) | (simp; omega))) | refine Ext.trans ?_ (by assumption)))
    replace hK4 := hid (hK4.out.ext x7)
    replace S := hid (S.out.ext x7)
    replace X := hid (X.out.trans x7)
    clear x7 hE m0 m1 m2 d0 d1 d2 hlt hlt0 hK1
    have hlt := S.out.lt
    have hlt0 : B < w8.heap.size := by omega
    have m0 := S.out.m0; have m1 := S.out.m1; have m2 := S.out.m2; have d0 := S.out.d0; have d1 := S.out.d1; have d2 := S.out.d2
    go_wp2_with fail
    refine (pairs_any _ _).mono ?_; rintro e wl ⟨rfl, rfl⟩
    go_wp2_with fail
    refine (pairs2_any a4 _ c4 2 (0, 0) (2, 2) _ (hK4.out.ext (by repeat (with_reducible first | assumption | exact Ext.refl _ | refine Ext.drew ?_ | refine Ext.drewN ?_ _ | refine Ext.alloc ?_ _ | (refine Ext.setCell ?_ ?sz _; case sz => (first | (simp; done) | (simp; omega))) | refine Ext.trans ?_ (by assumption)))) (prs2 (by simp))).mono ?_; rintro e w9 ⟨rfl, hE⟩
    have x8 : Ext w8 w9 := (by repeat (with_reducible first | assumption | exact Ext.refl _ | refine Ext.drew ?_ | refine Ext.drewN ?_ _ | refine Ext.alloc ?_ _ | (refine Ext.setCell ?_ ?sz _; case sz => (first | (simp; done) | (simp; omega))) | refine Ext.trans ?_ (by assumption)))
    replace S := hid (S.out.ext x8)
    replace X := hid (X.out.trans x8)
    clear x8 hE m0 m1 m2 d0 d1 d2 hlt hlt0 hK4
    have hlt := S.out.lt
    have hlt0 : B < w9.heap.size := by omega
    have m0 := S.out.m0; have m1 := S.out.m1; have m2 := S.out.m2; have d0 := S.out.d0; have d1 := S.out.d1; have d2 := S.out.d2
    go_wp2_with fail
    refine (K8 a cap _ (S.out.i.ext (by repeat (with_reducible first | assumption | exact Ext.refl _ | refine Ext.drew ?_ | refine Ext.drewN ?_ _ | refine Ext.alloc ?_ _ | (refine Ext.setCell ?_ ?sz _; case sz => (first | (simp; done) | (simp; omega))) | refine Ext.trans ?_ (by assumption))))).mono ?_; rintro e w10 ⟨rfl, hE⟩
    (have x : Ext w9 w10 := (by repeat (with_reducible first | assumption | exact Ext.refl _ | refine Ext.drew ?_ | refine Ext.drewN ?_ _ | refine Ext.alloc ?_ _ | (refine Ext.setCell ?_ ?sz _; case sz => (first | (simp; done) | (simp; omega))) | refine Ext.trans ?_ (by assumption))); replace S := hid (S.out.ext x); replace X := hid (X.out.trans x); clear x hE m0 m1 m2 d0 d1 d2 hlt hlt0; have hlt := S.out.lt; have hlt0 : B < (w10).heap.size := by omega); (have m0 := S.out.m0; have m1 := S.out.m1; have m2 := S.out.m2; have d0 := S.out.d0; have d1 := S.out.d1; have d2 := S.out.d2)
    go_wp2_with fail
    refine (K9 b cb _ (S.out.p.ext (by repeat (with_reducible first | assumption | exact Ext.refl _ | refine Ext.drew ?_ | refine Ext.drewN ?_ _ | refine Ext.alloc ?_ _ | (refine Ext.setCell ?_ ?sz _; case sz => (first | (simp; done) | (simp; omega))) | refine Ext.trans ?_ (by assumption))))).mono ?_; rintro e w11 ⟨rfl, hE⟩
    (have x : Ext w10 w11 := (by repeat (with_reducible first | assumption | exact Ext.refl _ | refine Ext.drew ?_ | refine Ext.drewN ?_ _ | refine Ext.alloc ?_ _ | (refine Ext.setCell ?_ ?sz _; case sz => (first | (simp; done) | (simp; omega))) | refine Ext.trans ?_ (by assumption))); replace S := hid (S.out.ext x); replace X := hid (X.out.trans x); clear x hE m0 m1 m2 d0 d1 d2 hlt hlt0; have hlt := S.out.lt; have hlt0 : B < (w11).heap.size := by omega); (have m0 := S.out.m0; have m1 := S.out.m1; have m2 := S.out.m2; have d0 := S.out.d0; have d1 := S.out.d1; have d2 := S.out.d2)
    go_wp2_with fail
    refine (works_any _).mono ?_; rintro e w12 ⟨rfl, hE⟩
    go_wp2_with fail
    go_ret
    exact ⟨ret_bool (by simp), X.out.trans (by repeat (with_reducible first | assumption | exact Ext.refl _ | refine Ext.drew ?_ | refine Ext.drewN ?_ _ | refine Ext.alloc ?_ _ | (refine Ext.setCell ?_ ?sz _; case sz => (first | (simp; done) | (simp; omega))) | refine Ext.trans ?_ (by assumption)))⟩

end Go.Proofs.Ytogglbhidlnijaa
