/- The laws' examples: the walk of porringerlaw05.Works. (Printed by wip/genworks2.py.) -/
import Derived.Test.YtogglbhidlnijaaWorks
import Derived.Deep.RegionHeld3
namespace Go.Proofs.Ytogglbhidlnijaa
set_option linter.unusedVariables false
set_option linter.unusedSimpArgs false
set_option linter.unusedSectionVars false
set_option linter.unnecessarySimpa false
open Go Go.RowKit
set_option maxRecDepth 100000

/-- The two examples in their boxes. -/
structure WS (B : Nat) (a b : Option Addr) (cap cb : Nat) (w : World) : Prop where
  m0 : w.cell? ⟨B, 0, none⟩ = some (.int .i64 5)
  m1 : w.cell? ⟨B, 1, none⟩ = some (.int .i64 4)
  m2 : w.cell? ⟨B, 2, none⟩ = some (.slice a 3 cap)
  d0 : w.cell? ⟨B + 1, 0, none⟩ = some (.int .i64 5)
  d1 : w.cell? ⟨B + 1, 1, none⟩ = some (.int .i64 4)
  d2 : w.cell? ⟨B + 1, 2, none⟩ = some (.slice b 3 cb)
  i : Ints w a mM.hs
  p : Prs w b dD.rs
theorem WS.ext {B : Nat} {a b : Option Addr} {cap cb : Nat} {w w' : World} (h : WS B a b cap cb w) (k : Ext w w') : WS B a b cap cb w' :=
  ⟨k.cell h.m0, k.cell h.m1, k.cell h.m2, k.cell h.d0, k.cell h.d1, k.cell h.d2, h.i.ext k, h.p.ext k⟩
theorem WS.lt {B : Nat} {a b : Option Addr} {cap cb : Nat} {w : World} (h : WS B a b cap cb w) : B + 1 < w.heap.size := cell_lt h.d0

theorem longs3_any (a b : Option Addr) (c1 c2 : Nat) (x y z : Int) (w : World) (hI : Ints w a [x, y, z]) (hJ : Ints w b [x, y, z]) :
    Calls Try.prog 29 #[.slice a 3 c1, .slice b 3 c2] w fun e w' => e = .returned (.bool true) ∧ Ext w w' := longsEq_any a b c1 c2 [x, y, z] w hI hJ (by simp)
theorem pairs1_any (a b : Option Addr) (c1 c2 : Nat) (x : Int × Int) (w : World) (hI : Prs w a [x]) (hJ : Prs w b [x]) :
    Calls Try.prog 30 #[.slice a 1 c1, .slice b 1 c2] w fun e w' => e = .returned (.bool true) ∧ Ext w w' := pairsEq_any a b c1 c2 [x] w hI hJ (by simp)
theorem pairs2_any (a b : Option Addr) (c1 c2 : Nat) (x y : Int × Int) (w : World) (hI : Prs w a [x, y]) (hJ : Prs w b [x, y]) :
    Calls Try.prog 30 #[.slice a 2 c1, .slice b 2 c2] w fun e w' => e = .returned (.bool true) ∧ Ext w w' := pairsEq_any a b c1 c2 [x, y] w hI hJ (by simp)
theorem prs2 {w : World} {x y x2 y2 : Int} {t : TypeId} {n : Nat} (h : n = w.heap.size) : Prs (w.alloc (.cells #[.int .i64 x, .int .i64 x2, .int .i64 y, .int .i64 y2] t)) (some ⟨n, 0, none⟩) [(x, x2), (y, y2)] := by
  subst h
  intro i hi
  match i, (show i < 2 by simpa using hi) with
  | 0, _ => exact ⟨_, _, rfl, by simp [go_sem, pa], by simp [go_sem, pb]⟩
  | 1, _ => exact ⟨_, _, rfl, by simp [go_sem, pa], by simp [go_sem, pb]⟩

set_option maxHeartbeats 20000000 in
theorem works_any (w : World) : Calls Try.prog 18 #[] w fun e w' => e = .returned (.bool true) ∧ Ext w w' := by
  have heq := eqPair 7 10
  go_enter Try.func18, Try.ntmps18
  go_wp2_with fail
  refine (measureX_any _).mono ?_; rintro e wa ⟨a, cap, rfl, hI, hE⟩
  have X : Ext w wa := (by repeat (with_reducible first | assumption | exact Ext.refl _ | refine Ext.drew ?_ | refine Ext.drewN ?_ _ | refine Ext.alloc ?_ _ | (refine Ext.setCell ?_ ?sz _; case sz => (first | (simp; done) | (simp; omega))) | refine Ext.trans ?_ (by assumption)))
  replace hI := hid hI
  clear hE
  go_wp2_with fail
  refine (dentedX_any _).mono ?_; rintro e w0 ⟨b, cb, rfl, hP, hE⟩
  replace X := hid (X.trans hE)
  replace hI := hid (hI.out.ext hE)
  replace hP := hid hP
  clear hE
  go_wp2_with fail

  refine (W1 a cap _ (hI.out.ext (by repeat (with_reducible first | assumption | exact Ext.refl _ | refine Ext.drew ?_ | refine Ext.drewN ?_ _ | refine Ext.alloc ?_ _ | (refine Ext.setCell ?_ ?sz _; case sz => (first | (simp; done) | (simp; omega))) | refine Ext.trans ?_ (by assumption))))).mono ?_; rintro e w1 ⟨a1, c1, rfl, hK1, hE⟩
  have S : WS w0.heap.size a b cap cb w1 := ⟨hE.cell (by simp [go_sem]), hE.cell (by simp [go_sem]), hE.cell (by simp [go_sem]), hE.cell (by simp [go_sem]), hE.cell (by simp [go_sem]), hE.cell (by simp [go_sem]), hI.out.ext (by repeat (with_reducible first | assumption | exact Ext.refl _ | refine Ext.drew ?_ | refine Ext.drewN ?_ _ | refine Ext.alloc ?_ _ | (refine Ext.setCell ?_ ?sz _; case sz => (first | (simp; done) | (simp; omega))) | refine Ext.trans ?_ (by assumption))), hP.out.ext (by repeat (with_reducible first | assumption | exact Ext.refl _ | refine Ext.drew ?_ | refine Ext.drewN ?_ _ | refine Ext.alloc ?_ _ | (refine Ext.setCell ?_ ?sz _; case sz => (first | (simp; done) | (simp; omega))) | refine Ext.trans ?_ (by assumption)))⟩
  replace X := hid (X.out.trans (show Ext w0 w1 from (by repeat (with_reducible first | assumption | exact Ext.refl _ | refine Ext.drew ?_ | refine Ext.drewN ?_ _ | refine Ext.alloc ?_ _ | (refine Ext.setCell ?_ ?sz _; case sz => (first | (simp; done) | (simp; omega))) | refine Ext.trans ?_ (by assumption)))))
  generalize w0.heap.size = B at *
  clear hI hP hE
  replace S := hid S
  have hlt := S.out.lt
  have hlt0 : B < w1.heap.size := by omega
  have m0 := S.out.m0; have m1 := S.out.m1; have m2 := S.out.m2; have d0 := S.out.d0; have d1 := S.out.d1; have d2 := S.out.d2
  replace hK1 := hid hK1
  go_wp2_with fail
  refine (W2 a cap _ (S.out.i.ext (by repeat (with_reducible first | assumption | exact Ext.refl _ | refine Ext.drew ?_ | refine Ext.drewN ?_ _ | refine Ext.alloc ?_ _ | (refine Ext.setCell ?_ ?sz _; case sz => (first | (simp; done) | (simp; omega))) | refine Ext.trans ?_ (by assumption))))).mono ?_; rintro e w2 ⟨a2, c2, rfl, hK2, hE⟩
  have x : Ext w1 w2 := (by repeat (with_reducible first | assumption | exact Ext.refl _ | refine Ext.drew ?_ | refine Ext.drewN ?_ _ | refine Ext.alloc ?_ _ | (refine Ext.setCell ?_ ?sz _; case sz => (first | (simp; done) | (simp; omega))) | refine Ext.trans ?_ (by assumption)))
  replace S := hid (S.out.ext x); replace X := hid (X.out.trans x)
  replace hK1 := hid (hK1.out.ext x)
  replace hK2 := hid hK2
  clear x hE m0 m1 m2 d0 d1 d2 hlt hlt0
  have hlt := S.out.lt
  have hlt0 : B < w2.heap.size := by omega
  have m0 := S.out.m0; have m1 := S.out.m1; have m2 := S.out.m2; have d0 := S.out.d0; have d1 := S.out.d1; have d2 := S.out.d2
  go_wp2_with fail
  refine (W3 a cap _ (S.out.i.ext (by repeat (with_reducible first | assumption | exact Ext.refl _ | refine Ext.drew ?_ | refine Ext.drewN ?_ _ | refine Ext.alloc ?_ _ | (refine Ext.setCell ?_ ?sz _; case sz => (first | (simp; done) | (simp; omega))) | refine Ext.trans ?_ (by assumption))))).mono ?_; rintro e w3 ⟨a3, c3, rfl, _, hE⟩
  have x : Ext w2 w3 := (by repeat (with_reducible first | assumption | exact Ext.refl _ | refine Ext.drew ?_ | refine Ext.drewN ?_ _ | refine Ext.alloc ?_ _ | (refine Ext.setCell ?_ ?sz _; case sz => (first | (simp; done) | (simp; omega))) | refine Ext.trans ?_ (by assumption)))
  replace S := hid (S.out.ext x); replace X := hid (X.out.trans x)
  replace hK1 := hid (hK1.out.ext x)
  replace hK2 := hid (hK2.out.ext x)
  clear x hE m0 m1 m2 d0 d1 d2 hlt hlt0
  have hlt := S.out.lt
  have hlt0 : B < w3.heap.size := by omega
  have m0 := S.out.m0; have m1 := S.out.m1; have m2 := S.out.m2; have d0 := S.out.d0; have d1 := S.out.d1; have d2 := S.out.d2
  go_wp2_with fail
  refine (W4 a cap _ (S.out.i.ext (by repeat (with_reducible first | assumption | exact Ext.refl _ | refine Ext.drew ?_ | refine Ext.drewN ?_ _ | refine Ext.alloc ?_ _ | (refine Ext.setCell ?_ ?sz _; case sz => (first | (simp; done) | (simp; omega))) | refine Ext.trans ?_ (by assumption))))).mono ?_; rintro e w4 ⟨rfl, hE⟩
  have x : Ext w3 w4 := (by repeat (with_reducible first | assumption | exact Ext.refl _ | refine Ext.drew ?_ | refine Ext.drewN ?_ _ | refine Ext.alloc ?_ _ | (refine Ext.setCell ?_ ?sz _; case sz => (first | (simp; done) | (simp; omega))) | refine Ext.trans ?_ (by assumption)))
  replace S := hid (S.out.ext x); replace X := hid (X.out.trans x)
  replace hK1 := hid (hK1.out.ext x)
  replace hK2 := hid (hK2.out.ext x)
  clear x hE m0 m1 m2 d0 d1 d2 hlt hlt0
  have hlt := S.out.lt
  have hlt0 : B < w4.heap.size := by omega
  have m0 := S.out.m0; have m1 := S.out.m1; have m2 := S.out.m2; have d0 := S.out.d0; have d1 := S.out.d1; have d2 := S.out.d2
  go_wp2_with fail
  refine (W5 a cap _ (S.out.i.ext (by repeat (with_reducible first | assumption | exact Ext.refl _ | refine Ext.drew ?_ | refine Ext.drewN ?_ _ | refine Ext.alloc ?_ _ | (refine Ext.setCell ?_ ?sz _; case sz => (first | (simp; done) | (simp; omega))) | refine Ext.trans ?_ (by assumption))))).mono ?_; rintro e w5 ⟨rfl, hE⟩
  have x : Ext w4 w5 := (by repeat (with_reducible first | assumption | exact Ext.refl _ | refine Ext.drew ?_ | refine Ext.drewN ?_ _ | refine Ext.alloc ?_ _ | (refine Ext.setCell ?_ ?sz _; case sz => (first | (simp; done) | (simp; omega))) | refine Ext.trans ?_ (by assumption)))
  replace S := hid (S.out.ext x); replace X := hid (X.out.trans x)
  replace hK1 := hid (hK1.out.ext x)
  replace hK2 := hid (hK2.out.ext x)
  clear x hE m0 m1 m2 d0 d1 d2 hlt hlt0
  have hlt := S.out.lt
  have hlt0 : B < w5.heap.size := by omega
  have m0 := S.out.m0; have m1 := S.out.m1; have m2 := S.out.m2; have d0 := S.out.d0; have d1 := S.out.d1; have d2 := S.out.d2
  go_wp2_with fail
  refine (W6 a cap _ (S.out.i.ext (by repeat (with_reducible first | assumption | exact Ext.refl _ | refine Ext.drew ?_ | refine Ext.drewN ?_ _ | refine Ext.alloc ?_ _ | (refine Ext.setCell ?_ ?sz _; case sz => (first | (simp; done) | (simp; omega))) | refine Ext.trans ?_ (by assumption))))).mono ?_; rintro e w6 ⟨rfl, hE⟩
  have x : Ext w5 w6 := (by repeat (with_reducible first | assumption | exact Ext.refl _ | refine Ext.drew ?_ | refine Ext.drewN ?_ _ | refine Ext.alloc ?_ _ | (refine Ext.setCell ?_ ?sz _; case sz => (first | (simp; done) | (simp; omega))) | refine Ext.trans ?_ (by assumption)))
  replace S := hid (S.out.ext x); replace X := hid (X.out.trans x)
  replace hK1 := hid (hK1.out.ext x)
  replace hK2 := hid (hK2.out.ext x)
  clear x hE m0 m1 m2 d0 d1 d2 hlt hlt0
  have hlt := S.out.lt
  have hlt0 : B < w6.heap.size := by omega
  have m0 := S.out.m0; have m1 := S.out.m1; have m2 := S.out.m2; have d0 := S.out.d0; have d1 := S.out.d1; have d2 := S.out.d2
  go_wp2_with fail
  refine (W7 a cap _ (S.out.i.ext (by repeat (with_reducible first | assumption | exact Ext.refl _ | refine Ext.drew ?_ | refine Ext.drewN ?_ _ | refine Ext.alloc ?_ _ | (refine Ext.setCell ?_ ?sz _; case sz => (first | (simp; done) | (simp; omega))) | refine Ext.trans ?_ (by assumption))))).mono ?_; rintro e w7 ⟨rfl, hE⟩
  have x : Ext w6 w7 := (by repeat (with_reducible first | assumption | exact Ext.refl _ | refine Ext.drew ?_ | refine Ext.drewN ?_ _ | refine Ext.alloc ?_ _ | (refine Ext.setCell ?_ ?sz _; case sz => (first | (simp; done) | (simp; omega))) | refine Ext.trans ?_ (by assumption)))
  replace S := hid (S.out.ext x); replace X := hid (X.out.trans x)
  replace hK1 := hid (hK1.out.ext x)
  replace hK2 := hid (hK2.out.ext x)
  clear x hE m0 m1 m2 d0 d1 d2 hlt hlt0
  have hlt := S.out.lt
  have hlt0 : B < w7.heap.size := by omega
  have m0 := S.out.m0; have m1 := S.out.m1; have m2 := S.out.m2; have d0 := S.out.d0; have d1 := S.out.d1; have d2 := S.out.d2
  go_wp2_with fail
  refine (W8 a cap _ (S.out.i.ext (by repeat (with_reducible first | assumption | exact Ext.refl _ | refine Ext.drew ?_ | refine Ext.drewN ?_ _ | refine Ext.alloc ?_ _ | (refine Ext.setCell ?_ ?sz _; case sz => (first | (simp; done) | (simp; omega))) | refine Ext.trans ?_ (by assumption))))).mono ?_; rintro e w8 ⟨rfl, hE⟩
  have x : Ext w7 w8 := (by repeat (with_reducible first | assumption | exact Ext.refl _ | refine Ext.drew ?_ | refine Ext.drewN ?_ _ | refine Ext.alloc ?_ _ | (refine Ext.setCell ?_ ?sz _; case sz => (first | (simp; done) | (simp; omega))) | refine Ext.trans ?_ (by assumption)))
  replace S := hid (S.out.ext x); replace X := hid (X.out.trans x)
  replace hK1 := hid (hK1.out.ext x)
  replace hK2 := hid (hK2.out.ext x)
  clear x hE m0 m1 m2 d0 d1 d2 hlt hlt0
  have hlt := S.out.lt
  have hlt0 : B < w8.heap.size := by omega
  have m0 := S.out.m0; have m1 := S.out.m1; have m2 := S.out.m2; have d0 := S.out.d0; have d1 := S.out.d1; have d2 := S.out.d2
  go_wp2_with fail
  refine (W9 a cap _ (S.out.i.ext (by repeat (with_reducible first | assumption | exact Ext.refl _ | refine Ext.drew ?_ | refine Ext.drewN ?_ _ | refine Ext.alloc ?_ _ | (refine Ext.setCell ?_ ?sz _; case sz => (first | (simp; done) | (simp; omega))) | refine Ext.trans ?_ (by assumption))))).mono ?_; rintro e w9 ⟨a9, c9, rfl, hK9, hE⟩
  have x : Ext w8 w9 := (by repeat (with_reducible first | assumption | exact Ext.refl _ | refine Ext.drew ?_ | refine Ext.drewN ?_ _ | refine Ext.alloc ?_ _ | (refine Ext.setCell ?_ ?sz _; case sz => (first | (simp; done) | (simp; omega))) | refine Ext.trans ?_ (by assumption)))
  replace S := hid (S.out.ext x); replace X := hid (X.out.trans x)
  replace hK1 := hid (hK1.out.ext x)
  replace hK2 := hid (hK2.out.ext x)
  replace hK9 := hid hK9
  clear x hE m0 m1 m2 d0 d1 d2 hlt hlt0
  have hlt := S.out.lt
  have hlt0 : B < w9.heap.size := by omega
  have m0 := S.out.m0; have m1 := S.out.m1; have m2 := S.out.m2; have d0 := S.out.d0; have d1 := S.out.d1; have d2 := S.out.d2
  go_wp2_with fail
  refine (W10 a cap _ (S.out.i.ext (by repeat (with_reducible first | assumption | exact Ext.refl _ | refine Ext.drew ?_ | refine Ext.drewN ?_ _ | refine Ext.alloc ?_ _ | (refine Ext.setCell ?_ ?sz _; case sz => (first | (simp; done) | (simp; omega))) | refine Ext.trans ?_ (by assumption))))).mono ?_; rintro e w10 ⟨a10, c10, rfl, hK10, hE⟩
  have x : Ext w9 w10 := (by repeat (with_reducible first | assumption | exact Ext.refl _ | refine Ext.drew ?_ | refine Ext.drewN ?_ _ | refine Ext.alloc ?_ _ | (refine Ext.setCell ?_ ?sz _; case sz => (first | (simp; done) | (simp; omega))) | refine Ext.trans ?_ (by assumption)))
  replace S := hid (S.out.ext x); replace X := hid (X.out.trans x)
  replace hK1 := hid (hK1.out.ext x)
  replace hK2 := hid (hK2.out.ext x)
  replace hK9 := hid (hK9.out.ext x)
  replace hK10 := hid hK10
  clear x hE m0 m1 m2 d0 d1 d2 hlt hlt0
  have hlt := S.out.lt
  have hlt0 : B < w10.heap.size := by omega
  have m0 := S.out.m0; have m1 := S.out.m1; have m2 := S.out.m2; have d0 := S.out.d0; have d1 := S.out.d1; have d2 := S.out.d2
  go_wp2_with fail
  refine (W11 a cap _ (S.out.i.ext (by repeat (with_reducible first | assumption | exact Ext.refl _ | refine Ext.drew ?_ | refine Ext.drewN ?_ _ | refine Ext.alloc ?_ _ | (refine Ext.setCell ?_ ?sz _; case sz => (first | (simp; done) | (simp; omega))) | refine Ext.trans ?_ (by assumption))))).mono ?_; rintro e w11 ⟨rfl, hE⟩
  have x : Ext w10 w11 := (by repeat (with_reducible first | assumption | exact Ext.refl _ | refine Ext.drew ?_ | refine Ext.drewN ?_ _ | refine Ext.alloc ?_ _ | (refine Ext.setCell ?_ ?sz _; case sz => (first | (simp; done) | (simp; omega))) | refine Ext.trans ?_ (by assumption)))
  replace S := hid (S.out.ext x); replace X := hid (X.out.trans x)
  replace hK1 := hid (hK1.out.ext x)
  replace hK2 := hid (hK2.out.ext x)
  replace hK9 := hid (hK9.out.ext x)
  replace hK10 := hid (hK10.out.ext x)
  clear x hE m0 m1 m2 d0 d1 d2 hlt hlt0
  have hlt := S.out.lt
  have hlt0 : B < w11.heap.size := by omega
  have m0 := S.out.m0; have m1 := S.out.m1; have m2 := S.out.m2; have d0 := S.out.d0; have d1 := S.out.d1; have d2 := S.out.d2
  go_wp2_with fail
  refine (W12 a cap _ (S.out.i.ext (by repeat (with_reducible first | assumption | exact Ext.refl _ | refine Ext.drew ?_ | refine Ext.drewN ?_ _ | refine Ext.alloc ?_ _ | (refine Ext.setCell ?_ ?sz _; case sz => (first | (simp; done) | (simp; omega))) | refine Ext.trans ?_ (by assumption))))).mono ?_; rintro e w12 ⟨rfl, hE⟩
  have x : Ext w11 w12 := (by repeat (with_reducible first | assumption | exact Ext.refl _ | refine Ext.drew ?_ | refine Ext.drewN ?_ _ | refine Ext.alloc ?_ _ | (refine Ext.setCell ?_ ?sz _; case sz => (first | (simp; done) | (simp; omega))) | refine Ext.trans ?_ (by assumption)))
  replace S := hid (S.out.ext x); replace X := hid (X.out.trans x)
  replace hK1 := hid (hK1.out.ext x)
  replace hK2 := hid (hK2.out.ext x)
  replace hK9 := hid (hK9.out.ext x)
  replace hK10 := hid (hK10.out.ext x)
  clear x hE m0 m1 m2 d0 d1 d2 hlt hlt0
  have hlt := S.out.lt
  have hlt0 : B < w12.heap.size := by omega
  have m0 := S.out.m0; have m1 := S.out.m1; have m2 := S.out.m2; have d0 := S.out.d0; have d1 := S.out.d1; have d2 := S.out.d2
  go_wp2_with fail
  refine (W13 a cap _ (S.out.i.ext (by repeat (with_reducible first | assumption | exact Ext.refl _ | refine Ext.drew ?_ | refine Ext.drewN ?_ _ | refine Ext.alloc ?_ _ | (refine Ext.setCell ?_ ?sz _; case sz => (first | (simp; done) | (simp; omega))) | refine Ext.trans ?_ (by assumption))))).mono ?_; rintro e w13 ⟨rfl, hE⟩
  have x : Ext w12 w13 := (by repeat (with_reducible first | assumption | exact Ext.refl _ | refine Ext.drew ?_ | refine Ext.drewN ?_ _ | refine Ext.alloc ?_ _ | (refine Ext.setCell ?_ ?sz _; case sz => (first | (simp; done) | (simp; omega))) | refine Ext.trans ?_ (by assumption)))
  replace S := hid (S.out.ext x); replace X := hid (X.out.trans x)
  replace hK1 := hid (hK1.out.ext x)
  replace hK2 := hid (hK2.out.ext x)
  replace hK9 := hid (hK9.out.ext x)
  replace hK10 := hid (hK10.out.ext x)
  clear x hE m0 m1 m2 d0 d1 d2 hlt hlt0
  have hlt := S.out.lt
  have hlt0 : B < w13.heap.size := by omega
  have m0 := S.out.m0; have m1 := S.out.m1; have m2 := S.out.m2; have d0 := S.out.d0; have d1 := S.out.d1; have d2 := S.out.d2
  go_wp2_with fail
  refine (W14 a cap _ (S.out.i.ext (by repeat (with_reducible first | assumption | exact Ext.refl _ | refine Ext.drew ?_ | refine Ext.drewN ?_ _ | refine Ext.alloc ?_ _ | (refine Ext.setCell ?_ ?sz _; case sz => (first | (simp; done) | (simp; omega))) | refine Ext.trans ?_ (by assumption))))).mono ?_; rintro e w14 ⟨rfl, hE⟩
  have x : Ext w13 w14 := (by repeat (with_reducible first | assumption | exact Ext.refl _ | refine Ext.drew ?_ | refine Ext.drewN ?_ _ | refine Ext.alloc ?_ _ | (refine Ext.setCell ?_ ?sz _; case sz => (first | (simp; done) | (simp; omega))) | refine Ext.trans ?_ (by assumption)))
  replace S := hid (S.out.ext x); replace X := hid (X.out.trans x)
  replace hK1 := hid (hK1.out.ext x)
  replace hK2 := hid (hK2.out.ext x)
  replace hK9 := hid (hK9.out.ext x)
  replace hK10 := hid (hK10.out.ext x)
  clear x hE m0 m1 m2 d0 d1 d2 hlt hlt0
  have hlt := S.out.lt
  have hlt0 : B < w14.heap.size := by omega
  have m0 := S.out.m0; have m1 := S.out.m1; have m2 := S.out.m2; have d0 := S.out.d0; have d1 := S.out.d1; have d2 := S.out.d2
  go_wp2_with fail
  refine (W15 a cap _ (S.out.i.ext (by repeat (with_reducible first | assumption | exact Ext.refl _ | refine Ext.drew ?_ | refine Ext.drewN ?_ _ | refine Ext.alloc ?_ _ | (refine Ext.setCell ?_ ?sz _; case sz => (first | (simp; done) | (simp; omega))) | refine Ext.trans ?_ (by assumption))))).mono ?_; rintro e w15 ⟨rfl, hE⟩
  have x : Ext w14 w15 := (by repeat (with_reducible first | assumption | exact Ext.refl _ | refine Ext.drew ?_ | refine Ext.drewN ?_ _ | refine Ext.alloc ?_ _ | (refine Ext.setCell ?_ ?sz _; case sz => (first | (simp; done) | (simp; omega))) | refine Ext.trans ?_ (by assumption)))
  replace S := hid (S.out.ext x); replace X := hid (X.out.trans x)
  replace hK1 := hid (hK1.out.ext x)
  replace hK2 := hid (hK2.out.ext x)
  replace hK9 := hid (hK9.out.ext x)
  replace hK10 := hid (hK10.out.ext x)
  clear x hE m0 m1 m2 d0 d1 d2 hlt hlt0
  have hlt := S.out.lt
  have hlt0 : B < w15.heap.size := by omega
  have m0 := S.out.m0; have m1 := S.out.m1; have m2 := S.out.m2; have d0 := S.out.d0; have d1 := S.out.d1; have d2 := S.out.d2
  go_wp2_with fail
  refine (W16 a cap _ (S.out.i.ext (by repeat (with_reducible first | assumption | exact Ext.refl _ | refine Ext.drew ?_ | refine Ext.drewN ?_ _ | refine Ext.alloc ?_ _ | (refine Ext.setCell ?_ ?sz _; case sz => (first | (simp; done) | (simp; omega))) | refine Ext.trans ?_ (by assumption))))).mono ?_; rintro e w16 ⟨rfl, hE⟩
  have x : Ext w15 w16 := (by repeat (with_reducible first | assumption | exact Ext.refl _ | refine Ext.drew ?_ | refine Ext.drewN ?_ _ | refine Ext.alloc ?_ _ | (refine Ext.setCell ?_ ?sz _; case sz => (first | (simp; done) | (simp; omega))) | refine Ext.trans ?_ (by assumption)))
  replace S := hid (S.out.ext x); replace X := hid (X.out.trans x)
  replace hK1 := hid (hK1.out.ext x)
  replace hK2 := hid (hK2.out.ext x)
  replace hK9 := hid (hK9.out.ext x)
  replace hK10 := hid (hK10.out.ext x)
  clear x hE m0 m1 m2 d0 d1 d2 hlt hlt0
  have hlt := S.out.lt
  have hlt0 : B < w16.heap.size := by omega
  have m0 := S.out.m0; have m1 := S.out.m1; have m2 := S.out.m2; have d0 := S.out.d0; have d1 := S.out.d1; have d2 := S.out.d2
  go_wp2_with fail
  refine (W17 b cb _ (S.out.p.ext (by repeat (with_reducible first | assumption | exact Ext.refl _ | refine Ext.drew ?_ | refine Ext.drewN ?_ _ | refine Ext.alloc ?_ _ | (refine Ext.setCell ?_ ?sz _; case sz => (first | (simp; done) | (simp; omega))) | refine Ext.trans ?_ (by assumption))))).mono ?_; rintro e w17 ⟨rfl, hE⟩
  have x : Ext w16 w17 := (by repeat (with_reducible first | assumption | exact Ext.refl _ | refine Ext.drew ?_ | refine Ext.drewN ?_ _ | refine Ext.alloc ?_ _ | (refine Ext.setCell ?_ ?sz _; case sz => (first | (simp; done) | (simp; omega))) | refine Ext.trans ?_ (by assumption)))
  replace S := hid (S.out.ext x); replace X := hid (X.out.trans x)
  replace hK1 := hid (hK1.out.ext x)
  replace hK2 := hid (hK2.out.ext x)
  replace hK9 := hid (hK9.out.ext x)
  replace hK10 := hid (hK10.out.ext x)
  clear x hE m0 m1 m2 d0 d1 d2 hlt hlt0
  have hlt := S.out.lt
  have hlt0 : B < w17.heap.size := by omega
  have m0 := S.out.m0; have m1 := S.out.m1; have m2 := S.out.m2; have d0 := S.out.d0; have d1 := S.out.d1; have d2 := S.out.d2
  go_wp2_with fail
  have x17 : Ext w17 (w17.alloc (.cells #[.int .i64 7, .int .i64 10] 52)) := (Ext.refl _).alloc _
  have t0 : (w17.alloc (.cells #[.int .i64 7, .int .i64 10] 52)).cell? ⟨w17.heap.size, 0, none⟩ = some (.int .i64 7) := by simp [go_sem]
  have t1 : (w17.alloc (.cells #[.int .i64 7, .int .i64 10] 52)).cell? ⟨w17.heap.size, 1, none⟩ = some (.int .i64 10) := by simp [go_sem]
  replace S := hid (S.out.ext x17); replace X := hid (X.out.trans x17)
  replace hK1 := hid (hK1.out.ext x17)
  replace hK2 := hid (hK2.out.ext x17)
  replace hK9 := hid (hK9.out.ext x17)
  replace hK10 := hid (hK10.out.ext x17)
  generalize w17.alloc (.cells #[.int .i64 7, .int .i64 10] 52) = v17 at *
  generalize w17.heap.size = C at *
  clear x17 m0 m1 m2 d0 d1 d2 hlt hlt0
  have hlt := S.out.lt
  have m0 := S.out.m0; have m1 := S.out.m1; have m2 := S.out.m2; have d0 := S.out.d0; have d1 := S.out.d1; have d2 := S.out.d2
  go_region_held3 (fun w' => w'.cell? ⟨B + 1, 0, none⟩ = some (.int .i64 5) ∧ w'.cell? ⟨B + 1, 1, none⟩ = some (.int .i64 4) ∧ w'.cell? ⟨B + 1, 2, none⟩ = some (.slice b 3 cb) ∧ Ext v17 w') (((try go_split_ands); (repeat' apply And.intro) <;> (first | (with_reducible assumption) | exact Ext.cell (w := v17) (by repeat (with_reducible first | assumption | exact Ext.refl _ | refine Ext.drew ?_ | refine Ext.drewN ?_ _ | refine Ext.alloc ?_ _ | (refine Ext.setCell ?_ ?sz _; case sz => (first | (simp; done) | (simp; omega))) | refine Ext.trans ?_ (by assumption))) (by assumption) | exact (by repeat (with_reducible first | assumption | exact Ext.refl _ | refine Ext.drew ?_ | refine Ext.drewN ?_ _ | refine Ext.alloc ?_ _ | (refine Ext.setCell ?_ ?sz _; case sz => (first | (simp; done) | (simp; omega))) | refine Ext.trans ?_ (by assumption)))))) (first | (go_at_call 63; refine (to_any 7 10 _).mono ?_; rintro e wt ⟨rfl, hEt⟩) | (go_at_call 42; refine (W18 b cb _ (S.out.p.ext (by repeat (with_reducible first | assumption | exact Ext.refl _ | refine Ext.drew ?_ | refine Ext.drewN ?_ _ | refine Ext.alloc ?_ _ | (refine Ext.setCell ?_ ?sz _; case sz => (first | (simp; done) | (simp; omega))) | refine Ext.trans ?_ (by assumption))))).mono ?_; rintro e w18 ⟨rfl, hE⟩))
  have x : Ext v17 w18 := (by repeat (with_reducible first | assumption | exact Ext.refl _ | refine Ext.drew ?_ | refine Ext.drewN ?_ _ | refine Ext.alloc ?_ _ | (refine Ext.setCell ?_ ?sz _; case sz => (first | (simp; done) | (simp; omega))) | refine Ext.trans ?_ (by assumption)))
  replace S := hid (S.out.ext x); replace X := hid (X.out.trans x)
  replace hK1 := hid (hK1.out.ext x)
  replace hK2 := hid (hK2.out.ext x)
  replace hK9 := hid (hK9.out.ext x)
  replace hK10 := hid (hK10.out.ext x)
  have t0 := x.cell t0; have t1 := x.cell t1
  clear x hE hEt m0 m1 m2 d0 d1 d2 hlt
  have hlt := S.out.lt
  have m0 := S.out.m0; have m1 := S.out.m1; have m2 := S.out.m2; have d0 := S.out.d0; have d1 := S.out.d1; have d2 := S.out.d2
  go_wp2_with fail
  go_region_held3 (fun w' => w'.cell? ⟨B + 1, 0, none⟩ = some (.int .i64 5) ∧ w'.cell? ⟨B + 1, 1, none⟩ = some (.int .i64 4) ∧ w'.cell? ⟨B + 1, 2, none⟩ = some (.slice b 3 cb) ∧ Ext w18 w') (((try go_split_ands); (repeat' apply And.intro) <;> (first | (with_reducible assumption) | exact Ext.cell (w := w18) (by repeat (with_reducible first | assumption | exact Ext.refl _ | refine Ext.drew ?_ | refine Ext.drewN ?_ _ | refine Ext.alloc ?_ _ | (refine Ext.setCell ?_ ?sz _; case sz => (first | (simp; done) | (simp; omega))) | refine Ext.trans ?_ (by assumption))) (by assumption) | exact (by repeat (with_reducible first | assumption | exact Ext.refl _ | refine Ext.drew ?_ | refine Ext.drewN ?_ _ | refine Ext.alloc ?_ _ | (refine Ext.setCell ?_ ?sz _; case sz => (first | (simp; done) | (simp; omega))) | refine Ext.trans ?_ (by assumption)))))) (first | (go_at_call 63; refine (to_any 9 12 _).mono ?_; rintro e wt ⟨rfl, hEt⟩) | (go_at_call 42; refine (W19 b cb _ (S.out.p.ext (by repeat (with_reducible first | assumption | exact Ext.refl _ | refine Ext.drew ?_ | refine Ext.drewN ?_ _ | refine Ext.alloc ?_ _ | (refine Ext.setCell ?_ ?sz _; case sz => (first | (simp; done) | (simp; omega))) | refine Ext.trans ?_ (by assumption))))).mono ?_; rintro e w19 ⟨rfl, hE⟩))
  have x : Ext w18 w19 := (by repeat (with_reducible first | assumption | exact Ext.refl _ | refine Ext.drew ?_ | refine Ext.drewN ?_ _ | refine Ext.alloc ?_ _ | (refine Ext.setCell ?_ ?sz _; case sz => (first | (simp; done) | (simp; omega))) | refine Ext.trans ?_ (by assumption)))
  replace S := hid (S.out.ext x); replace X := hid (X.out.trans x)
  replace hK1 := hid (hK1.out.ext x)
  replace hK2 := hid (hK2.out.ext x)
  replace hK9 := hid (hK9.out.ext x)
  replace hK10 := hid (hK10.out.ext x)
  have t0 := x.cell t0; have t1 := x.cell t1
  clear x hE hEt m0 m1 m2 d0 d1 d2 hlt
  have hlt := S.out.lt
  have m0 := S.out.m0; have m1 := S.out.m1; have m2 := S.out.m2; have d0 := S.out.d0; have d1 := S.out.d1; have d2 := S.out.d2
  go_wp2_with fail
  go_region_held3 (fun w' => w'.cell? ⟨B + 1, 0, none⟩ = some (.int .i64 5) ∧ w'.cell? ⟨B + 1, 1, none⟩ = some (.int .i64 4) ∧ w'.cell? ⟨B + 1, 2, none⟩ = some (.slice b 3 cb) ∧ Ext w19 w') (((try go_split_ands); (repeat' apply And.intro) <;> (first | (with_reducible assumption) | exact Ext.cell (w := w19) (by repeat (with_reducible first | assumption | exact Ext.refl _ | refine Ext.drew ?_ | refine Ext.drewN ?_ _ | refine Ext.alloc ?_ _ | (refine Ext.setCell ?_ ?sz _; case sz => (first | (simp; done) | (simp; omega))) | refine Ext.trans ?_ (by assumption))) (by assumption) | exact (by repeat (with_reducible first | assumption | exact Ext.refl _ | refine Ext.drew ?_ | refine Ext.drewN ?_ _ | refine Ext.alloc ?_ _ | (refine Ext.setCell ?_ ?sz _; case sz => (first | (simp; done) | (simp; omega))) | refine Ext.trans ?_ (by assumption)))))) (first | (go_at_call 63; refine (to_any 2 1 _).mono ?_; rintro e wt ⟨rfl, hEt⟩) | (go_at_call 42; refine (W20 b cb _ (S.out.p.ext (by repeat (with_reducible first | assumption | exact Ext.refl _ | refine Ext.drew ?_ | refine Ext.drewN ?_ _ | refine Ext.alloc ?_ _ | (refine Ext.setCell ?_ ?sz _; case sz => (first | (simp; done) | (simp; omega))) | refine Ext.trans ?_ (by assumption))))).mono ?_; rintro e w20 ⟨rfl, hE⟩))
  have x : Ext w19 w20 := (by repeat (with_reducible first | assumption | exact Ext.refl _ | refine Ext.drew ?_ | refine Ext.drewN ?_ _ | refine Ext.alloc ?_ _ | (refine Ext.setCell ?_ ?sz _; case sz => (first | (simp; done) | (simp; omega))) | refine Ext.trans ?_ (by assumption)))
  replace S := hid (S.out.ext x); replace X := hid (X.out.trans x)
  replace hK1 := hid (hK1.out.ext x)
  replace hK2 := hid (hK2.out.ext x)
  replace hK9 := hid (hK9.out.ext x)
  replace hK10 := hid (hK10.out.ext x)
  have t0 := x.cell t0; have t1 := x.cell t1
  clear x hE hEt m0 m1 m2 d0 d1 d2 hlt
  have hlt := S.out.lt
  have m0 := S.out.m0; have m1 := S.out.m1; have m2 := S.out.m2; have d0 := S.out.d0; have d1 := S.out.d1; have d2 := S.out.d2
  go_wp2_with fail
  go_region_held3 (fun w' => w'.cell? ⟨B + 1, 0, none⟩ = some (.int .i64 5) ∧ w'.cell? ⟨B + 1, 1, none⟩ = some (.int .i64 4) ∧ w'.cell? ⟨B + 1, 2, none⟩ = some (.slice b 3 cb) ∧ Ext w20 w') (((try go_split_ands); (repeat' apply And.intro) <;> (first | (with_reducible assumption) | exact Ext.cell (w := w20) (by repeat (with_reducible first | assumption | exact Ext.refl _ | refine Ext.drew ?_ | refine Ext.drewN ?_ _ | refine Ext.alloc ?_ _ | (refine Ext.setCell ?_ ?sz _; case sz => (first | (simp; done) | (simp; omega))) | refine Ext.trans ?_ (by assumption))) (by assumption) | exact (by repeat (with_reducible first | assumption | exact Ext.refl _ | refine Ext.drew ?_ | refine Ext.drewN ?_ _ | refine Ext.alloc ?_ _ | (refine Ext.setCell ?_ ?sz _; case sz => (first | (simp; done) | (simp; omega))) | refine Ext.trans ?_ (by assumption)))))) (first | (go_at_call 63; refine (to_any 11 12 _).mono ?_; rintro e wt ⟨rfl, hEt⟩) | (go_at_call 46; refine (W21 b cb _ (S.out.p.ext (by repeat (with_reducible first | assumption | exact Ext.refl _ | refine Ext.drew ?_ | refine Ext.drewN ?_ _ | refine Ext.alloc ?_ _ | (refine Ext.setCell ?_ ?sz _; case sz => (first | (simp; done) | (simp; omega))) | refine Ext.trans ?_ (by assumption))))).mono ?_; rintro e w21 ⟨rfl, hE⟩))
  have x : Ext w20 w21 := (by repeat (with_reducible first | assumption | exact Ext.refl _ | refine Ext.drew ?_ | refine Ext.drewN ?_ _ | refine Ext.alloc ?_ _ | (refine Ext.setCell ?_ ?sz _; case sz => (first | (simp; done) | (simp; omega))) | refine Ext.trans ?_ (by assumption)))
  replace S := hid (S.out.ext x); replace X := hid (X.out.trans x)
  replace hK1 := hid (hK1.out.ext x)
  replace hK2 := hid (hK2.out.ext x)
  replace hK9 := hid (hK9.out.ext x)
  replace hK10 := hid (hK10.out.ext x)
  have t0 := x.cell t0; have t1 := x.cell t1
  clear x hE hEt m0 m1 m2 d0 d1 d2 hlt
  have hlt := S.out.lt
  have m0 := S.out.m0; have m1 := S.out.m1; have m2 := S.out.m2; have d0 := S.out.d0; have d1 := S.out.d1; have d2 := S.out.d2
  go_wp2_with fail
  go_region_held3 (fun w' => w'.cell? ⟨B + 1, 0, none⟩ = some (.int .i64 5) ∧ w'.cell? ⟨B + 1, 1, none⟩ = some (.int .i64 4) ∧ w'.cell? ⟨B + 1, 2, none⟩ = some (.slice b 3 cb) ∧ Ext w21 w') (((try go_split_ands); (repeat' apply And.intro) <;> (first | (with_reducible assumption) | exact Ext.cell (w := w21) (by repeat (with_reducible first | assumption | exact Ext.refl _ | refine Ext.drew ?_ | refine Ext.drewN ?_ _ | refine Ext.alloc ?_ _ | (refine Ext.setCell ?_ ?sz _; case sz => (first | (simp; done) | (simp; omega))) | refine Ext.trans ?_ (by assumption))) (by assumption) | exact (by repeat (with_reducible first | assumption | exact Ext.refl _ | refine Ext.drew ?_ | refine Ext.drewN ?_ _ | refine Ext.alloc ?_ _ | (refine Ext.setCell ?_ ?sz _; case sz => (first | (simp; done) | (simp; omega))) | refine Ext.trans ?_ (by assumption)))))) (first | (go_at_call 63; refine (to_any 7 10 _).mono ?_; rintro e wt ⟨rfl, hEt⟩) | (go_at_call 47; refine (W22 b cb _ (S.out.p.ext (by repeat (with_reducible first | assumption | exact Ext.refl _ | refine Ext.drew ?_ | refine Ext.drewN ?_ _ | refine Ext.alloc ?_ _ | (refine Ext.setCell ?_ ?sz _; case sz => (first | (simp; done) | (simp; omega))) | refine Ext.trans ?_ (by assumption))))).mono ?_; rintro e w22 ⟨rfl, hE⟩))
  have x : Ext w21 w22 := (by repeat (with_reducible first | assumption | exact Ext.refl _ | refine Ext.drew ?_ | refine Ext.drewN ?_ _ | refine Ext.alloc ?_ _ | (refine Ext.setCell ?_ ?sz _; case sz => (first | (simp; done) | (simp; omega))) | refine Ext.trans ?_ (by assumption)))
  replace S := hid (S.out.ext x); replace X := hid (X.out.trans x)
  replace hK1 := hid (hK1.out.ext x)
  replace hK2 := hid (hK2.out.ext x)
  replace hK9 := hid (hK9.out.ext x)
  replace hK10 := hid (hK10.out.ext x)
  have t0 := x.cell t0; have t1 := x.cell t1
  clear x hE hEt m0 m1 m2 d0 d1 d2 hlt
  have hlt := S.out.lt
  have m0 := S.out.m0; have m1 := S.out.m1; have m2 := S.out.m2; have d0 := S.out.d0; have d1 := S.out.d1; have d2 := S.out.d2
  go_wp2_with fail
  simp only [List.append_eq, List.cons_append, List.nil_append]
  go_region_held3 (fun w' => w'.cell? ⟨C, 0, none⟩ = some (.int .i64 7) ∧ w'.cell? ⟨C, 1, none⟩ = some (.int .i64 10) ∧ Ext w22 w') (((try go_split_ands); (repeat' apply And.intro) <;> (first | (with_reducible assumption) | exact Ext.cell (w := w22) (by repeat (with_reducible first | assumption | exact Ext.refl _ | refine Ext.drew ?_ | refine Ext.drewN ?_ _ | refine Ext.alloc ?_ _ | (refine Ext.setCell ?_ ?sz _; case sz => (first | (simp; done) | (simp; omega))) | refine Ext.trans ?_ (by assumption))) (by assumption) | exact (by repeat (with_reducible first | assumption | exact Ext.refl _ | refine Ext.drew ?_ | refine Ext.drewN ?_ _ | refine Ext.alloc ?_ _ | (refine Ext.setCell ?_ ?sz _; case sz => (first | (simp; done) | (simp; omega))) | refine Ext.trans ?_ (by assumption)))))) (first | (go_at_call 59; ((with_reducible refine (longs_any _ _).mono ?_); rintro e wl ⟨rfl, rfl⟩)) | (go_at_call 66; ((with_reducible refine (pairs_any _ _).mono ?_); rintro e wl ⟨rfl, rfl⟩)) | (go_at_call 63; ((with_reducible refine (to_any 7 10 _).mono ?_); rintro e wt ⟨rfl, hEt⟩)) | (go_at_call 29; ((with_reducible refine (longs3_any a1 _ c1 _ 4 1 4 _ ?ka ?kb).mono ?_); (case ka => exact hK1.out.ext (by repeat (with_reducible first | assumption | exact Ext.refl _ | refine Ext.drew ?_ | refine Ext.drewN ?_ _ | refine Ext.alloc ?_ _ | (refine Ext.setCell ?_ ?sz _; case sz => (first | (simp; done) | (simp; omega))) | refine Ext.trans ?_ (by assumption)))); (case kb => exact ints3 (by simp)); rintro e wL1 ⟨rfl, hL1⟩)) | (go_at_call 29; ((with_reducible refine (longs3_any a2 _ c2 _ 4 0 2 _ ?kc ?kd).mono ?_); (case kc => exact hK2.out.ext (by repeat (with_reducible first | assumption | exact Ext.refl _ | refine Ext.drew ?_ | refine Ext.drewN ?_ _ | refine Ext.alloc ?_ _ | (refine Ext.setCell ?_ ?sz _; case sz => (first | (simp; done) | (simp; omega))) | refine Ext.trans ?_ (by assumption)))); (case kd => exact ints3 (by simp)); rintro e wL2 ⟨rfl, hL2⟩)) | (go_at_call 30; ((with_reducible refine (pairs1_any a9 _ c9 _ (0, 2) _ ?ke ?kf).mono ?_); (case ke => exact hK9.out.ext (by repeat (with_reducible first | assumption | exact Ext.refl _ | refine Ext.drew ?_ | refine Ext.drewN ?_ _ | refine Ext.alloc ?_ _ | (refine Ext.setCell ?_ ?sz _; case sz => (first | (simp; done) | (simp; omega))) | refine Ext.trans ?_ (by assumption)))); (case kf => exact prs1 (by simp)); rintro e wL3 ⟨rfl, hL3⟩)) | (go_at_call 30; ((with_reducible refine (pairs2_any a10 _ c10 _ (0, 0) (2, 2) _ ?kg ?kh).mono ?_); (case kg => exact hK10.out.ext (by repeat (with_reducible first | assumption | exact Ext.refl _ | refine Ext.drew ?_ | refine Ext.drewN ?_ _ | refine Ext.alloc ?_ _ | (refine Ext.setCell ?_ ?sz _; case sz => (first | (simp; done) | (simp; omega))) | refine Ext.trans ?_ (by assumption)))); (case kh => exact prs2 (by simp)); rintro e wL4 ⟨rfl, hL4⟩)))
  all_goals
    go_wp2_with fail
    go_ret
    exact ⟨ret_bool (by simp), X.out.trans (by repeat (with_reducible first | assumption | exact Ext.refl _ | refine Ext.drew ?_ | refine Ext.drewN ?_ _ | refine Ext.alloc ?_ _ | (refine Ext.setCell ?_ ?sz _; case sz => (first | (simp; done) | (simp; omega))) | refine Ext.trans ?_ (by assumption)))⟩

end Go.Proofs.Ytogglbhidlnijaa
