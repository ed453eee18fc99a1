/- The laws' examples: porringerlaw05.Works. (Printed by wip/genworks.py.) -/
import Derived.Test.YtogglbhidlnijaaLawA
namespace Go.Proofs.Ytogglbhidlnijaa
set_option linter.unusedVariables false
set_option linter.unusedSimpArgs false
set_option linter.unusedSectionVars false
set_option linter.unnecessarySimpa false
open Go Go.RowKit
set_option maxRecDepth 100000

theorem fitM : Fit mM := ⟨⟨by decide, by decide⟩, ⟨by decide, by decide⟩, fun i => by
  match i with
  | 0 => exact ⟨by decide, by decide⟩
  | 1 => exact ⟨by decide, by decide⟩
  | 2 => exact ⟨by decide, by decide⟩
  | i + 3 => simp [mM, nth, I64]⟩
theorem fitDD : FitD dD := ⟨⟨by decide, by decide⟩, ⟨by decide, by decide⟩, fun i => by
  match i with
  | 0 => exact ⟨by decide, by decide⟩
  | 1 => exact ⟨by decide, by decide⟩
  | 2 => exact ⟨by decide, by decide⟩
  | i + 3 => simp [dD, pa, I64], fun i => by
  match i with
  | 0 => exact ⟨by decide, by decide⟩
  | 1 => exact ⟨by decide, by decide⟩
  | 2 => exact ⟨by decide, by decide⟩
  | i + 3 => simp [dD, pb, I64]⟩

theorem ints3 {w : World} {x y z : Int} {t : TypeId} {n : Nat} (h : n = w.heap.size) : Ints (w.alloc (.cells #[.int .i64 x, .int .i64 y, .int .i64 z] t)) (some ⟨n, 0, none⟩) [x, y, z] := by
  subst h
  intro i hi
  refine ⟨_, _, rfl, ?_⟩
  match i, (show i < 3 by simpa using hi) with
  | 0, _ => simp [go_sem, nth]
  | 1, _ => simp [go_sem, nth]
  | 2, _ => simp [go_sem, nth]
theorem prs3 {w : World} {x y z x2 y2 z2 : Int} {t : TypeId} {n : Nat} (h : n = w.heap.size) : Prs (w.alloc (.cells #[.int .i64 x, .int .i64 x2, .int .i64 y, .int .i64 y2, .int .i64 z, .int .i64 z2] t)) (some ⟨n, 0, none⟩) [(x, x2), (y, y2), (z, z2)] := by
  subst h
  intro i hi
  match i, (show i < 3 by simpa using hi) with
  | 0, _ => exact ⟨_, _, rfl, by simp [go_sem, pa], by simp [go_sem, pb]⟩
  | 1, _ => exact ⟨_, _, rfl, by simp [go_sem, pa], by simp [go_sem, pb]⟩
  | 2, _ => exact ⟨_, _, rfl, by simp [go_sem, pa], by simp [go_sem, pb]⟩

theorem measureX_any (w : World) : Calls Try.prog 64 #[] w fun e w' => ∃ a cap, e = .returned (.agg #[.int .i64 5, .int .i64 4, .slice a 3 cap]) ∧ Ints w' a mM.hs ∧ Ext w w' := by
  go_enter Try.func64, Try.ntmps64
  go_wp2_with fail
  refine (measureL_any 5 4 _ 3 3 _).mono ?_; rintro e w1 ⟨rfl, hE⟩
  have c0 := hE.cell (p := ⟨w.heap.size, 0, none⟩) (v := .int .i64 0) (by simp [go_sem])
  have c1 := hE.cell (p := ⟨w.heap.size, 1, none⟩) (v := .int .i64 0) (by simp [go_sem])
  have c2 := hE.cell (p := ⟨w.heap.size, 2, none⟩) (v := .slice none 0 0) (by simp [go_sem])
  have f0 : w1.frozen? ⟨w.heap.size, 0, none⟩ = false := (hE.frozen (by simp; omega)).trans (by simp [go_sem])
  have f1 : w1.frozen? ⟨w.heap.size, 1, none⟩ = false := (hE.frozen (by simp; omega)).trans (by simp [go_sem])
  have f2 : w1.frozen? ⟨w.heap.size, 2, none⟩ = false := (hE.frozen (by simp; omega)).trans (by simp [go_sem])
  have hI : Ints w1 (some ⟨w.heap.size + 1, 0, none⟩) [0, 3, 0] := Ints.ext (ints3 (by simp)) hE
  have x1 : Ext w w1 := (by repeat (with_reducible first | assumption | exact Ext.refl _ | refine Ext.drew ?_ | refine Ext.drewN ?_ _ | refine Ext.alloc ?_ _ | (refine Ext.setCell ?_ ?sz _; case sz => (first | (simp; done) | (simp; omega))) | refine Ext.trans ?_ (by assumption)))
  replace hI := hid hI
  go_wp2_with fail
  refine bodyPost_ret (v := .agg #[.int .i64 5, .int .i64 4, .slice (some ⟨w.heap.size + 1, 0, none⟩) 3 3]) ?_ rfl ?_
  · simp [results, Try.results64, go_sem, *]
  · exact ⟨_, 3, rfl, ((hI.out.put (by simp) _).put (by simp) _).put (by simp) _, ((x1.setCell (by simp) _).setCell (by simp) _).setCell (by simp) _⟩

theorem Prs.put {w : World} {b off : Nat} {l : List (Int × Int)} (h : Prs w (some ⟨b, off, none⟩) l) {p : Addr} (hne : p.block ≠ b) (v : Value) : Prs (w.setCell p v) (some ⟨b, off, none⟩) l := by
  intro i hi
  obtain ⟨b', off', e, h1, h2⟩ := h i hi
  cases e
  refine ⟨b, off, rfl, ?_, ?_⟩
  · rw [← h1]; exact World.cell?_of_block (Below.heap_setCell w p v b (Ne.symm hne))
  · rw [← h2]; exact World.cell?_of_block (Below.heap_setCell w p v b (Ne.symm hne))

theorem dentedX_any (w : World) : Calls Try.prog 65 #[] w fun e w' => ∃ a cap, e = .returned (.agg #[.int .i64 5, .int .i64 4, .slice a 3 cap]) ∧ Prs w' a dD.rs ∧ Ext w w' := by
  go_enter Try.func65, Try.ntmps65
  go_wp2_with fail
  refine (to_any _ _ _).mono ?_; rintro e w1 ⟨rfl, hE⟩
  go_wp2_with fail
  refine (to_any _ _ _).mono ?_; rintro e w2 ⟨rfl, hE2⟩
  go_wp2_with fail
  refine (to_any _ _ _).mono ?_; rintro e w3 ⟨rfl, hE3⟩
  have x1 : Ext (w.alloc (.cells #[.int .i64 0, .int .i64 0, .slice none 0 0] 50)) w3 := (by repeat (with_reducible first | assumption | exact Ext.refl _ | refine Ext.drew ?_ | refine Ext.drewN ?_ _ | refine Ext.alloc ?_ _ | (refine Ext.setCell ?_ ?sz _; case sz => (first | (simp; done) | (simp; omega))) | refine Ext.trans ?_ (by assumption)))
  clear hE hE2 hE3
  have c0 := x1.cell (p := ⟨w.heap.size, 0, none⟩) (v := .int .i64 0) (by simp [go_sem])
  have c1 := x1.cell (p := ⟨w.heap.size, 1, none⟩) (v := .int .i64 0) (by simp [go_sem])
  have c2 := x1.cell (p := ⟨w.heap.size, 2, none⟩) (v := .slice none 0 0) (by simp [go_sem])
  have f0 : w3.frozen? ⟨w.heap.size, 0, none⟩ = false := (x1.frozen (by simp)).trans (by simp [go_sem])
  have f1 : w3.frozen? ⟨w.heap.size, 1, none⟩ = false := (x1.frozen (by simp)).trans (by simp [go_sem])
  have f2 : w3.frozen? ⟨w.heap.size, 2, none⟩ = false := (x1.frozen (by simp)).trans (by simp [go_sem])
  have hz : w.heap.size < w3.heap.size := by have := x1.size; simp at this; omega
  have x2 : Ext w w3 := (by repeat (with_reducible first | assumption | exact Ext.refl _ | refine Ext.drew ?_ | refine Ext.drewN ?_ _ | refine Ext.alloc ?_ _ | (refine Ext.setCell ?_ ?sz _; case sz => (first | (simp; done) | (simp; omega))) | refine Ext.trans ?_ (by assumption)))
  clear x1
  go_wp2_with fail
  refine bodyPost_ret (v := .agg #[.int .i64 5, .int .i64 4, .slice (some ⟨w3.heap.size, 0, none⟩) 3 3]) ?_ rfl ?_
  · simp [results, Try.results65, go_sem, *]
  · exact ⟨_, 3, rfl, by first | exact prs3 (by simp) | exact (((prs3 (by simp)).put (by simp; omega) _).put (by simp; omega) _).put (by simp; omega) _, (by repeat (with_reducible first | assumption | exact Ext.refl _ | refine Ext.drew ?_ | refine Ext.drewN ?_ _ | refine Ext.alloc ?_ _ | (refine Ext.setCell ?_ ?sz _; case sz => (first | (simp; done) | (simp; omega))) | refine Ext.trans ?_ (by assumption)))⟩


theorem W1 (a : Option Addr) (cap : Nat) (w : World) (hI : Ints w a mM.hs) : Calls Try.prog 19 #[(.agg #[.int .i64 5, .int .i64 4, .slice a 3 cap]), .int .i64 0] w (RetIntsP [4, 1, 4] 0 w) := by
  have h := depths_any mM fitM a cap 0 w hI (by decide) ⟨by decide, by decide⟩
  rw [show depthsOf mM 0 = [4, 1, 4] from by decide, show tlt mM 0 = 0 from by decide] at h
  exact h
theorem W2 (a : Option Addr) (cap : Nat) (w : World) (hI : Ints w a mM.hs) : Calls Try.prog 19 #[(.agg #[.int .i64 5, .int .i64 4, .slice a 3 cap]), .int .i64 1] w (RetIntsP [4, 0, 2] 0 w) := by
  have h := depths_any mM fitM a cap 1 w hI (by decide) ⟨by decide, by decide⟩
  rw [show depthsOf mM 1 = [4, 0, 2] from by decide, show tlt mM 1 = 0 from by decide] at h
  exact h
theorem W3 (a : Option Addr) (cap : Nat) (w : World) (hI : Ints w a mM.hs) : Calls Try.prog 19 #[(.agg #[.int .i64 5, .int .i64 4, .slice a 3 cap]), .int .i64 21] w (RetIntsP [] 3 w) := by
  have h := depths_any mM fitM a cap 21 w hI (by decide) ⟨by decide, by decide⟩
  rw [show depthsOf mM 21 = [] from by decide, show tlt mM 21 = 3 from by decide] at h
  exact h
theorem W4 (a : Option Addr) (cap : Nat) (w : World) (hI : Ints w a mM.hs) : Calls Try.prog 21 #[(.agg #[.int .i64 5, .int .i64 4, .slice a 3 cap]), .int .i64 (-1)] w fun e w' => e = .returned (.tuple #[.int .i64 5, .int .i64 0]) ∧ Ext w w' := by
  have h := holds_any mM fitM a cap (-1) w hI (by decide) ⟨by decide, by decide⟩
  rw [show holdsOf mM (-1) = 5 from by decide, show tlt mM (-1) = 0 from by decide] at h
  exact h
theorem W5 (a : Option Addr) (cap : Nat) (w : World) (hI : Ints w a mM.hs) : Calls Try.prog 23 #[(.agg #[.int .i64 5, .int .i64 4, .slice a 3 cap]), .int .i64 0, .int .i64 0] w fun e w' => e = .returned (.tuple #[.int .i64 2, .int .i64 0]) ∧ Ext w w' := by
  have h := over_any mM fitM a cap 0 0 w hI (by decide) ⟨by decide, by decide⟩ ⟨by decide, by decide⟩
  rw [show overOf mM 0 0 = 2 from by decide, show overE mM 0 0 = 0 from by decide] at h
  exact h
theorem W6 (a : Option Addr) (cap : Nat) (w : World) (hI : Ints w a mM.hs) : Calls Try.prog 23 #[(.agg #[.int .i64 5, .int .i64 4, .slice a 3 cap]), .int .i64 1, .int .i64 0] w fun e w' => e = .returned (.tuple #[.int .i64 1, .int .i64 0]) ∧ Ext w w' := by
  have h := over_any mM fitM a cap 1 0 w hI (by decide) ⟨by decide, by decide⟩ ⟨by decide, by decide⟩
  rw [show overOf mM 1 0 = 1 from by decide, show overE mM 1 0 = 0 from by decide] at h
  exact h
theorem W7 (a : Option Addr) (cap : Nat) (w : World) (hI : Ints w a mM.hs) : Calls Try.prog 23 #[(.agg #[.int .i64 5, .int .i64 4, .slice a 3 cap]), .int .i64 1, .int .i64 1] w fun e w' => e = .returned (.tuple #[.int .i64 0, .int .i64 5]) ∧ Ext w w' := by
  have h := over_any mM fitM a cap 1 1 w hI (by decide) ⟨by decide, by decide⟩ ⟨by decide, by decide⟩
  rw [show overOf mM 1 1 = 0 from by decide, show overE mM 1 1 = 5 from by decide] at h
  exact h
theorem W8 (a : Option Addr) (cap : Nat) (w : World) (hI : Ints w a mM.hs) : Calls Try.prog 23 #[(.agg #[.int .i64 5, .int .i64 4, .slice a 3 cap]), .int .i64 0, .int .i64 3] w fun e w' => e = .returned (.tuple #[.int .i64 0, .int .i64 2]) ∧ Ext w w' := by
  have h := over_any mM fitM a cap 0 3 w hI (by decide) ⟨by decide, by decide⟩ ⟨by decide, by decide⟩
  rw [show overOf mM 0 3 = 0 from by decide, show overE mM 0 3 = 2 from by decide] at h
  exact h
theorem W9 (a : Option Addr) (cap : Nat) (w : World) (hI : Ints w a mM.hs) : Calls Try.prog 25 #[(.agg #[.int .i64 5, .int .i64 4, .slice a 3 cap]), .int .i64 0] w (RetPrsP [(0, 2)] 0 w) := by
  have h := pools_any mM fitM a cap 0 w hI (by decide) ⟨by decide, by decide⟩
  rw [show poolsOf mM 0 = [(0, 2)] from by decide, show tlt mM 0 = 0 from by decide] at h
  exact h
theorem W10 (a : Option Addr) (cap : Nat) (w : World) (hI : Ints w a mM.hs) : Calls Try.prog 25 #[(.agg #[.int .i64 5, .int .i64 4, .slice a 3 cap]), .int .i64 1] w (RetPrsP [(0, 0), (2, 2)] 0 w) := by
  have h := pools_any mM fitM a cap 1 w hI (by decide) ⟨by decide, by decide⟩
  rw [show poolsOf mM 1 = [(0, 0), (2, 2)] from by decide, show tlt mM 1 = 0 from by decide] at h
  exact h
theorem W11 (a : Option Addr) (cap : Nat) (w : World) (hI : Ints w a mM.hs) : Calls Try.prog 33 #[(.agg #[.int .i64 5, .int .i64 4, .slice a 3 cap]), .int .i64 (-1), .int .i64 0] w fun e w' => e = .returned (.tuple #[.int .i64 (-1), .int .i64 1, .int .i64 0]) ∧ Ext w w' := by
  have h := walls_any mM fitM a cap (-1) 0 w hI (by decide) ⟨by decide, by decide⟩ ⟨by decide, by decide⟩
  rw [show wallLOf mM (-1) 0 = -1 from by decide, show wallROf mM (-1) 0 = 1 from by decide, show plc mM (-1) 0 = 0 from by decide] at h
  exact h
theorem W12 (a : Option Addr) (cap : Nat) (w : World) (hI : Ints w a mM.hs) : Calls Try.prog 31 #[(.agg #[.int .i64 5, .int .i64 4, .slice a 3 cap]), .int .i64 0, .int .i64 1, .int .i64 0, .int .i64 2] w fun e w' => e = .returned (.tuple #[.int .i64 (-3), .int .i64 0]) ∧ Ext w w' := by
  have h := checkWalls_any mM fitM a cap 0 1 0 2 w hI (by decide) ⟨by decide, by decide⟩ ⟨by decide, by decide⟩ ⟨by decide, by decide⟩ ⟨by decide, by decide⟩
  rw [show provedOf mM 0 1 0 2 = -3 from by decide, show wallsE mM 0 1 0 2 = 0 from by decide] at h
  exact h
theorem W13 (a : Option Addr) (cap : Nat) (w : World) (hI : Ints w a mM.hs) : Calls Try.prog 31 #[(.agg #[.int .i64 5, .int .i64 4, .slice a 3 cap]), .int .i64 0, .int .i64 1, .int .i64 2, .int .i64 2] w fun e w' => e = .returned (.tuple #[.int .i64 0, .int .i64 2]) ∧ Ext w w' := by
  have h := checkWalls_any mM fitM a cap 0 1 2 2 w hI (by decide) ⟨by decide, by decide⟩ ⟨by decide, by decide⟩ ⟨by decide, by decide⟩ ⟨by decide, by decide⟩
  rw [show provedOf mM 0 1 2 2 = 0 from by decide, show wallsE mM 0 1 2 2 = 2 from by decide] at h
  exact h
theorem W14 (a : Option Addr) (cap : Nat) (w : World) (hI : Ints w a mM.hs) : Calls Try.prog 35 #[(.agg #[.int .i64 5, .int .i64 4, .slice a 3 cap]), .int .i64 0, .int .i64 1, .int .i64 2] w fun e w' => e = .returned (.tuple #[.int .i64 1, .int .i64 0]) ∧ Ext w w' := by
  have h := checkOut_any mM fitM a cap 0 1 2 w hI (by decide) ⟨by decide, by decide⟩ ⟨by decide, by decide⟩
  rw [show outOf mM 0 1 2 = 1 from by decide, show outE mM 0 1 2 = 0 from by decide] at h
  exact h
theorem W15 (a : Option Addr) (cap : Nat) (w : World) (hI : Ints w a mM.hs) : Calls Try.prog 35 #[(.agg #[.int .i64 5, .int .i64 4, .slice a 3 cap]), .int .i64 0, .int .i64 1, .int .i64 3] w fun e w' => e = .returned (.tuple #[.int .i64 0, .int .i64 2]) ∧ Ext w w' := by
  have h := checkOut_any mM fitM a cap 0 1 3 w hI (by decide) ⟨by decide, by decide⟩ ⟨by decide, by decide⟩
  rw [show outOf mM 0 1 3 = 0 from by decide, show outE mM 0 1 3 = 2 from by decide] at h
  exact h
theorem W16 (a : Option Addr) (cap : Nat) (w : World) (hI : Ints w a mM.hs) : Calls Try.prog 37 #[(.agg #[.int .i64 5, .int .i64 4, .slice a 3 cap]), .int .i64 0] w fun e w' => e = .returned (.tuple #[.int .i64 1, .int .i64 3, .int .i64 0]) ∧ Ext w w' := by
  have h := best_any mM fitM a cap 0 w hI (by decide) ⟨by decide, by decide⟩
  rw [show bestOf mM 0 = 1 from by decide, show moreOf mM 0 = 3 from by decide, show tlt mM 0 = 0 from by decide] at h
  exact h
theorem W17 (a : Option Addr) (cap : Nat) (w : World) (hP : Prs w a dD.rs) : Calls Try.prog 40 #[(.agg #[.int .i64 5, .int .i64 4, .slice a 3 cap]), .int .i64 0] w fun e w' => e = .returned (.tuple #[.agg #[.int .i64 7, .int .i64 10], .int .i64 0]) ∧ Ext w w' := by
  have h := span_any dD fitDD a cap 0 w hP (by decide) ⟨by decide, by decide⟩
  rw [show spanLoOf dD 0 = 7 from by decide, show spanHiOf dD 0 = 10 from by decide, show dtd dD 0 = 0 from by decide] at h
  exact h
theorem W18 (a : Option Addr) (cap : Nat) (w : World) (hP : Prs w a dD.rs) : Calls Try.prog 42 #[(.agg #[.int .i64 5, .int .i64 4, .slice a 3 cap]), .int .i64 0, .agg #[.int .i64 7, .int .i64 10]] w fun e w' => e = .returned (.tuple #[.int .i64 2, .int .i64 0]) ∧ Ext w w' := by
  have h := seal_any dD fitDD a cap 0 7 10 w hP (by decide) ⟨by decide, by decide⟩ ⟨by decide, by decide⟩ ⟨by decide, by decide⟩
  rw [show sealOf dD 0 7 10 = 2 from by decide, show ask dD 0 7 10 = 0 from by decide] at h
  exact h
theorem W19 (a : Option Addr) (cap : Nat) (w : World) (hP : Prs w a dD.rs) : Calls Try.prog 42 #[(.agg #[.int .i64 5, .int .i64 4, .slice a 3 cap]), .int .i64 0, .agg #[.int .i64 9, .int .i64 12]] w fun e w' => e = .returned (.tuple #[.int .i64 1, .int .i64 0]) ∧ Ext w w' := by
  have h := seal_any dD fitDD a cap 0 9 12 w hP (by decide) ⟨by decide, by decide⟩ ⟨by decide, by decide⟩ ⟨by decide, by decide⟩
  rw [show sealOf dD 0 9 12 = 1 from by decide, show ask dD 0 9 12 = 0 from by decide] at h
  exact h
theorem W20 (a : Option Addr) (cap : Nat) (w : World) (hP : Prs w a dD.rs) : Calls Try.prog 42 #[(.agg #[.int .i64 5, .int .i64 4, .slice a 3 cap]), .int .i64 0, .agg #[.int .i64 2, .int .i64 1]] w fun e w' => e = .returned (.tuple #[.int .i64 0, .int .i64 3]) ∧ Ext w w' := by
  have h := seal_any dD fitDD a cap 0 2 1 w hP (by decide) ⟨by decide, by decide⟩ ⟨by decide, by decide⟩ ⟨by decide, by decide⟩
  rw [show sealOf dD 0 2 1 = 0 from by decide, show ask dD 0 2 1 = 3 from by decide] at h
  exact h
theorem W21 (a : Option Addr) (cap : Nat) (w : World) (hP : Prs w a dD.rs) : Calls Try.prog 46 #[(.agg #[.int .i64 5, .int .i64 4, .slice a 3 cap]), .int .i64 0, .agg #[.int .i64 11, .int .i64 12]] w fun e w' => e = .returned (.tuple #[.slice none 0 0, .int .i64 20]) ∧ Ext w w' := by
  refine (right_any dD fitDD a cap 0 11 12 w hP (by decide) ⟨by decide, by decide⟩ ⟨by decide, by decide⟩ ⟨by decide, by decide⟩).mono ?_
  rintro e w1 ⟨hE, h⟩
  rw [show rightE dD 0 11 12 = 20 from by decide] at h
  rcases h with ⟨_, rfl⟩ | ⟨h, _⟩
  · exact ⟨rfl, hE⟩
  · exact absurd h (by decide)
theorem W22 (a : Option Addr) (cap : Nat) (w : World) (hP : Prs w a dD.rs) : Calls Try.prog 47 #[(.agg #[.int .i64 5, .int .i64 4, .slice a 3 cap]), .int .i64 0, .agg #[.int .i64 7, .int .i64 10]] w fun e w' => e = .returned (.tuple #[.slice none 0 0, .int .i64 5]) ∧ Ext w w' := by
  refine (wrong_any dD fitDD a cap 0 7 10 w hP (by decide) ⟨by decide, by decide⟩ ⟨by decide, by decide⟩ ⟨by decide, by decide⟩).mono ?_
  rintro e w1 ⟨hE, h⟩
  rw [show wrongE dD 0 7 10 = 5 from by decide] at h
  rcases h with ⟨_, rfl⟩ | ⟨h, _⟩
  · exact ⟨rfl, hE⟩
  · exact absurd h (by decide)

end Go.Proofs.Ytogglbhidlnijaa
