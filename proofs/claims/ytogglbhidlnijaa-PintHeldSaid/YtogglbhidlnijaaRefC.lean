/- The reference's functions with errors: walls, ways out, lists of depths. -/
import Derived.Test.YtogglbhidlnijaaRefB
namespace Go.Proofs.Ytogglbhidlnijaa
set_option linter.unusedVariables false
set_option linter.unusedSimpArgs false
set_option linter.unusedSectionVars false
set_option linter.unnecessarySimpa false
open Go Go.RowKit

set_option maxHeartbeats 400000 in
theorem checkWallsR_any (m : Meas) (q : Fit m) (a : Option Addr) (cap : Nat) (t i l r : Int) (w : World) (hI : Ints w a m.hs) (hl : m.hs.length ≤ 1000) :
    Calls Try.prog 32 #[(.agg #[.int .i64 m.L, .int .i64 m.R, .slice a m.hs.length cap]), .int .i64 t, .int .i64 i, .int .i64 l, .int .i64 r] w fun e w' => e = .returned (.tuple #[.int .i64 (provedOf m t i l r), .int .i64 (wallsE m t i l r)]) ∧ Ext w w' := by
  have hB := (Ext.refl w).alloc (.cells #[.int .i64 m.L, .int .i64 m.R, .slice a m.hs.length cap] 24)
  by_cases g : plc m t i = 0
  · have g0 : (plc m t i != 0) = false := by simp [g]
    obtain ⟨k, i0, i1⟩ := plc_ok.1 g
    by_cases c : l < -1 ∨ i < l ∨ r < i ∨ (m.hs.length : Int) < r
    · have H1 : wallsE m t i l r = 2 := by unfold wallsE; rw [if_neg (by simpa using g), if_pos c]
      have H2 := hid (show provedOf m t i l r = 0 by unfold provedOf; rw [if_neg (by simp [H1])])
      replace H1 := hid H1
      clear g
      have c : l < -1 ∨ (-1 ≤ l ∧ i < l) ∨ (-1 ≤ l ∧ l ≤ i ∧ r < i) ∨ (-1 ≤ l ∧ l ≤ i ∧ i ≤ r ∧ (m.hs.length : Int) < r) := by omega
      rcases c with c | ⟨c, d⟩ | ⟨c, d, e⟩ | ⟨c, d, e, f⟩
      all_goals
        go_enter Try.func32, Try.ntmps32
        go_wp2_with fail
        (refine (placedR_any m q a cap t i _ (by first | assumption | exact Ints.ext hI (by repeat (with_reducible first | assumption | exact Ext.refl _ | refine Ext.drew ?_ | refine Ext.drewN ?_ _ | refine Ext.alloc ?_ _ | (refine Ext.setCell ?_ ?sz _; case sz => (first | (simp; done) | (simp; omega))) | refine Ext.trans ?_ (by assumption)))) hl).mono ?_; rintro e w1 ⟨rfl, hE⟩; obtain ⟨c0, c1, c2⟩ := box3 hE)
        go_wp2_with fail
        go_ret2
        exact ⟨ret2i H2.out.symm H1.out.symm, (by repeat (with_reducible first | assumption | exact Ext.refl _ | refine Ext.drew ?_ | refine Ext.drewN ?_ _ | refine Ext.alloc ?_ _ | (refine Ext.setCell ?_ ?sz _; case sz => (first | (simp; done) | (simp; omega))) | refine Ext.trans ?_ (by assumption)))⟩
    · have H1 : wallsE m t i l r = 0 := by unfold wallsE; rw [if_neg (by simpa using g), if_neg c]
      have H2 := hid (show provedOf m t i l r = min (hAt m t l) (hAt m t r) - hAt m t i by unfold provedOf; rw [if_pos H1])
      replace H1 := hid H1
      clear g
      have n8 := k.v.n8
      have c1 : -1 ≤ l := by omega
      have c2 : l ≤ i := by omega
      have c3 : i ≤ r := by omega
      have c4 : r ≤ (m.hs.length : Int) := by omega
      clear c
      obtain ⟨b0, b1⟩ := hAt_bd (i := i) k.v k.t0 k.t1 (by omega) (by omega)
      obtain ⟨b2, b3⟩ := hAt_bd (i := l) k.v k.t0 k.t1 (by omega) (by omega)
      obtain ⟨b4, b5⟩ := hAt_bd (i := r) k.v k.t0 k.t1 (by omega) (by omega)
      by_cases hm : hAt m t r < hAt m t l
      all_goals
        have e1 := IntWalk.i64_in (hAt m t l - hAt m t i) (by omega)
        have e2 := IntWalk.i64_in (hAt m t r - hAt m t i) (by omega)
        go_enter Try.func32, Try.ntmps32
        go_wp2_with fail
        (refine (placedR_any m q a cap t i _ (by first | assumption | exact Ints.ext hI (by repeat (with_reducible first | assumption | exact Ext.refl _ | refine Ext.drew ?_ | refine Ext.drewN ?_ _ | refine Ext.alloc ?_ _ | (refine Ext.setCell ?_ ?sz _; case sz => (first | (simp; done) | (simp; omega))) | refine Ext.trans ?_ (by assumption)))) hl).mono ?_; rintro e w1 ⟨rfl, hE⟩; obtain ⟨c0, c1, c2⟩ := box3 hE)
        go_wp2_with fail
        go_region_held3 (fun w' => w'.cell? ⟨w.heap.size, 0, none⟩ = some (.int .i64 m.L) ∧ w'.cell? ⟨w.heap.size, 1, none⟩ = some (.int .i64 m.R) ∧ w'.cell? ⟨w.heap.size, 2, none⟩ = some (.slice a m.hs.length cap) ∧ Ints w' a m.hs ∧ Ext (w.alloc (.cells #[.int .i64 m.L, .int .i64 m.R, .slice a m.hs.length cap] 24)) w') (((try go_split_ands); (repeat' apply And.intro) <;> (first | (simp [go_sem]; done) | (simp [go_sem, *]; done) | exact Ext.cell hE (by assumption) | exact Ints.ext (by assumption) hE | exact Ints.ext hI (by repeat (with_reducible first | assumption | exact Ext.refl _ | refine Ext.drew ?_ | refine Ext.drewN ?_ _ | refine Ext.alloc ?_ _ | (refine Ext.setCell ?_ ?sz _; case sz => (first | (simp; done) | (simp; omega))) | refine Ext.trans ?_ (by assumption))) | exact (by repeat (with_reducible first | assumption | exact Ext.refl _ | refine Ext.drew ?_ | refine Ext.drewN ?_ _ | refine Ext.alloc ?_ _ | (refine Ext.setCell ?_ ?sz _; case sz => (first | (simp; done) | (simp; omega))) | refine Ext.trans ?_ (by assumption))))))
          (first | (go_at_call 57; go_split_ands; refine (height_any m k.v a cap t _ _ (by assumption) k.t0 k.t1 (by omega) (by omega)).mono ?_; rintro e w1 ⟨rfl, hE⟩))
        all_goals
          go_wp2_with fail
          go_ret2
          exact ⟨ret2i (by rw [H2.out]; omega) H1.out.symm, (by repeat (with_reducible first | assumption | exact Ext.refl _ | refine Ext.drew ?_ | refine Ext.drewN ?_ _ | refine Ext.alloc ?_ _ | (refine Ext.setCell ?_ ?sz _; case sz => (first | (simp; done) | (simp; omega))) | refine Ext.trans ?_ (by assumption)))⟩
  · have g0 : (plc m t i != 0) = true := by simp [g]
    have H1 : wallsE m t i l r = plc m t i := by unfold wallsE; rw [if_pos g]
    have H2 := hid (show provedOf m t i l r = 0 by unfold provedOf; rw [if_neg (by rw [H1]; exact g)])
    have H1 := hid H1
    clear g
    go_enter Try.func32, Try.ntmps32
    go_wp2_with fail
    (refine (placedR_any m q a cap t i _ (by first | assumption | exact Ints.ext hI (by repeat (with_reducible first | assumption | exact Ext.refl _ | refine Ext.drew ?_ | refine Ext.drewN ?_ _ | refine Ext.alloc ?_ _ | (refine Ext.setCell ?_ ?sz _; case sz => (first | (simp; done) | (simp; omega))) | refine Ext.trans ?_ (by assumption)))) hl).mono ?_; rintro e w1 ⟨rfl, hE⟩; obtain ⟨c0, c1, c2⟩ := box3 hE)
    go_wp2_with fail
    (refine (placedR_any m q a cap t i _ (by first | assumption | exact Ints.ext hI (by repeat (with_reducible first | assumption | exact Ext.refl _ | refine Ext.drew ?_ | refine Ext.drewN ?_ _ | refine Ext.alloc ?_ _ | (refine Ext.setCell ?_ ?sz _; case sz => (first | (simp; done) | (simp; omega))) | refine Ext.trans ?_ (by assumption)))) hl).mono ?_; rintro e w2 ⟨rfl, hE2⟩)
    go_wp2_with fail
    go_ret2
    exact ⟨ret2i H2.out.symm H1.out.symm, (by repeat (with_reducible first | assumption | exact Ext.refl _ | refine Ext.drew ?_ | refine Ext.drewN ?_ _ | refine Ext.alloc ?_ _ | (refine Ext.setCell ?_ ?sz _; case sz => (first | (simp; done) | (simp; omega))) | refine Ext.trans ?_ (by assumption)))⟩

set_option maxHeartbeats 400000 in
theorem wallsR_any (m : Meas) (q : Fit m) (a : Option Addr) (cap : Nat) (t i : Int) (w : World) (hI : Ints w a m.hs) (hl : m.hs.length ≤ 1000) :
    Calls Try.prog 34 #[(.agg #[.int .i64 m.L, .int .i64 m.R, .slice a m.hs.length cap]), .int .i64 t, .int .i64 i] w fun e w' => e = .returned (.tuple #[.int .i64 (wallLOf m t i), .int .i64 (wallROf m t i), .int .i64 (plc m t i)]) ∧ Ext w w' := by
  have hB := (Ext.refl w).alloc (.cells #[.int .i64 m.L, .int .i64 m.R, .slice a m.hs.length cap] 24)
  by_cases g : plc m t i = 0
  · have g0 : (plc m t i != 0) = false := by simp [g]
    obtain ⟨k, i0, i1⟩ := plc_ok.1 g
    have H1 := hid (show wallLOf m t i = wallL m t i by unfold wallLOf; rw [if_pos g])
    have H2 := hid (show wallROf m t i = wallR m t i by unfold wallROf; rw [if_pos g])
    replace g := hid g
    go_enter Try.func34, Try.ntmps34
    go_wp2_with fail
    (refine (placedR_any m q a cap t i _ (by first | assumption | exact Ints.ext hI (by repeat (with_reducible first | assumption | exact Ext.refl _ | refine Ext.drew ?_ | refine Ext.drewN ?_ _ | refine Ext.alloc ?_ _ | (refine Ext.setCell ?_ ?sz _; case sz => (first | (simp; done) | (simp; omega))) | refine Ext.trans ?_ (by assumption)))) hl).mono ?_; rintro e w1 ⟨rfl, hE⟩; obtain ⟨c0, c1, c2⟩ := box3 hE)
    go_wp2_with fail
    refine (greatestL_any m k.v a cap t i _ (by first | assumption | exact Ints.ext hI (by repeat (with_reducible first | assumption | exact Ext.refl _ | refine Ext.drew ?_ | refine Ext.drewN ?_ _ | refine Ext.alloc ?_ _ | (refine Ext.setCell ?_ ?sz _; case sz => (first | (simp; done) | (simp; omega))) | refine Ext.trans ?_ (by assumption)))) k.t0 k.t1 i0 i1).mono ?_
    rintro e w2 ⟨rfl, hE2⟩
    have c0 := hE2.cell c0
    have c1 := hE2.cell c1
    have c2 := hE2.cell c2
    go_wp2_with fail
    refine (greatestR_any m k.v a cap t i _ (by first | assumption | exact Ints.ext hI (by repeat (with_reducible first | assumption | exact Ext.refl _ | refine Ext.drew ?_ | refine Ext.drewN ?_ _ | refine Ext.alloc ?_ _ | (refine Ext.setCell ?_ ?sz _; case sz => (first | (simp; done) | (simp; omega))) | refine Ext.trans ?_ (by assumption)))) k.t0 k.t1 i0 i1).mono ?_
    rintro e w3 ⟨rfl, hE3⟩
    go_wp2_with fail
    go_ret3
    exact ⟨ret3i H1.out.symm H2.out.symm g.out.symm, (by repeat (with_reducible first | assumption | exact Ext.refl _ | refine Ext.drew ?_ | refine Ext.drewN ?_ _ | refine Ext.alloc ?_ _ | (refine Ext.setCell ?_ ?sz _; case sz => (first | (simp; done) | (simp; omega))) | refine Ext.trans ?_ (by assumption)))⟩
  · have g0 : (plc m t i != 0) = true := by simp [g]
    have H1 := hid (show wallLOf m t i = 0 by unfold wallLOf; rw [if_neg g])
    have H2 := hid (show wallROf m t i = 0 by unfold wallROf; rw [if_neg g])
    clear g
    go_enter Try.func34, Try.ntmps34
    go_wp2_with fail
    (refine (placedR_any m q a cap t i _ (by first | assumption | exact Ints.ext hI (by repeat (with_reducible first | assumption | exact Ext.refl _ | refine Ext.drew ?_ | refine Ext.drewN ?_ _ | refine Ext.alloc ?_ _ | (refine Ext.setCell ?_ ?sz _; case sz => (first | (simp; done) | (simp; omega))) | refine Ext.trans ?_ (by assumption)))) hl).mono ?_; rintro e w1 ⟨rfl, hE⟩; obtain ⟨c0, c1, c2⟩ := box3 hE)
    go_wp2_with fail
    (refine (placedR_any m q a cap t i _ (by first | assumption | exact Ints.ext hI (by repeat (with_reducible first | assumption | exact Ext.refl _ | refine Ext.drew ?_ | refine Ext.drewN ?_ _ | refine Ext.alloc ?_ _ | (refine Ext.setCell ?_ ?sz _; case sz => (first | (simp; done) | (simp; omega))) | refine Ext.trans ?_ (by assumption)))) hl).mono ?_; rintro e w2 ⟨rfl, hE2⟩)
    go_wp2_with fail
    go_ret3
    exact ⟨ret3i H1.out.symm H2.out.symm rfl, (by repeat (with_reducible first | assumption | exact Ext.refl _ | refine Ext.drew ?_ | refine Ext.drewN ?_ _ | refine Ext.alloc ?_ _ | (refine Ext.setCell ?_ ?sz _; case sz => (first | (simp; done) | (simp; omega))) | refine Ext.trans ?_ (by assumption)))⟩

set_option maxHeartbeats 400000 in
theorem checkOutR_any (m : Meas) (q : Fit m) (a : Option Addr) (cap : Nat) (t i s : Int) (w : World) (hI : Ints w a m.hs) (hl : m.hs.length ≤ 1000) :
    Calls Try.prog 36 #[(.agg #[.int .i64 m.L, .int .i64 m.R, .slice a m.hs.length cap]), .int .i64 t, .int .i64 i, .int .i64 s] w fun e w' => e = .returned (.tuple #[.int .i64 (outOf m t i s), .int .i64 (outE m t i s)]) ∧ Ext w w' := by
  have hB := (Ext.refl w).alloc (.cells #[.int .i64 m.L, .int .i64 m.R, .slice a m.hs.length cap] 24)
  by_cases g : plc m t i = 0
  · have g0 : (plc m t i != 0) = false := by simp [g]
    obtain ⟨k, i0, i1⟩ := plc_ok.1 g
    have n8 := k.v.n8
    obtain ⟨b0, b1⟩ := hAt_bd (i := i) k.v k.t0 k.t1 (by omega) (by omega)
    obtain ⟨b2, b3⟩ := topL_bd k.v k.t0 k.t1 i0 i1
    obtain ⟨b4, b5⟩ := topR_bd k.v k.t0 k.t1 i0 i1
    have hc : (s = 1 ∧ outE m t i s = 0 ∧ outOf m t i s = topL m t i - hAt m t i) ∨ (s = 2 ∧ outE m t i s = 0 ∧ outOf m t i s = topR m t i - hAt m t i) ∨ (s ≠ 1 ∧ s ≠ 2 ∧ outE m t i s = 2 ∧ outOf m t i s = 0) := by
      have n0 : ¬ plc m t i ≠ 0 := by simpa using g
      simp only [outE, outOf, if_neg n0]
      by_cases s1 : s = 1
      · subst s1; simp
      · by_cases s2 : s = 2
        · subst s2; simp
        · simp [s1, s2]
    clear g
    rcases hc with ⟨rfl, H1, H2⟩ | ⟨rfl, H1, H2⟩ | ⟨s1, s2, H1, H2⟩
    all_goals
      replace H1 := hid H1
      replace H2 := hid H2
    case inr.inr =>
      have s1 : (s == 1) = false := by simp [s1]
      have s2 : (s == 2) = false := by simp [s2]
      go_enter Try.func36, Try.ntmps36
      go_wp2_with fail
      (refine (placedR_any m q a cap t i _ (by first | assumption | exact Ints.ext hI (by repeat (with_reducible first | assumption | exact Ext.refl _ | refine Ext.drew ?_ | refine Ext.drewN ?_ _ | refine Ext.alloc ?_ _ | (refine Ext.setCell ?_ ?sz _; case sz => (first | (simp; done) | (simp; omega))) | refine Ext.trans ?_ (by assumption)))) hl).mono ?_; rintro e w1 ⟨rfl, hE⟩; obtain ⟨c0, c1, c2⟩ := box3 hE)
      go_wp2_with fail
      refine (tops_any m k.v a cap t i _ (by first | assumption | exact Ints.ext hI (by repeat (with_reducible first | assumption | exact Ext.refl _ | refine Ext.drew ?_ | refine Ext.drewN ?_ _ | refine Ext.alloc ?_ _ | (refine Ext.setCell ?_ ?sz _; case sz => (first | (simp; done) | (simp; omega))) | refine Ext.trans ?_ (by assumption)))) k.t0 k.t1 i0 i1).mono ?_
      rintro e w2 ⟨rfl, hE2⟩
      go_wp2_with fail
      go_ret2
      exact ⟨ret2i H2.out.symm H1.out.symm, (by repeat (with_reducible first | assumption | exact Ext.refl _ | refine Ext.drew ?_ | refine Ext.drewN ?_ _ | refine Ext.alloc ?_ _ | (refine Ext.setCell ?_ ?sz _; case sz => (first | (simp; done) | (simp; omega))) | refine Ext.trans ?_ (by assumption)))⟩
    all_goals
      go_enter Try.func36, Try.ntmps36
      go_wp2_with fail
      (refine (placedR_any m q a cap t i _ (by first | assumption | exact Ints.ext hI (by repeat (with_reducible first | assumption | exact Ext.refl _ | refine Ext.drew ?_ | refine Ext.drewN ?_ _ | refine Ext.alloc ?_ _ | (refine Ext.setCell ?_ ?sz _; case sz => (first | (simp; done) | (simp; omega))) | refine Ext.trans ?_ (by assumption)))) hl).mono ?_; rintro e w1 ⟨rfl, hE⟩; obtain ⟨c0, c1, c2⟩ := box3 hE)
      go_wp2_with fail
      refine (tops_any m k.v a cap t i _ (by first | assumption | exact Ints.ext hI (by repeat (with_reducible first | assumption | exact Ext.refl _ | refine Ext.drew ?_ | refine Ext.drewN ?_ _ | refine Ext.alloc ?_ _ | (refine Ext.setCell ?_ ?sz _; case sz => (first | (simp; done) | (simp; omega))) | refine Ext.trans ?_ (by assumption)))) k.t0 k.t1 i0 i1).mono ?_
      rintro e w2 ⟨rfl, hE2⟩
      have c0 := hE2.cell c0
      have c1 := hE2.cell c1
      have c2 := hE2.cell c2
      go_wp2_with fail
      refine (height_any m k.v a cap t i _ (by first | assumption | exact Ints.ext hI (by repeat (with_reducible first | assumption | exact Ext.refl _ | refine Ext.drew ?_ | refine Ext.drewN ?_ _ | refine Ext.alloc ?_ _ | (refine Ext.setCell ?_ ?sz _; case sz => (first | (simp; done) | (simp; omega))) | refine Ext.trans ?_ (by assumption)))) k.t0 k.t1 (by omega) (by omega)).mono ?_
      rintro e w3 ⟨rfl, hE3⟩
      go_wp2_with fail
      go_ret2
      exact ⟨ret2i H2.out.symm H1.out.symm, (by repeat (with_reducible first | assumption | exact Ext.refl _ | refine Ext.drew ?_ | refine Ext.drewN ?_ _ | refine Ext.alloc ?_ _ | (refine Ext.setCell ?_ ?sz _; case sz => (first | (simp; done) | (simp; omega))) | refine Ext.trans ?_ (by assumption)))⟩
  · have g0 : (plc m t i != 0) = true := by simp [g]
    have H1 := hid (show outE m t i s = plc m t i by unfold outE; rw [if_pos g])
    have H2 := hid (show outOf m t i s = 0 by unfold outOf; rw [if_pos g])
    clear g
    go_enter Try.func36, Try.ntmps36
    go_wp2_with fail
    (refine (placedR_any m q a cap t i _ (by first | assumption | exact Ints.ext hI (by repeat (with_reducible first | assumption | exact Ext.refl _ | refine Ext.drew ?_ | refine Ext.drewN ?_ _ | refine Ext.alloc ?_ _ | (refine Ext.setCell ?_ ?sz _; case sz => (first | (simp; done) | (simp; omega))) | refine Ext.trans ?_ (by assumption)))) hl).mono ?_; rintro e w1 ⟨rfl, hE⟩; obtain ⟨c0, c1, c2⟩ := box3 hE)
    go_wp2_with fail
    (refine (placedR_any m q a cap t i _ (by first | assumption | exact Ints.ext hI (by repeat (with_reducible first | assumption | exact Ext.refl _ | refine Ext.drew ?_ | refine Ext.drewN ?_ _ | refine Ext.alloc ?_ _ | (refine Ext.setCell ?_ ?sz _; case sz => (first | (simp; done) | (simp; omega))) | refine Ext.trans ?_ (by assumption)))) hl).mono ?_; rintro e w2 ⟨rfl, hE2⟩)
    go_wp2_with fail
    go_ret2
    exact ⟨ret2i H2.out.symm H1.out.symm, (by repeat (with_reducible first | assumption | exact Ext.refl _ | refine Ext.drew ?_ | refine Ext.drewN ?_ _ | refine Ext.alloc ?_ _ | (refine Ext.setCell ?_ ?sz _; case sz => (first | (simp; done) | (simp; omega))) | refine Ext.trans ?_ (by assumption)))⟩

set_option maxHeartbeats 400000 in
theorem depthsR_any (m : Meas) (q : Fit m) (a : Option Addr) (cap : Nat) (t : Int) (w : World) (hI : Ints w a m.hs) (hl : m.hs.length ≤ 1000) :
    Calls Try.prog 20 #[(.agg #[.int .i64 m.L, .int .i64 m.R, .slice a m.hs.length cap]), .int .i64 t] w (RetInts (depthsOf m t) (tlt m t) w) := by
  have hB := (Ext.refl w).alloc (.cells #[.int .i64 m.L, .int .i64 m.R, .slice a m.hs.length cap] 24)
  by_cases g : tlt m t = 0
  · have g0 : (tlt m t != 0) = false := by simp [g]
    have k := tlt_ok.1 g
    have H := hid (show depthsOf m t = depths m t by unfold depthsOf; rw [if_pos g])
    replace g := hid g
    go_enter Try.func20, Try.ntmps20
    go_wp2_with fail
    (refine (tiltedR_any m q a cap t _ (by first | assumption | exact Ints.ext hI (by repeat (with_reducible first | assumption | exact Ext.refl _ | refine Ext.drew ?_ | refine Ext.drewN ?_ _ | refine Ext.alloc ?_ _ | (refine Ext.setCell ?_ ?sz _; case sz => (first | (simp; done) | (simp; omega))) | refine Ext.trans ?_ (by assumption)))) hl).mono ?_; rintro e w1 ⟨rfl, hE⟩; obtain ⟨c0, c1, c2⟩ := box3 hE)
    go_wp2_with fail
    go_loopw [6, 7] (fun o i wr => ∃ k : Nat, k ≤ m.hs.length ∧ i = .int .i64 k ∧ OwnI wr (w.heap.size + 1) 2 o (deps m t k) ∧ Ext (w.alloc (.cells #[.int .i64 m.L, .int .i64 m.R, .slice a m.hs.length cap] 24)) wr) (fun _ i _ => (m.hs.length - intOf i).toNat)
    case atStart => exact ⟨0, by omega, rfl, OwnI.nil _ _ _, hE⟩
    case round =>
      obtain ⟨j, hj, rfl, ho, hw⟩ := hrel
      obtain ⟨c0, c1, c2⟩ := box3 hw
      by_cases hlt : j < m.hs.length
      · go_wp2_with fail
        refine (depthOf_any m k.v a cap t j _ (by first | assumption | exact Ints.ext hI (by repeat (with_reducible first | assumption | exact Ext.refl _ | refine Ext.drew ?_ | refine Ext.drewN ?_ _ | refine Ext.alloc ?_ _ | (refine Ext.setCell ?_ ?sz _; case sz => (first | (simp; done) | (simp; omega))) | refine Ext.trans ?_ (by assumption)))) k.t0 k.t1 (by omega) (by omega)).mono ?_
        rintro e w2 ⟨rfl, hE2⟩
        have ho := ho.ext hE2
        go_wp2_with (at_builtin; refine app_int rfl _ _ _ rfl 2 Try.underlying22 elemI64 (w.heap.size + 1) (deps m t j) (depth m t j) _ rfl _ rfl (ho.ext ((Ext.refl w2).alloc _)) ?c1 ?c2 ?c3 ?_)
        case c1 => simp [go_sem]
        case c2 => rw [deps_len]; omega
        case c3 => have := Ext.size (show Ext (w.alloc (.cells #[.int .i64 m.L, .int .i64 m.R, .slice a m.hs.length cap] 24)) w2 from (by repeat (with_reducible first | assumption | exact Ext.refl _ | refine Ext.drew ?_ | refine Ext.drewN ?_ _ | refine Ext.alloc ?_ _ | (refine Ext.setCell ?_ ?sz _; case sz => (first | (simp; done) | (simp; omega))) | refine Ext.trans ?_ (by assumption)))); simp at this ⊢; omega
        intro bb cp w3 ho3 hx hbb hg
        have hE3 := hx (w.alloc (.cells #[.int .i64 m.L, .int .i64 m.R, .slice a m.hs.length cap] 24)) (by repeat (with_reducible first | assumption | exact Ext.refl _ | refine Ext.drew ?_ | refine Ext.drewN ?_ _ | refine Ext.alloc ?_ _ | (refine Ext.setCell ?_ ?sz _; case sz => (first | (simp; done) | (simp; omega))) | refine Ext.trans ?_ (by assumption))) (by simp)
        clear hx hg
        go_wp2_with fail
        go_roundw
        case rel => exact ⟨j + 1, by omega, by go_num, ho3, hE3⟩
        case measure => simp [intOf]; omega
      · obtain rfl : j = m.hs.length := by omega
        obtain ⟨b, cp, rfl, hi⟩ := ho.slice
        go_wp2_with fail
        go_ret2
        refine ⟨b, cp, ?_, ?_, (by repeat (with_reducible first | assumption | exact Ext.refl _ | refine Ext.drew ?_ | refine Ext.drewN ?_ _ | refine Ext.alloc ?_ _ | (refine Ext.setCell ?_ ?sz _; case sz => (first | (simp; done) | (simp; omega))) | refine Ext.trans ?_ (by assumption)))⟩
        · rw [H.out, g.out]; rfl
        · rw [H.out]; exact hi
  · have g0 : (tlt m t != 0) = true := by simp [g]
    have H := hid (show depthsOf m t = [] by unfold depthsOf; rw [if_neg g])
    clear g
    go_enter Try.func20, Try.ntmps20
    go_wp2_with fail
    (refine (tiltedR_any m q a cap t _ (by first | assumption | exact Ints.ext hI (by repeat (with_reducible first | assumption | exact Ext.refl _ | refine Ext.drew ?_ | refine Ext.drewN ?_ _ | refine Ext.alloc ?_ _ | (refine Ext.setCell ?_ ?sz _; case sz => (first | (simp; done) | (simp; omega))) | refine Ext.trans ?_ (by assumption)))) hl).mono ?_; rintro e w1 ⟨rfl, hE⟩; obtain ⟨c0, c1, c2⟩ := box3 hE)
    go_wp2_with fail
    (refine (tiltedR_any m q a cap t _ (by first | assumption | exact Ints.ext hI (by repeat (with_reducible first | assumption | exact Ext.refl _ | refine Ext.drew ?_ | refine Ext.drewN ?_ _ | refine Ext.alloc ?_ _ | (refine Ext.setCell ?_ ?sz _; case sz => (first | (simp; done) | (simp; omega))) | refine Ext.trans ?_ (by assumption)))) hl).mono ?_; rintro e w2 ⟨rfl, hE2⟩)
    go_wp2_with fail
    go_ret2
    refine ⟨none, 0, ?_, ?_, (by repeat (with_reducible first | assumption | exact Ext.refl _ | refine Ext.drew ?_ | refine Ext.drewN ?_ _ | refine Ext.alloc ?_ _ | (refine Ext.setCell ?_ ?sz _; case sz => (first | (simp; done) | (simp; omega))) | refine Ext.trans ?_ (by assumption)))⟩
    · rw [H.out]; rfl
    · rw [H.out]; exact Ints.nil _ _

end Go.Proofs.Ytogglbhidlnijaa
