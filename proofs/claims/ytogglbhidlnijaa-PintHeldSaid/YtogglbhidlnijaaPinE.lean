/- The program's walls, ways out, sides. -/
import Derived.Test.YtogglbhidlnijaaPinD
import Derived.ScopeJumps
import Derived.WalkMore
namespace Go.Proofs.Ytogglbhidlnijaa
set_option linter.unusedVariables false
set_option linter.unusedSimpArgs false
set_option linter.unusedSectionVars false
set_option linter.unnecessarySimpa false
open Go Go.RowKit

set_option maxHeartbeats 400000 in
theorem wallL_any (m : Meas) (v : Vld m) (tb : Nat) (a : Option Addr) (cap : Nat) (t f : Int) (w : World) (hI : Ints w a m.hs)
    (c0 : w.cell? ⟨tb, 0, none⟩ = some (.int .i64 m.L)) (c1 : w.cell? ⟨tb, 1, none⟩ = some (.int .i64 m.R)) (c2 : w.cell? ⟨tb, 2, none⟩ = some (.slice a m.hs.length cap)) (c3 : w.cell? ⟨tb, 3, none⟩ = some (.int .i64 t))
    (h0 : -20 ≤ t) (h1 : t ≤ 20) (h2 : 0 ≤ f) (h3 : f < m.hs.length) :
    Calls Try.prog 77 #[.pointer (some ⟨tb, 0, none⟩), .int .i64 f, .int .i64 (-1)] w fun e w' => e = .returned (.int .i64 (wallL m t f)) ∧ w = w' := by
  have n8 := v.n8
  go_enter Try.func77, Try.ntmps77
  go_wp2_with fail
  go_step3
  go_wp2_with fail
  go_step3
  go_wp2_with fail
  go_loop [7, 8] (fun b i => ∃ k : Nat, (k : Int) < f + 1 ∧ i = .int .i64 (f - k - 1) ∧ b = .int .i64 (bp (hAt m t) (toL f) k)) (fun _ i => (intOf i + 2).toNat)
  case atStart => exact ⟨0, by omega, by congr 1; omega, by simp [bp, toL]⟩
  case round =>
    obtain ⟨k, hk, rfl, rfl⟩ := hrel
    have e1 := hid (show toL f (k + 1) = f - k - 1 by simp [toL]; omega)
    obtain ⟨j, hj, hjk⟩ := bp_mem (hAt m t) (toL f) k
    have b0 : 0 ≤ bp (hAt m t) (toL f) k := by rw [hjk]; unfold toL; omega
    have b1 : bp (hAt m t) (toL f) k ≤ 8 := by rw [hjk]; unfold toL; omega
    clear hjk
    have hbs := hid (show bp (hAt m t) (toL f) (k + 1) = if hAt m t (bp (hAt m t) (toL f) k) < hAt m t (f - k - 1) then f - k - 1 else bp (hAt m t) (toL f) k by rw [bp, e1.out])
    generalize hbb : bp (hAt m t) (toL f) k = bb at *
    clear hbb
    by_cases hg : hAt m t bb < hAt m t (f - k - 1)
    all_goals
      by_cases hz : f - k - 1 < 0
      all_goals
        try have hz2 : (f - (k : Int) - 1 == (m.hs.length : Int)) = false := by simp; omega
        go_wp2_with fail
        refine (at_any m v tb a cap t _ _ hI c0 c1 c2 c3 h0 h1 (by omega) (by omega)).mono ?_
        rintro e w1 ⟨rfl, rfl⟩
        go_wp2_with fail
        refine (at_any m v tb a cap t _ _ hI c0 c1 c2 c3 h0 h1 (by omega) (by omega)).mono ?_
        rintro e w1 ⟨rfl, rfl⟩
        go_wp2_with fail
    · rw [Exit.noGoto_ret]
      go_ret
      refine ⟨ret_int ?_, rfl⟩
      unfold wallL
      rw [show (f + 1).toNat = k + 1 by omega, hbs.out]
      split <;> omega
    · exact ⟨⟨k + 1, by omega, by congr 1; omega, by rw [hbs.out]; split <;> first | rfl | (exfalso; omega)⟩, by simp [intOf]; omega⟩
    · rw [Exit.noGoto_ret]
      go_ret
      refine ⟨ret_int ?_, rfl⟩
      unfold wallL
      rw [show (f + 1).toNat = k + 1 by omega, hbs.out]
      split <;> omega
    · exact ⟨⟨k + 1, by omega, by congr 1; omega, by rw [hbs.out]; split <;> first | rfl | (exfalso; omega)⟩, by simp [intOf]; omega⟩

set_option maxHeartbeats 400000 in
theorem wallR_any (m : Meas) (v : Vld m) (tb : Nat) (a : Option Addr) (cap : Nat) (t f : Int) (w : World) (hI : Ints w a m.hs)
    (c0 : w.cell? ⟨tb, 0, none⟩ = some (.int .i64 m.L)) (c1 : w.cell? ⟨tb, 1, none⟩ = some (.int .i64 m.R)) (c2 : w.cell? ⟨tb, 2, none⟩ = some (.slice a m.hs.length cap)) (c3 : w.cell? ⟨tb, 3, none⟩ = some (.int .i64 t))
    (h0 : -20 ≤ t) (h1 : t ≤ 20) (h2 : 0 ≤ f) (h3 : f < m.hs.length) :
    Calls Try.prog 77 #[.pointer (some ⟨tb, 0, none⟩), .int .i64 f, .int .i64 1] w fun e w' => e = .returned (.int .i64 (wallR m t f)) ∧ w = w' := by
  have n8 := v.n8
  go_enter Try.func77, Try.ntmps77
  go_wp2_with fail
  go_step3
  go_wp2_with fail
  go_step3
  go_wp2_with fail
  go_loop [7, 8] (fun b i => ∃ k : Nat, f + (k : Int) < m.hs.length ∧ i = .int .i64 (f + k + 1) ∧ b = .int .i64 (bp (hAt m t) (toR f) k)) (fun _ i => ((m.hs.length : Int) + 2 - intOf i).toNat)
  case atStart => exact ⟨0, by omega, by congr 1; omega, by simp [bp, toR]⟩
  case round =>
    obtain ⟨k, hk, rfl, rfl⟩ := hrel
    have e1 := hid (show toR f (k + 1) = f + k + 1 by simp [toR]; omega)
    obtain ⟨j, hj, hjk⟩ := bp_mem (hAt m t) (toR f) k
    have b0 : 0 ≤ bp (hAt m t) (toR f) k := by rw [hjk]; unfold toR; omega
    have b1 : bp (hAt m t) (toR f) k ≤ 8 := by rw [hjk]; unfold toR; omega
    clear hjk
    have hbs := hid (show bp (hAt m t) (toR f) (k + 1) = if hAt m t (bp (hAt m t) (toR f) k) < hAt m t (f + k + 1) then f + k + 1 else bp (hAt m t) (toR f) k by rw [bp, e1.out])
    generalize hbb : bp (hAt m t) (toR f) k = bb at *
    clear hbb
    by_cases hg : hAt m t bb < hAt m t (f + k + 1)
    all_goals
      cases hz : (f + (k : Int) + 1 == (m.hs.length : Int))
      all_goals
        have hzz := hid hz
        go_wp2_with fail
        refine (at_any m v tb a cap t _ _ hI c0 c1 c2 c3 h0 h1 (by omega) (by omega)).mono ?_
        rintro e w1 ⟨rfl, rfl⟩
        go_wp2_with fail
        refine (at_any m v tb a cap t _ _ hI c0 c1 c2 c3 h0 h1 (by omega) (by omega)).mono ?_
        rintro e w1 ⟨rfl, rfl⟩
        go_wp2_with fail
    · exact ⟨⟨k + 1, by have := hzz.out; simp at this; omega, by congr 1; omega, by rw [hbs.out]; split <;> first | rfl | (exfalso; omega)⟩, by have := hzz.out; simp at this; simp [intOf]; omega⟩
    · rw [Exit.noGoto_ret]
      go_ret
      refine ⟨ret_int ?_, rfl⟩
      unfold wallR
      rw [show (m.hs.length - f).toNat = k + 1 by have := hzz.out; simp at this; omega, hbs.out]
      split <;> omega
    · exact ⟨⟨k + 1, by have := hzz.out; simp at this; omega, by congr 1; omega, by rw [hbs.out]; split <;> first | rfl | (exfalso; omega)⟩, by have := hzz.out; simp at this; simp [intOf]; omega⟩
    · rw [Exit.noGoto_ret]
      go_ret
      refine ⟨ret_int ?_, rfl⟩
      unfold wallR
      rw [show (m.hs.length - f).toNat = k + 1 by have := hzz.out; simp at this; omega, hbs.out]
      split <;> omega

set_option maxHeartbeats 400000 in
theorem walls_any (m : Meas) (q : Fit m) (a : Option Addr) (cap : Nat) (t i : Int) (w : World) (hI : Ints w a m.hs) (hl : m.hs.length ≤ 1000) (ht : I64 t) (hi : I64 i) :
    Calls Try.prog 33 #[(.agg #[.int .i64 m.L, .int .i64 m.R, .slice a m.hs.length cap]), .int .i64 t, .int .i64 i] w fun e w' => e = .returned (.tuple #[.int .i64 (wallLOf m t i), .int .i64 (wallROf m t i), .int .i64 (plc m t i)]) ∧ Ext w w' := by
  have hB := (Ext.refl w).alloc (.cells #[.int .i64 m.L, .int .i64 m.R, .slice a m.hs.length cap] 24)
  go_enter Try.func33, Try.ntmps33
  go_wp2_with fail
  (refine (open1_any m q a cap t i _ _ (by first | assumption | exact Ints.ext hI (by repeat (with_reducible first | assumption | exact Ext.refl _ | refine Ext.drew ?_ | refine Ext.drewN ?_ _ | refine Ext.alloc ?_ _ | (refine Ext.setCell ?_ ?sz _; case sz => (first | (simp; done) | (simp; omega))) | refine Ext.trans ?_ (by assumption)))) (by exact lit1 (by simp)) hl ht hi).mono ?_)
  rintro e w1 (⟨g, rfl, hE⟩ | ⟨g, tb, rfl, hT, hE⟩)
  · have g0 : (plc m t i != 0) = true := by simp [g]
    have H1 := hid (show wallLOf m t i = 0 by unfold wallLOf; rw [if_neg g])
    have H2 := hid (show wallROf m t i = 0 by unfold wallROf; rw [if_neg g])
    clear g
    go_wp2_with fail
    go_ret3
    exact ⟨ret3i H1.out.symm H2.out.symm rfl, (by repeat (with_reducible first | assumption | exact Ext.refl _ | refine Ext.drew ?_ | refine Ext.drewN ?_ _ | refine Ext.alloc ?_ _ | (refine Ext.setCell ?_ ?sz _; case sz => (first | (simp; done) | (simp; omega))) | refine Ext.trans ?_ (by assumption)))⟩
  · obtain ⟨k, i0, i1⟩ := plc_ok.1 g
    have H1 := hid (show wallLOf m t i = wallL m t i by unfold wallLOf; rw [if_pos g])
    have H2 := hid (show wallROf m t i = wallR m t i by unfold wallROf; rw [if_pos g])
    replace g := hid g
    go_wp2_with fail
    refine (wallL_any m k.v tb a cap t i _ (by first | assumption | exact Ints.ext hI (by repeat (with_reducible first | assumption | exact Ext.refl _ | refine Ext.drew ?_ | refine Ext.drewN ?_ _ | refine Ext.alloc ?_ _ | (refine Ext.setCell ?_ ?sz _; case sz => (first | (simp; done) | (simp; omega))) | refine Ext.trans ?_ (by assumption)))) hT.c0 hT.c1 hT.c2 hT.c3 k.t0 k.t1 i0 i1).mono ?_
    rintro e w2 ⟨rfl, rfl⟩
    go_wp2_with fail
    refine (wallR_any m k.v tb a cap t i _ (by first | assumption | exact Ints.ext hI (by repeat (with_reducible first | assumption | exact Ext.refl _ | refine Ext.drew ?_ | refine Ext.drewN ?_ _ | refine Ext.alloc ?_ _ | (refine Ext.setCell ?_ ?sz _; case sz => (first | (simp; done) | (simp; omega))) | refine Ext.trans ?_ (by assumption)))) hT.c0 hT.c1 hT.c2 hT.c3 k.t0 k.t1 i0 i1).mono ?_
    rintro e w2 ⟨rfl, rfl⟩
    go_wp2_with fail
    go_ret3
    exact ⟨ret3i H1.out.symm H2.out.symm g.out.symm, (by repeat (with_reducible first | assumption | exact Ext.refl _ | refine Ext.drew ?_ | refine Ext.drewN ?_ _ | refine Ext.alloc ?_ _ | (refine Ext.setCell ?_ ?sz _; case sz => (first | (simp; done) | (simp; omega))) | refine Ext.trans ?_ (by assumption)))⟩

set_option maxHeartbeats 1000000 in
theorem checkOut_any (m : Meas) (q : Fit m) (a : Option Addr) (cap : Nat) (t i s : Int) (w : World) (hI : Ints w a m.hs) (hl : m.hs.length ≤ 1000) (ht : I64 t) (hi : I64 i) :
    Calls Try.prog 35 #[(.agg #[.int .i64 m.L, .int .i64 m.R, .slice a m.hs.length cap]), .int .i64 t, .int .i64 i, .int .i64 s] w fun e w' => e = .returned (.tuple #[.int .i64 (outOf m t i s), .int .i64 (outE m t i s)]) ∧ Ext w w' := by
  have hB := (Ext.refl w).alloc (.cells #[.int .i64 m.L, .int .i64 m.R, .slice a m.hs.length cap] 24)
  go_enter Try.func35, Try.ntmps35
  go_wp2_with fail
  (refine (open1_any m q a cap t i _ _ (by first | assumption | exact Ints.ext hI (by repeat (with_reducible first | assumption | exact Ext.refl _ | refine Ext.drew ?_ | refine Ext.drewN ?_ _ | refine Ext.alloc ?_ _ | (refine Ext.setCell ?_ ?sz _; case sz => (first | (simp; done) | (simp; omega))) | refine Ext.trans ?_ (by assumption)))) (by exact lit1 (by simp)) hl ht hi).mono ?_)
  rintro e w1 (⟨g, rfl, hE⟩ | ⟨g, tb, rfl, hT, hE⟩)
  · have g0 : (plc m t i != 0) = true := by simp [g]
    have H1 := hid (show outE m t i s = plc m t i by unfold outE; rw [if_pos g])
    have H2 := hid (show outOf m t i s = 0 by unfold outOf; rw [if_pos g])
    clear g
    go_wp2_with fail
    go_ret2
    exact ⟨ret2i H2.out.symm H1.out.symm, (by repeat (with_reducible first | assumption | exact Ext.refl _ | refine Ext.drew ?_ | refine Ext.drewN ?_ _ | refine Ext.alloc ?_ _ | (refine Ext.setCell ?_ ?sz _; case sz => (first | (simp; done) | (simp; omega))) | refine Ext.trans ?_ (by assumption)))⟩
  · obtain ⟨k, i0, i1⟩ := plc_ok.1 g
    have n8 := k.v.n8
    obtain ⟨b0, b1⟩ := hAt_bd (i := i) k.v k.t0 k.t1 (by omega) (by omega)
    obtain ⟨b2, b3⟩ := topL_bd k.v k.t0 k.t1 i0 i1
    obtain ⟨b4, b5⟩ := topR_bd k.v k.t0 k.t1 i0 i1
    have hc : (s = 1 ∧ outE m t i s = 0 ∧ outOf m t i s = topL m t i - hAt m t i) ∨ (s = 2 ∧ outE m t i s = 0 ∧ outOf m t i s = topR m t i - hAt m t i) ∨ (s ≠ 1 ∧ s ≠ 2 ∧ outE m t i s = 2 ∧ outOf m t i s = 0) := by
      have n0 : ¬ plc m t i ≠ 0 := by simpa using g
      simp only [outE, outOf, if_neg n0]
      by_cases s1 : s = 1
      · subst s1; simp
      · by_cases s2 : s = 2
        · subst s2; simp
        · simp [s1, s2]
    clear g
    obtain ⟨i, rfl⟩ := Int.eq_ofNat_of_zero_le i0
    have cl := hT.cl i (by omega)
    have cr := hT.cr i (by omega)
    rw [fL_full m t (by omega)] at cl
    rw [fR_full m t (by omega)] at cr
    have c0 := hT.c0
    have c1 := hT.c1
    have c2 := hT.c2
    have c3 := hT.c3
    have i2 : (i : Int) < 8 := by omega
    rcases hc with ⟨rfl, H1, H2⟩ | ⟨rfl, H1, H2⟩ | ⟨s1, s2, H1, H2⟩
    all_goals
      replace H1 := hid H1
      replace H2 := hid H2
    · have e1 := IntWalk.i64_in (topL m t i - hAt m t i) (by omega)
      generalize topL m t i = x at *
      go_wp2_with fail
      go_region_held3 (fun w' => w'.cell? ⟨tb, 0, none⟩ = some (.int .i64 m.L) ∧ w'.cell? ⟨tb, 1, none⟩ = some (.int .i64 m.R) ∧ w'.cell? ⟨tb, 2, none⟩ = some (.slice a m.hs.length cap) ∧ w'.cell? ⟨tb, 3, none⟩ = some (.int .i64 t) ∧ w'.cell? ⟨tb, 4 + i, none⟩ = some (.int .i64 x) ∧ Ints w' a m.hs ∧ Ext w w') (((try go_split_ands); (repeat' apply And.intro) <;> (first | assumption | (simp [go_sem]; done) | (simp [go_sem, *]; done) | exact Ints.ext hI (by repeat (with_reducible first | assumption | exact Ext.refl _ | refine Ext.drew ?_ | refine Ext.drewN ?_ _ | refine Ext.alloc ?_ _ | (refine Ext.setCell ?_ ?sz _; case sz => (first | (simp; done) | (simp; omega))) | refine Ext.trans ?_ (by assumption))) | exact (by repeat (with_reducible first | assumption | exact Ext.refl _ | refine Ext.drew ?_ | refine Ext.drewN ?_ _ | refine Ext.alloc ?_ _ | (refine Ext.setCell ?_ ?sz _; case sz => (first | (simp; done) | (simp; omega))) | refine Ext.trans ?_ (by assumption)))))) (first | (go_at_call 76; go_split_ands; refine (at_any m k.v tb a cap t i _ (by assumption) (by assumption) (by assumption) (by assumption) (by assumption) k.t0 k.t1 (by omega) (by omega)).mono ?_; rintro e w1 ⟨rfl, rfl⟩))
      go_wp2_with fail
      go_ret2
      exact ⟨ret2i H2.out.symm H1.out.symm, (by repeat (with_reducible first | assumption | exact Ext.refl _ | refine Ext.drew ?_ | refine Ext.drewN ?_ _ | refine Ext.alloc ?_ _ | (refine Ext.setCell ?_ ?sz _; case sz => (first | (simp; done) | (simp; omega))) | refine Ext.trans ?_ (by assumption)))⟩
    · have e1 := IntWalk.i64_in (topR m t i - hAt m t i) (by omega)
      generalize topR m t i = x at *
      go_wp2_with fail
      go_region_held3 (fun w' => w'.cell? ⟨tb, 0, none⟩ = some (.int .i64 m.L) ∧ w'.cell? ⟨tb, 1, none⟩ = some (.int .i64 m.R) ∧ w'.cell? ⟨tb, 2, none⟩ = some (.slice a m.hs.length cap) ∧ w'.cell? ⟨tb, 3, none⟩ = some (.int .i64 t) ∧ w'.cell? ⟨tb, 12 + i, none⟩ = some (.int .i64 x) ∧ Ints w' a m.hs ∧ Ext w w') (((try go_split_ands); (repeat' apply And.intro) <;> (first | assumption | (simp [go_sem]; done) | (simp [go_sem, *]; done) | exact Ints.ext hI (by repeat (with_reducible first | assumption | exact Ext.refl _ | refine Ext.drew ?_ | refine Ext.drewN ?_ _ | refine Ext.alloc ?_ _ | (refine Ext.setCell ?_ ?sz _; case sz => (first | (simp; done) | (simp; omega))) | refine Ext.trans ?_ (by assumption))) | exact (by repeat (with_reducible first | assumption | exact Ext.refl _ | refine Ext.drew ?_ | refine Ext.drewN ?_ _ | refine Ext.alloc ?_ _ | (refine Ext.setCell ?_ ?sz _; case sz => (first | (simp; done) | (simp; omega))) | refine Ext.trans ?_ (by assumption)))))) (first | (go_at_call 76; go_split_ands; refine (at_any m k.v tb a cap t i _ (by assumption) (by assumption) (by assumption) (by assumption) (by assumption) k.t0 k.t1 (by omega) (by omega)).mono ?_; rintro e w1 ⟨rfl, rfl⟩))
      go_wp2_with fail
      go_ret2
      exact ⟨ret2i H2.out.symm H1.out.symm, (by repeat (with_reducible first | assumption | exact Ext.refl _ | refine Ext.drew ?_ | refine Ext.drewN ?_ _ | refine Ext.alloc ?_ _ | (refine Ext.setCell ?_ ?sz _; case sz => (first | (simp; done) | (simp; omega))) | refine Ext.trans ?_ (by assumption)))⟩
    · have s1 : (s == 1) = false := by simp [s1]
      have s2 : (s == 2) = false := by simp [s2]
      go_wp2_with fail
      go_ret2
      exact ⟨ret2i H2.out.symm H1.out.symm, (by repeat (with_reducible first | assumption | exact Ext.refl _ | refine Ext.drew ?_ | refine Ext.drewN ?_ _ | refine Ext.alloc ?_ _ | (refine Ext.setCell ?_ ?sz _; case sz => (first | (simp; done) | (simp; omega))) | refine Ext.trans ?_ (by assumption)))⟩

end Go.Proofs.Ytogglbhidlnijaa
