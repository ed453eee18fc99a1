/- Small functions of the outright laws: fine, Tilted, depths, sound. -/
import Derived.Test.YtogglbhidlnijaaLawM
namespace Go.Proofs.Ytogglbhidlnijaa
set_option linter.unusedVariables false
set_option linter.unusedSimpArgs false
set_option linter.unusedSectionVars false
set_option linter.unnecessarySimpa false
open Go Go.RowKit
set_option maxRecDepth 100000

theorem fine_yes (m : Meas) (v : Vld m) (a : Option Addr) (cap : Nat) (w : World) (hI : Ints w a m.hs) : Calls Try.prog 54 #[(.agg #[.int .i64 m.L, .int .i64 m.R, .slice a m.hs.length cap])] w fun e w' => e = .returned (.bool true) ∧ Ext w w' := by
  have hB := (Ext.refl w).alloc (.cells #[.int .i64 m.L, .int .i64 m.R, .slice a m.hs.length cap] 24)
  have n8 := v.n8
  have hd : decide (14 < m.hs.length) = false := by simp; omega
  go_enter Try.func54, Try.ntmps54
  go_wp2_with fail
  refine (great_any m a cap _ (by omega)).mono ?_; rintro e w1 ⟨rfl, hE⟩
  obtain ⟨c0, c1, c2⟩ := box3 hE
  rw [hd]
  go_wp2_with fail
  refine (checkMeasureR_any m v.fit a cap _ (hI.ext (by repeat (with_reducible first | assumption | exact Ext.refl _ | refine Ext.drew ?_ | refine Ext.drewN ?_ _ | refine Ext.alloc ?_ _ | (refine Ext.setCell ?_ ?sz _; case sz => (first | (simp; done) | (simp; omega))) | refine Ext.trans ?_ (by assumption)))) (by omega)).mono ?_; rintro e w2 ⟨rfl, hE2⟩
  rw [chk_ok.2 v]
  go_wp2_with fail
  go_ret
  exact ⟨ret_bool (by simp), (by repeat (with_reducible first | assumption | exact Ext.refl _ | refine Ext.drew ?_ | refine Ext.drewN ?_ _ | refine Ext.alloc ?_ _ | (refine Ext.setCell ?_ ?sz _; case sz => (first | (simp; done) | (simp; omega))) | refine Ext.trans ?_ (by assumption)))⟩
theorem fine_no (m : Meas) (q : Fit m) (v : ¬ Vld m) (a : Option Addr) (cap : Nat) (w : World) (hI : Ints w a m.hs) (hl : m.hs.length ≤ 9223372036854775807) : Calls Try.prog 54 #[(.agg #[.int .i64 m.L, .int .i64 m.R, .slice a m.hs.length cap])] w fun e w' => e = .returned (.bool false) ∧ Ext w w' := by
  have hB := (Ext.refl w).alloc (.cells #[.int .i64 m.L, .int .i64 m.R, .slice a m.hs.length cap] 24)
  by_cases g : 14 < m.hs.length
  · have hd : decide (14 < m.hs.length) = true := by simpa using g
    go_enter Try.func54, Try.ntmps54
    go_wp2_with fail
    refine (great_any m a cap _ (by omega)).mono ?_; rintro e w1 ⟨rfl, hE⟩
    rw [hd]
    go_wp2_with fail
    go_ret
    exact ⟨ret_bool (by simp), (by repeat (with_reducible first | assumption | exact Ext.refl _ | refine Ext.drew ?_ | refine Ext.drewN ?_ _ | refine Ext.alloc ?_ _ | (refine Ext.setCell ?_ ?sz _; case sz => (first | (simp; done) | (simp; omega))) | refine Ext.trans ?_ (by assumption)))⟩
  · have hd : decide (14 < m.hs.length) = false := by simpa using g
    go_enter Try.func54, Try.ntmps54
    go_wp2_with fail
    refine (great_any m a cap _ (by omega)).mono ?_; rintro e w1 ⟨rfl, hE⟩
    obtain ⟨c0, c1, c2⟩ := box3 hE
    rw [hd]
    go_wp2_with fail
    refine (checkMeasureR_any m q a cap _ (hI.ext (by repeat (with_reducible first | assumption | exact Ext.refl _ | refine Ext.drew ?_ | refine Ext.drewN ?_ _ | refine Ext.alloc ?_ _ | (refine Ext.setCell ?_ ?sz _; case sz => (first | (simp; done) | (simp; omega))) | refine Ext.trans ?_ (by assumption)))) (by omega)).mono ?_; rintro e w2 ⟨rfl, hE2⟩
    have hc : chk m ≠ 0 := fun h => v (chk_ok.1 h)
    go_wp2_with fail
    go_ret
    exact ⟨ret_bool (by simp [hc]), (by repeat (with_reducible first | assumption | exact Ext.refl _ | refine Ext.drew ?_ | refine Ext.drewN ?_ _ | refine Ext.alloc ?_ _ | (refine Ext.setCell ?_ ?sz _; case sz => (first | (simp; done) | (simp; omega))) | refine Ext.trans ?_ (by assumption)))⟩

/-- The tilt of a number. -/
def tiltOf (n : Int) : Int := n.tmod 21
theorem tiltOf_bd (n : Int) : -20 ≤ tiltOf n ∧ tiltOf n ≤ 20 := by
  unfold tiltOf
  rcases Int.le_total 0 n with h | h
  · rw [Int.tmod_eq_emod_of_nonneg h]; omega
  · obtain ⟨k, rfl⟩ : ∃ k, n = -k := ⟨-n, by omega⟩
    rw [Int.neg_tmod, Int.tmod_eq_emod_of_nonneg (by omega)]; omega
theorem tilted_any (n : Int) (h : -128 ≤ n ∧ n ≤ 127) (w : World) : Calls Try.prog 55 #[.int .i8 n] w fun e w' => e = .returned (.int .i64 (tiltOf n)) ∧ Ext w w' := by
  have hb := tiltOf_bd n
  go_enter Try.func55, Try.ntmps55
  go_wp2_with fail
  go_ret
  exact ⟨by simp [tiltOf], (by repeat (with_reducible first | assumption | exact Ext.refl _ | refine Ext.drew ?_ | refine Ext.drewN ?_ _ | refine Ext.alloc ?_ _ | (refine Ext.setCell ?_ ?sz _; case sz => (first | (simp; done) | (simp; omega))) | refine Ext.trans ?_ (by assumption)))⟩

/-- A remainder by a number that is not 0. -/
theorem rem_bd (x n : Int) (hx : 0 ≤ x) (hn : 0 < n) : 0 ≤ x.tmod n ∧ x.tmod n < n := by
  rw [Int.tmod_eq_emod_of_nonneg hx]
  exact ⟨Int.emod_nonneg _ (by omega), Int.emod_lt_of_pos _ hn⟩

/-- What the law's depths returns for a valid measure and tilt. -/
def RetDep (m : Meas) (t : Int) (w : World) (e : Ending) (w' : World) : Prop :=
  ∃ a cap, e = .returned (.tuple #[.slice a m.hs.length cap, .int .i64 (holds m t), .bool true]) ∧ Ints w' a (depths m t) ∧ Ext w w'

set_option maxHeartbeats 1000000 in
theorem depthsL_any (m : Meas) (v : Vld m) (a : Option Addr) (cap : Nat) (t : Int) (h0 : -20 ≤ t) (h1 : t ≤ 20) (w : World) (hI : Ints w a m.hs) :
    Calls Try.prog 56 #[(.agg #[.int .i64 m.L, .int .i64 m.R, .slice a m.hs.length cap]), .int .i64 t] w (RetDep m t w) := by
  have hB := (Ext.refl w).alloc (.cells #[.int .i64 m.L, .int .i64 m.R, .slice a m.hs.length cap] 24)
  have n8 := v.n8
  have n1 := v.n1
  have ht : tlt m t = 0 := tlt_ok.2 ⟨v, h0, h1⟩
  have tI : I64 t := ⟨by omega, by omega⟩
  go_enter Try.func56, Try.ntmps56
  go_wp2_with fail
  refine (depths_any m v.fit a cap t _ (hI.ext (by repeat (with_reducible first | assumption | exact Ext.refl _ | refine Ext.drew ?_ | refine Ext.drewN ?_ _ | refine Ext.alloc ?_ _ | (refine Ext.setCell ?_ ?sz _; case sz => (first | (simp; done) | (simp; omega))) | refine Ext.trans ?_ (by assumption)))) (by omega) tI).mono ?_; rintro e w1 ⟨a1, k1, rfl, hK, hE⟩
  obtain ⟨c0, c1, c2⟩ := box3 hE
  have ed : depthsOf m t = depths m t := by unfold depthsOf; rw [if_pos ht]
  rw [ed] at hK ⊢
  rw [depths_len, ht]
  go_wp2_with fail
  refine (holds_any m v.fit a cap t _ (hI.ext (by repeat (with_reducible first | assumption | exact Ext.refl _ | refine Ext.drew ?_ | refine Ext.drewN ?_ _ | refine Ext.alloc ?_ _ | (refine Ext.setCell ?_ ?sz _; case sz => (first | (simp; done) | (simp; omega))) | refine Ext.trans ?_ (by assumption)))) (by omega) tI).mono ?_; rintro e w2 ⟨rfl, hE2⟩
  have eh : holdsOf m t = holds m t := by unfold holdsOf; rw [if_pos ht]
  rw [eh, ht]
  replace hK := hid (hK.ext hE2)
  replace c2 := hE2.cell c2
  have X : Hid (Ext w w2) := hid (by repeat (with_reducible first | assumption | exact Ext.refl _ | refine Ext.drew ?_ | refine Ext.drewN ?_ _ | refine Ext.alloc ?_ _ | (refine Ext.setCell ?_ ?sz _; case sz => (first | (simp; done) | (simp; omega))) | refine Ext.trans ?_ (by assumption)))
  clear hE hE2 hB c0 c1 hI
  go_wp2_with fail
  have hb := holds_bd v h0 h1
  go_loopw [11, 12] (fun s i wr => ∃ k : Nat, k ≤ m.hs.length ∧ i = .int .i64 k ∧ s = .int .i64 (sumTo (dep m t) k) ∧ Ext w2 wr)
    (fun _ i _ => (m.hs.length - intOf i).toNat)
  case atStart => exact ⟨0, by omega, rfl, rfl, Ext.refl _⟩
  case round =>
    obtain ⟨k, hk, rfl, rfl, hw⟩ := hrel
    have HW := hid hw
    obtain ⟨s0, s1⟩ := sum_bd v h0 h1 k hk
    by_cases hlt : k < m.hs.length
    · have dd : 0 ≤ dep m t k ∧ dep m t k ≤ 420 := depth_bd (f := k) v h0 h1 (by omega) (by omega)
      obtain ⟨d0, d1⟩ := dd
      obtain ⟨b, off, rfl, hc⟩ := hK.out k (by rw [depths_len]; exact hlt)
      rw [depths_nth _ _ hlt] at hc
      replace hc := hw.cell hc
      clear hw
      go_wp2_with fail
      go_roundw
      case rel => exact ⟨k + 1, by omega, by go_num, rfl, HW.out.trans (by repeat (with_reducible first | assumption | exact Ext.refl _ | refine Ext.drew ?_ | refine Ext.drewN ?_ _ | refine Ext.alloc ?_ _ | (refine Ext.setCell ?_ ?sz _; case sz => (first | (simp; done) | (simp; omega))) | refine Ext.trans ?_ (by assumption)))⟩
      case measure => simp [intOf]; omega
    · go_wp2_with fail
      have e : k = m.hs.length := by omega
      subst e
      have hq : (sumTo (dep m t) m.hs.length == holds m t) = true := by simp [holds]
      refine bodyPost_ret (v := .tuple #[.slice a1 m.hs.length k1, .int .i64 (holds m t), .bool true]) ?_ rfl ?_
      · simp [results, Try.results56, go_sem, hq]
      · exact ⟨a1, k1, rfl, hK.out.ext HW.out, X.out.trans HW.out⟩

end Go.Proofs.Ytogglbhidlnijaa
