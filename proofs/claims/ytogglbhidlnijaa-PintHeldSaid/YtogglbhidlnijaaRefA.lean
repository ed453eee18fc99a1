/- The reference's small functions. -/
import Derived.Test.YtogglbhidlnijaaPlain
import Derived.Test.YtogglbhidlnijaaProg
namespace Go.Proofs.Ytogglbhidlnijaa
set_option linter.unusedVariables false
set_option linter.unusedSimpArgs false
set_option linter.unusedSectionVars false
set_option linter.unnecessarySimpa false
open Go Go.RowKit

theorem isHeight_any (n : Int) (w : World) (h : I64 n) :
    Calls Try.prog 75 #[.int .i64 n] w fun e w' => e = .returned (.bool (inH n)) ∧ w = w' := by
  obtain ⟨h1, h2⟩ := h
  go_enter Try.func75, Try.ntmps75
  go_wp2
  all_goals go_ret
  · exact ⟨ret_bool (by simp [inH, *]), rfl⟩
  · exact ⟨ret_bool (by simp [inH]; omega), rfl⟩

set_option maxHeartbeats 400000 in
theorem height_any (m : Meas) (v : Vld m) (a : Option Addr) (cap : Nat) (t i : Int) (w : World) (hI : Ints w a m.hs)
    (h0 : -20 ≤ t) (h1 : t ≤ 20) (h2 : -1 ≤ i) (h3 : i ≤ 8) :
    Calls Try.prog 57 #[.agg #[.int .i64 m.L, .int .i64 m.R, .slice a m.hs.length cap], .int .i64 t, .int .i64 i] w fun e w' =>
      e = .returned (.int .i64 (hAt m t i)) ∧ Ext w w' := by
  obtain ⟨q0, q1⟩ := mul_bd t i h0 h1 h2 h3
  have l0 := v.l0; have l1 := v.l1; have r0 := v.r0; have r1 := v.r1
  have n8 := v.n8
  by_cases c1 : i < 0
  · have H := hid (hAt_neg (m := m) (t := t) c1)
    go_enter Try.func57, Try.ntmps57
    go_wp2
    go_ret
    exact ⟨ret_int H.out.symm, (Ext.refl w).alloc _⟩
  · obtain ⟨k, rfl⟩ := Int.eq_ofNat_of_zero_le (show 0 ≤ i by omega)
    by_cases c2 : m.hs.length ≤ k
    · have H := hid (hAt_end (m := m) (t := t) (i := (k : Int)) (by omega) (by omega))
      go_enter Try.func57, Try.ntmps57
      go_wp2
      go_ret
      exact ⟨ret_int H.out.symm, (Ext.refl w).alloc _⟩
    · have H := hid (hAt_mid (m := m) (t := t) (i := (k : Int)) (by omega) (by omega))
      obtain ⟨b, off, rfl, hb, hc⟩ := hI.at (by omega)
      have hck := hc k (by omega)
      have e0 := v.h0 k; have e1 := v.h1 k
      clear hc hI
      go_enter Try.func57, Try.ntmps57
      go_wp2
      go_ret
      exact ⟨ret_int H.out.symm, (Ext.refl w).alloc _⟩

set_option maxHeartbeats 1000000 in
theorem greatestL_any (m : Meas) (v : Vld m) (a : Option Addr) (cap : Nat) (t f : Int) (w : World) (hI : Ints w a m.hs)
    (h0 : -20 ≤ t) (h1 : t ≤ 20) (h2 : 0 ≤ f) (h3 : f < m.hs.length) :
    Calls Try.prog 78 #[.agg #[.int .i64 m.L, .int .i64 m.R, .slice a m.hs.length cap], .int .i64 t, .int .i64 f, .int .i64 (-1)] w fun e w' =>
      e = .returned (.tuple #[.int .i64 (topL m t f), .int .i64 (wallL m t f)]) ∧ Ext w w' := by
  have n8 := v.n8
  have hB : Ext w (w.alloc (.cells #[.int .i64 m.L, .int .i64 m.R, .slice a m.hs.length cap] 24)) := (Ext.refl w).alloc _
  go_enter Try.func78, Try.ntmps78
  go_wp2_with fail
  refine (height_any m v a cap t f _ (hI.ext hB) h0 h1 (by omega) (by omega)).mono ?_
  rintro e w1 ⟨rfl, hE⟩
  have c0 := hE.cell (show (w.alloc (.cells #[.int .i64 m.L, .int .i64 m.R, .slice a m.hs.length cap] 24)).cell? ⟨w.heap.size, 0, none⟩ = some (.int .i64 m.L) by simp [go_sem])
  have c1 := hE.cell (show (w.alloc (.cells #[.int .i64 m.L, .int .i64 m.R, .slice a m.hs.length cap] 24)).cell? ⟨w.heap.size, 1, none⟩ = some (.int .i64 m.R) by simp [go_sem])
  have c2 := hE.cell (show (w.alloc (.cells #[.int .i64 m.L, .int .i64 m.R, .slice a m.hs.length cap] 24)).cell? ⟨w.heap.size, 2, none⟩ = some (.slice a m.hs.length cap) by simp [go_sem])
  have hE' := hid hE
  have HI := hid (hI.ext (hB.trans hE))
  have HB := hid (hB.trans hE)
  have hd : decide (-1 < f) = true := by simp; omega
  clear hE hI hB
  go_wp2_with fail
  go_loopw [10, 11, 13] (fun o p i wr => ∃ k : Nat, (k : Int) ≤ f + 1 ∧ i = .int .i64 (f - k) ∧ o = .int .i64 (hAt m t (bp (hAt m t) (toL f) k)) ∧ p = .int .i64 (bp (hAt m t) (toL f) k) ∧ Ext w1 wr)
    (fun _ _ i _ => (intOf i + 1).toNat)
  case atStart => exact ⟨0, by omega, by simp, by simp [bp, toL], by simp [bp, toL], Ext.refl _⟩
  case round =>
    obtain ⟨k, hk, rfl, rfl, rfl, hw⟩ := hrel
    have c0 := hw.cell c0
    have c1 := hw.cell c1
    have c2 := hw.cell c2
    have HW := hid hw
    clear hw
    by_cases hlt : (k : Int) < f + 1
    · have hn : (f - (k : Int) != -1) = true := by rw [bne_iff_ne]; omega
      go_wp2_with fail
      refine (height_any m v a cap t _ _ (HI.out.ext HW.out) h0 h1 (by omega) (by omega)).mono ?_
      rintro e w2 ⟨rfl, hE⟩
      have e1 : f - (k : Int) + -1 = toL f (k + 1) := by simp [toL]; omega
      by_cases hg : hAt m t (bp (hAt m t) (toL f) k) < hAt m t (f - k + -1)
      · have c0 := hE.cell c0
        have c1 := hE.cell c1
        have c2 := hE.cell c2
        have HE := hid hE
        have E1 := hid e1
        clear hE e1
        go_wp2_with fail
        refine (height_any m v a cap t _ _ ((HI.out.ext HW.out).ext HE.out) h0 h1 (by omega) (by omega)).mono ?_
        rintro e w3 ⟨rfl, hE⟩
        have HE3 := hid hE
        clear hE
        go_wp2_with fail
        go_roundw
        case rel =>
          refine ⟨k + 1, by omega, by simp; omega, ?_, ?_, (HW.out.trans HE.out).trans HE3.out⟩
          · rw [bp_yes (by rw [← E1.out]; exact hg), E1.out]
          · rw [bp_yes (by rw [← E1.out]; exact hg), E1.out]
        case measure => simp [intOf]; omega
      · have HE := hid hE
        have E1 := hid e1
        clear hE e1
        go_wp2_with fail
        go_roundw
        case rel =>
          refine ⟨k + 1, by omega, by simp; omega, ?_, ?_, HW.out.trans HE.out⟩
          · rw [bp_no (by rw [← E1.out]; exact Int.not_lt.2 hg)]
          · rw [bp_no (by rw [← E1.out]; exact Int.not_lt.2 hg)]
        case measure => simp [intOf]; omega
    · have hn : (f - (k : Int) != -1) = false := by rw [bne_eq_false_iff_eq]; omega
      go_wp2_with fail
      go_ret2
      have e : k = (f + 1).toNat := by omega
      subst e
      exact ⟨rfl, HB.out.trans HW.out⟩
set_option maxHeartbeats 1000000 in
theorem greatestR_any (m : Meas) (v : Vld m) (a : Option Addr) (cap : Nat) (t f : Int) (w : World) (hI : Ints w a m.hs)
    (h0 : -20 ≤ t) (h1 : t ≤ 20) (h2 : 0 ≤ f) (h3 : f < m.hs.length) :
    Calls Try.prog 78 #[.agg #[.int .i64 m.L, .int .i64 m.R, .slice a m.hs.length cap], .int .i64 t, .int .i64 f, .int .i64 m.hs.length] w fun e w' =>
      e = .returned (.tuple #[.int .i64 (topR m t f), .int .i64 (wallR m t f)]) ∧ Ext w w' := by
  have n8 := v.n8
  have hB : Ext w (w.alloc (.cells #[.int .i64 m.L, .int .i64 m.R, .slice a m.hs.length cap] 24)) := (Ext.refl w).alloc _
  go_enter Try.func78, Try.ntmps78
  go_wp2_with fail
  refine (height_any m v a cap t f _ (hI.ext hB) h0 h1 (by omega) (by omega)).mono ?_
  rintro e w1 ⟨rfl, hE⟩
  have c0 := hE.cell (show (w.alloc (.cells #[.int .i64 m.L, .int .i64 m.R, .slice a m.hs.length cap] 24)).cell? ⟨w.heap.size, 0, none⟩ = some (.int .i64 m.L) by simp [go_sem])
  have c1 := hE.cell (show (w.alloc (.cells #[.int .i64 m.L, .int .i64 m.R, .slice a m.hs.length cap] 24)).cell? ⟨w.heap.size, 1, none⟩ = some (.int .i64 m.R) by simp [go_sem])
  have c2 := hE.cell (show (w.alloc (.cells #[.int .i64 m.L, .int .i64 m.R, .slice a m.hs.length cap] 24)).cell? ⟨w.heap.size, 2, none⟩ = some (.slice a m.hs.length cap) by simp [go_sem])
  have hE' := hid hE
  have HI := hid (hI.ext (hB.trans hE))
  have HB := hid (hB.trans hE)
  have hd : decide ((m.hs.length : Int) < f) = false := by simp; omega
  clear hE hI hB
  go_wp2_with fail
  go_loopw [10, 11, 13] (fun o p i wr => ∃ k : Nat, f + (k : Int) ≤ m.hs.length ∧ i = .int .i64 (f + k) ∧ o = .int .i64 (hAt m t (bp (hAt m t) (toR f) k)) ∧ p = .int .i64 (bp (hAt m t) (toR f) k) ∧ Ext w1 wr)
    (fun _ _ i _ => ((m.hs.length : Int) - intOf i).toNat)
  case atStart => exact ⟨0, by omega, by simp, by simp [bp, toR], by simp [bp, toR], Ext.refl _⟩
  case round =>
    obtain ⟨k, hk, rfl, rfl, rfl, hw⟩ := hrel
    have c0 := hw.cell c0
    have c1 := hw.cell c1
    have c2 := hw.cell c2
    have HW := hid hw
    clear hw
    by_cases hlt : f + (k : Int) < m.hs.length
    · have hn : (f + (k : Int) != m.hs.length) = true := by rw [bne_iff_ne]; omega
      go_wp2_with fail
      refine (height_any m v a cap t _ _ (HI.out.ext HW.out) h0 h1 (by omega) (by omega)).mono ?_
      rintro e w2 ⟨rfl, hE⟩
      have e1 : f + (k : Int) + 1 = toR f (k + 1) := by simp [toR]; omega
      by_cases hg : hAt m t (bp (hAt m t) (toR f) k) < hAt m t (f + k + 1)
      · have c0 := hE.cell c0
        have c1 := hE.cell c1
        have c2 := hE.cell c2
        have HE := hid hE
        have E1 := hid e1
        clear hE e1
        go_wp2_with fail
        refine (height_any m v a cap t _ _ ((HI.out.ext HW.out).ext HE.out) h0 h1 (by omega) (by omega)).mono ?_
        rintro e w3 ⟨rfl, hE⟩
        have HE3 := hid hE
        clear hE
        go_wp2_with fail
        go_roundw
        case rel =>
          refine ⟨k + 1, by omega, by simp; omega, ?_, ?_, (HW.out.trans HE.out).trans HE3.out⟩
          · rw [bp_yes (by rw [← E1.out]; exact hg), E1.out]
          · rw [bp_yes (by rw [← E1.out]; exact hg), E1.out]
        case measure => simp [intOf]; omega
      · have HE := hid hE
        have E1 := hid e1
        clear hE e1
        go_wp2_with fail
        go_roundw
        case rel =>
          refine ⟨k + 1, by omega, by simp; omega, ?_, ?_, HW.out.trans HE.out⟩
          · rw [bp_no (by rw [← E1.out]; exact Int.not_lt.2 hg)]
          · rw [bp_no (by rw [← E1.out]; exact Int.not_lt.2 hg)]
        case measure => simp [intOf]; omega
    · have hn : (f + (k : Int) != m.hs.length) = false := by rw [bne_eq_false_iff_eq]; omega
      go_wp2_with fail
      go_ret2
      have e : k = (m.hs.length - f).toNat := by omega
      subst e
      exact ⟨rfl, HB.out.trans HW.out⟩


set_option maxHeartbeats 400000 in
theorem tops_any (m : Meas) (v : Vld m) (a : Option Addr) (cap : Nat) (t f : Int) (w : World) (hI : Ints w a m.hs)
    (h0 : -20 ≤ t) (h1 : t ≤ 20) (h2 : 0 ≤ f) (h3 : f < m.hs.length) :
    Calls Try.prog 72 #[.agg #[.int .i64 m.L, .int .i64 m.R, .slice a m.hs.length cap], .int .i64 t, .int .i64 f] w fun e w' =>
      e = .returned (.tuple #[.int .i64 (topL m t f), .int .i64 (topR m t f)]) ∧ Ext w w' := by
  have HB := hid ((Ext.refl w).alloc (.cells #[.int .i64 m.L, .int .i64 m.R, .slice a m.hs.length cap] 24))
  have HI := hid hI
  clear hI
  go_enter Try.func72, Try.ntmps72
  go_wp2_with fail
  refine (greatestL_any m v a cap t f _ (HI.out.ext HB.out) h0 h1 h2 h3).mono ?_
  rintro e w1 ⟨rfl, hE⟩
  obtain ⟨c0, c1, c2⟩ := box3 hE
  have HE := hid (HB.out.trans hE)
  clear hE
  go_wp2_with fail
  refine (greatestR_any m v a cap t f _ (HI.out.ext HE.out) h0 h1 h2 h3).mono ?_
  rintro e w2 ⟨rfl, hE2⟩
  have HE2 := hid hE2
  clear hE2
  go_wp2_with fail
  go_ret2
  exact ⟨rfl, HE.out.trans HE2.out⟩

set_option maxHeartbeats 400000 in
theorem depthOf_any (m : Meas) (v : Vld m) (a : Option Addr) (cap : Nat) (t f : Int) (w : World) (hI : Ints w a m.hs)
    (h0 : -20 ≤ t) (h1 : t ≤ 20) (h2 : 0 ≤ f) (h3 : f < m.hs.length) :
    Calls Try.prog 69 #[.agg #[.int .i64 m.L, .int .i64 m.R, .slice a m.hs.length cap], .int .i64 t, .int .i64 f] w fun e w' =>
      e = .returned (.int .i64 (depth m t f)) ∧ Ext w w' := by
  have HB := hid ((Ext.refl w).alloc (.cells #[.int .i64 m.L, .int .i64 m.R, .slice a m.hs.length cap] 24))
  have HI := hid hI
  have n8 := v.n8
  obtain ⟨p0, p1⟩ := topL_bd v h0 h1 h2 h3
  obtain ⟨p2, p3⟩ := topR_bd v h0 h1 h2 h3
  obtain ⟨p4, p5⟩ := hAt_bd (i := f) v h0 h1 (by omega) (by omega)
  clear hI
  go_enter Try.func69, Try.ntmps69
  go_wp2_with fail
  refine (tops_any m v a cap t f _ (HI.out.ext HB.out) h0 h1 h2 h3).mono ?_
  rintro e w1 ⟨rfl, hE⟩
  obtain ⟨c0, c1, c2⟩ := box3 hE
  have HE := hid (HB.out.trans hE)
  clear hE
  by_cases hm : topR m t f < topL m t f
  all_goals
    go_wp2_with fail
    refine (height_any m v a cap t f _ (HI.out.ext HE.out) h0 h1 (by omega) (by omega)).mono ?_
    rintro e w2 ⟨rfl, hE2⟩
    have HE2 := hid hE2
    clear hE2
    go_wp2_with fail
    go_ret
    exact ⟨ret_int (by unfold depth; omega), HE.out.trans HE2.out⟩

set_option maxHeartbeats 400000 in
theorem holdsOf_any (m : Meas) (v : Vld m) (a : Option Addr) (cap : Nat) (t : Int) (w : World) (hI : Ints w a m.hs)
    (h0 : -20 ≤ t) (h1 : t ≤ 20) :
    Calls Try.prog 52 #[.agg #[.int .i64 m.L, .int .i64 m.R, .slice a m.hs.length cap], .int .i64 t] w fun e w' =>
      e = .returned (.int .i64 (holds m t)) ∧ Ext w w' := by
  have HB := hid ((Ext.refl w).alloc (.cells #[.int .i64 m.L, .int .i64 m.R, .slice a m.hs.length cap] 24))
  have HI := hid hI
  have n8 := v.n8
  clear hI
  go_enter Try.func52, Try.ntmps52
  go_wp2_with fail
  go_loopw [5, 6] (fun s i wr => ∃ k : Nat, k ≤ m.hs.length ∧ i = .int .i64 k ∧ s = .int .i64 (sumTo (dep m t) k) ∧ Ext (w.alloc (.cells #[.int .i64 m.L, .int .i64 m.R, .slice a m.hs.length cap] 24)) wr)
    (fun _ i _ => (m.hs.length - intOf i).toNat)
  case atStart => exact ⟨0, by omega, rfl, rfl, Ext.refl _⟩
  case round =>
    obtain ⟨k, hk, rfl, rfl, hw⟩ := hrel
    obtain ⟨c0, c1, c2⟩ := box3 hw
    have HW := hid hw
    clear hw
    obtain ⟨s0, s1⟩ := sum_bd v h0 h1 k hk
    by_cases hlt : k < m.hs.length
    · go_wp2_with fail
      refine (depthOf_any m v a cap t _ _ (HI.out.ext (HB.out.trans HW.out)) h0 h1 (by omega) (by omega)).mono ?_
      rintro e w2 ⟨rfl, hE⟩
      have HE := hid hE
      clear hE
      obtain ⟨d0, d1⟩ := depth_bd (f := k) v h0 h1 (by omega) (by omega)
      go_wp2_with fail
      go_roundw
      case rel => exact ⟨k + 1, by omega, by go_num, rfl, HW.out.trans HE.out⟩
      case measure => simp [intOf]; omega
    · go_wp2_with fail
      go_ret
      have e : k = m.hs.length := by omega
      subst e
      exact ⟨rfl, HB.out.trans HW.out⟩

set_option maxHeartbeats 1000000 in
theorem checkMeasureR_any (m : Meas) (q : Fit m) (a : Option Addr) (cap : Nat) (w : World) (hI : Ints w a m.hs) (hl : m.hs.length ≤ 1000) :
    Calls Try.prog 28 #[.agg #[.int .i64 m.L, .int .i64 m.R, .slice a m.hs.length cap]] w fun e w' =>
      e = .returned (.int .i64 (chk m)) ∧ Ext w w' := by
  have HB := hid ((Ext.refl w).alloc (.cells #[.int .i64 m.L, .int .i64 m.R, .slice a m.hs.length cap] 24))
  have HI := hid hI
  clear hI
  by_cases g1 : m.hs.length < 1
  · have H := hid (chk_many (m := m) (.inl g1))
    go_enter Try.func28, Try.ntmps28
    go_wp2_with fail
    go_ret
    exact ⟨ret_int H.out.symm, HB.out⟩
  by_cases g2 : 8 < m.hs.length
  · have H := hid (chk_many (m := m) (.inr g2))
    go_enter Try.func28, Try.ntmps28
    go_wp2_with fail
    go_ret
    exact ⟨ret_int H.out.symm, HB.out⟩
  cases g3 : inH m.L with
  | false =>
    have H := hid (chk_range (m := m) (by omega) (by omega) (fun v => by have := inH_iff.2 ⟨v.l0, v.l1⟩; simp [g3] at this))
    go_enter Try.func28, Try.ntmps28
    go_wp2_with (go_at_call 75; refine (isHeight_any _ _ q.l).mono ?_; rintro e w1 ⟨rfl, rfl⟩)
    go_ret
    exact ⟨ret_int H.out.symm, HB.out⟩
  | true =>
  cases g4 : inH m.R with
  | false =>
    have H := hid (chk_range (m := m) (by omega) (by omega) (fun v => by have := inH_iff.2 ⟨v.r0, v.r1⟩; simp [g4] at this))
    go_enter Try.func28, Try.ntmps28
    go_wp2_with fail
    refine (isHeight_any _ _ q.l).mono ?_; rintro e w1 ⟨rfl, rfl⟩
    go_wp2_with fail
    refine (isHeight_any _ _ q.r).mono ?_; rintro e w1 ⟨rfl, rfl⟩
    go_wp2_with fail
    go_ret
    exact ⟨ret_int H.out.symm, HB.out⟩
  | true =>
    obtain ⟨b, off, rfl, hb, hc⟩ := HI.out.at (by omega)
    have HC := hid hc
    have G3 := hid g3
    have G4 := hid g4
    clear hc
    go_enter Try.func28, Try.ntmps28
    go_wp2_with fail
    refine (isHeight_any _ _ q.l).mono ?_; rintro e w1 ⟨rfl, rfl⟩
    go_wp2_with fail
    refine (isHeight_any _ _ q.r).mono ?_; rintro e w1 ⟨rfl, rfl⟩
    go_wp2_with fail
    go_loop [3] (fun i => ∃ k : Nat, k ≤ m.hs.length ∧ i = .int .i64 k ∧ Hid (∀ j, j < k → inH (nth m.hs j) = true))
      (fun i => (m.hs.length - intOf i).toNat)
    case atStart => exact ⟨0, by omega, rfl, fun j hj => absurd hj (by omega)⟩
    case round =>
      obtain ⟨k, hk, rfl, hj⟩ := hrel
      by_cases hlt : k < m.hs.length
      · have hck := HC.out k hlt
        cases g5 : inH (nth m.hs k) with
        | false =>
          have H := hid (chk_range (m := m) (by omega) (by omega) (fun v => by have := inH_iff.2 ⟨v.h0 k, v.h1 k⟩; simp [g5] at this))
          go_wp2_with fail
          refine (isHeight_any _ _ (q.h k)).mono ?_; rintro e w1 ⟨rfl, rfl⟩
          go_wp2_with fail
          go_ret
          exact ⟨ret_int H.out.symm, HB.out⟩
        | true =>
          have G5 := hid g5
          go_wp2_with fail
          refine (isHeight_any _ _ (q.h k)).mono ?_; rintro e w1 ⟨rfl, rfl⟩
          go_wp2_with fail
          go_round
          case rel =>
            refine ⟨k + 1, by omega, by go_num, fun j hj' => ?_⟩
            rcases Nat.lt_or_ge j k with h | h
            · exact hj.out j h
            · obtain rfl : j = k := by omega
              exact G5.out
          case measure => simp [intOf]; omega
      · go_wp2_with fail
        go_ret
        have e : chk m = 0 := by
          unfold chk
          rw [if_neg (by omega), if_pos ⟨G3.out, G4.out, fun i hi => hj.out i (by omega)⟩]
        exact ⟨ret_int e.symm, HB.out⟩

end Go.Proofs.Ytogglbhidlnijaa
