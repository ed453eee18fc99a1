/- The reference's functions with errors. -/
import Derived.Test.YtogglbhidlnijaaRefA
import Derived.OwnWalk
import Derived.Deep.RegionHeld3
namespace Go.Proofs.Ytogglbhidlnijaa
set_option linter.unusedVariables false
set_option linter.unusedSimpArgs false
set_option linter.unusedSectionVars false
set_option linter.unnecessarySimpa false
open Go Go.RowKit
set_option maxHeartbeats 400000 in
theorem tiltedR_any (m : Meas) (q : Fit m) (a : Option Addr) (cap : Nat) (t : Int) (w : World) (hI : Ints w a m.hs) (hl : m.hs.length ≤ 1000) :
    Calls Try.prog 68 #[(.agg #[.int .i64 m.L, .int .i64 m.R, .slice a m.hs.length cap]), .int .i64 t] w fun e w' => e = .returned (.int .i64 (tlt m t)) ∧ Ext w w' := by
  have HB := hid ((Ext.refl w).alloc (.cells #[.int .i64 m.L, .int .i64 m.R, .slice a m.hs.length cap] 24))
  have HI := hid hI
  clear hI
  by_cases g : chk m = 0
  · have g0 : (chk m != 0) = false := by simp [g]
    have G := hid g
    clear g
    by_cases g1 : t < -20
    · have H := hid (tlt_far (t := t) G.out (.inl g1))
      go_enter Try.func68, Try.ntmps68
      go_wp2_with (go_at_call 28; refine (checkMeasureR_any m q a cap _ (HI.out.ext HB.out) hl).mono ?_; rintro e w1 ⟨rfl, hE⟩; have HE := hid hE; clear hE)
      go_ret
      exact ⟨ret_int H.out.symm, HB.out.trans HE.out⟩
    by_cases g2 : 20 < t
    · have H := hid (tlt_far (t := t) G.out (.inr g2))
      go_enter Try.func68, Try.ntmps68
      go_wp2_with (go_at_call 28; refine (checkMeasureR_any m q a cap _ (HI.out.ext HB.out) hl).mono ?_; rintro e w1 ⟨rfl, hE⟩; have HE := hid hE; clear hE)
      go_ret
      exact ⟨ret_int H.out.symm, HB.out.trans HE.out⟩
    · have H := hid (tlt_ok (t := t).2 ⟨chk_ok.1 G.out, by omega, by omega⟩)
      go_enter Try.func68, Try.ntmps68
      go_wp2_with (go_at_call 28; refine (checkMeasureR_any m q a cap _ (HI.out.ext HB.out) hl).mono ?_; rintro e w1 ⟨rfl, hE⟩; have HE := hid hE; clear hE)
      go_ret
      exact ⟨ret_int H.out.symm, HB.out.trans HE.out⟩
  · have g0 : (chk m != 0) = true := by simp [g]
    have H := hid (tlt_bad (t := t) g)
    clear g
    go_enter Try.func68, Try.ntmps68
    go_wp2_with fail
    refine (checkMeasureR_any m q a cap _ (HI.out.ext HB.out) hl).mono ?_
    rintro e w1 ⟨rfl, hE⟩
    obtain ⟨c0, c1, c2⟩ := box3 hE
    have HE := hid (HB.out.trans hE)
    clear hE
    go_wp2_with fail
    refine (checkMeasureR_any m q a cap _ (HI.out.ext HE.out) hl).mono ?_
    rintro e w1 ⟨rfl, hE2⟩
    have HE2 := hid (HE.out.trans hE2)
    clear hE2
    go_wp2_with fail
    go_ret
    exact ⟨ret_int H.out.symm, HE2.out⟩

set_option maxHeartbeats 400000 in
theorem placedR_any (m : Meas) (q : Fit m) (a : Option Addr) (cap : Nat) (t i : Int) (w : World) (hI : Ints w a m.hs) (hl : m.hs.length ≤ 1000) :
    Calls Try.prog 71 #[(.agg #[.int .i64 m.L, .int .i64 m.R, .slice a m.hs.length cap]), .int .i64 t, .int .i64 i] w fun e w' => e = .returned (.int .i64 (plc m t i)) ∧ Ext w w' := by
  have HB := hid ((Ext.refl w).alloc (.cells #[.int .i64 m.L, .int .i64 m.R, .slice a m.hs.length cap] 24))
  have HI := hid hI
  clear hI
  by_cases g : tlt m t = 0
  · have g0 : (tlt m t != 0) = false := by simp [g]
    have G := hid g
    clear g
    by_cases g1 : i < 0
    · have H := hid (plc_far (t := t) G.out (.inl g1))
      go_enter Try.func71, Try.ntmps71
      go_wp2_with (go_at_call 68; refine (tiltedR_any m q a cap t _ (HI.out.ext HB.out) hl).mono ?_; rintro e w1 ⟨rfl, hE⟩; have HE := hid hE; clear hE)
      go_ret
      exact ⟨ret_int H.out.symm, HB.out.trans HE.out⟩
    by_cases g2 : (m.hs.length : Int) ≤ i
    · have H := hid (plc_far (t := t) G.out (.inr g2))
      go_enter Try.func71, Try.ntmps71
      go_wp2_with (go_at_call 68; refine (tiltedR_any m q a cap t _ (HI.out.ext HB.out) hl).mono ?_; rintro e w1 ⟨rfl, hE⟩; obtain ⟨c0, c1, c2⟩ := box3 hE; have HE := hid hE; clear hE)
      go_ret
      exact ⟨ret_int H.out.symm, HB.out.trans HE.out⟩
    · have H := hid (plc_ok (t := t) (i := i).2 ⟨tlt_ok.1 G.out, by omega, by omega⟩)
      go_enter Try.func71, Try.ntmps71
      go_wp2_with (go_at_call 68; refine (tiltedR_any m q a cap t _ (HI.out.ext HB.out) hl).mono ?_; rintro e w1 ⟨rfl, hE⟩; obtain ⟨c0, c1, c2⟩ := box3 hE; have HE := hid hE; clear hE)
      go_ret
      exact ⟨ret_int H.out.symm, HB.out.trans HE.out⟩
  · have g0 : (tlt m t != 0) = true := by simp [g]
    have H := hid (plc_bad (i := i) g)
    clear g
    go_enter Try.func71, Try.ntmps71
    go_wp2_with fail
    refine (tiltedR_any m q a cap t _ (HI.out.ext HB.out) hl).mono ?_
    rintro e w1 ⟨rfl, hE⟩
    obtain ⟨c0, c1, c2⟩ := box3 hE
    have HE := hid (HB.out.trans hE)
    clear hE
    go_wp2_with fail
    refine (tiltedR_any m q a cap t _ (HI.out.ext HE.out) hl).mono ?_
    rintro e w1 ⟨rfl, hE2⟩
    have HE2 := hid (HE.out.trans hE2)
    clear hE2
    go_wp2_with fail
    go_ret
    exact ⟨ret_int H.out.symm, HE2.out⟩


theorem elemI64 : ElemI Try.prog 2 := elemI_mk (by kernel_rfl)

/-- The call returns the integers l and an error. -/
def RetInts (l : List Int) (er : Int) (w : World) (e : Ending) (w' : World) : Prop :=
  ∃ a cap, e = .returned (.tuple #[.slice a l.length cap, .int .i64 er]) ∧ Ints w' a l ∧ Ext w w'

set_option maxHeartbeats 400000 in
theorem levelOf_any (m : Meas) (v : Vld m) (a : Option Addr) (cap : Nat) (t f : Int) (w : World) (hI : Ints w a m.hs)
    (h0 : -20 ≤ t) (h1 : t ≤ 20) (h2 : 0 ≤ f) (h3 : f < m.hs.length) :
    Calls Try.prog 73 #[(.agg #[.int .i64 m.L, .int .i64 m.R, .slice a m.hs.length cap]), .int .i64 t, .int .i64 f] w fun e w' =>
      e = .returned (.int .i64 (depth m t f + hAt m t f)) ∧ Ext w w' := by
  have hB := (Ext.refl w).alloc (.cells #[.int .i64 m.L, .int .i64 m.R, .slice a m.hs.length cap] 24)
  have n8 := v.n8
  obtain ⟨p4, p5⟩ := hAt_bd (i := f) v h0 h1 (by omega) (by omega)
  obtain ⟨d0, d1⟩ := depth_bd v h0 h1 h2 h3
  have hw := IntWalk.i64_in (depth m t f + hAt m t f) (by omega)
  go_enter Try.func73, Try.ntmps73
  go_wp2_with fail
  go_region_held3 (fun w' => w'.cell? ⟨w.heap.size, 0, none⟩ = some (.int .i64 m.L) ∧ w'.cell? ⟨w.heap.size, 1, none⟩ = some (.int .i64 m.R) ∧ w'.cell? ⟨w.heap.size, 2, none⟩ = some (.slice a m.hs.length cap) ∧ Ints w' a m.hs ∧ Ext (w.alloc (.cells #[.int .i64 m.L, .int .i64 m.R, .slice a m.hs.length cap] 24)) w') (((try go_split_ands); (repeat' apply And.intro) <;> (first | (simp [go_sem]; done) | (simp [go_sem, *]; done) | exact Ext.cell hE (by assumption) | exact Ints.ext (by assumption) hE | exact Ints.ext hI (by repeat (with_reducible first | assumption | exact Ext.refl _ | refine Ext.drew ?_ | refine Ext.drewN ?_ _ | refine Ext.alloc ?_ _ | (refine Ext.setCell ?_ ?sz _; case sz => (first | (simp; done) | (simp; omega))) | refine Ext.trans ?_ (by assumption))) | exact (by repeat (with_reducible first | assumption | exact Ext.refl _ | refine Ext.drew ?_ | refine Ext.drewN ?_ _ | refine Ext.alloc ?_ _ | (refine Ext.setCell ?_ ?sz _; case sz => (first | (simp; done) | (simp; omega))) | refine Ext.trans ?_ (by assumption))))))
    (first | (go_at_call 69; go_split_ands; refine (depthOf_any m v a cap t f _ (by assumption) h0 h1 h2 h3).mono ?_; rintro e w1 ⟨rfl, hE⟩) | (go_at_call 57; go_split_ands; refine (height_any m v a cap t f _ (by assumption) h0 h1 (by omega) (by omega)).mono ?_; rintro e w1 ⟨rfl, hE⟩))
  go_wp2_with fail
  go_ret
  exact ⟨rfl, (by repeat (with_reducible first | assumption | exact Ext.refl _ | refine Ext.drew ?_ | refine Ext.drewN ?_ _ | refine Ext.alloc ?_ _ | (refine Ext.setCell ?_ ?sz _; case sz => (first | (simp; done) | (simp; omega))) | refine Ext.trans ?_ (by assumption)))⟩

set_option maxHeartbeats 400000 in
theorem holdsR_any (m : Meas) (q : Fit m) (a : Option Addr) (cap : Nat) (t : Int) (w : World) (hI : Ints w a m.hs) (hl : m.hs.length ≤ 1000) :
    Calls Try.prog 22 #[(.agg #[.int .i64 m.L, .int .i64 m.R, .slice a m.hs.length cap]), .int .i64 t] w fun e w' => e = .returned (.tuple #[.int .i64 (holdsOf m t), .int .i64 (tlt m t)]) ∧ Ext w w' := by
  have hB := (Ext.refl w).alloc (.cells #[.int .i64 m.L, .int .i64 m.R, .slice a m.hs.length cap] 24)
  by_cases g : tlt m t = 0
  · have g0 : (tlt m t != 0) = false := by simp [g]
    have k := tlt_ok.1 g
    have H := hid (show holdsOf m t = holds m t by unfold holdsOf; rw [if_pos g])
    have G := hid g
    clear g
    go_enter Try.func22, Try.ntmps22
    go_wp2_with fail
    (refine (tiltedR_any m q a cap t _ (by first | assumption | exact Ints.ext hI (by repeat (with_reducible first | assumption | exact Ext.refl _ | refine Ext.drew ?_ | refine Ext.drewN ?_ _ | refine Ext.alloc ?_ _ | (refine Ext.setCell ?_ ?sz _; case sz => (first | (simp; done) | (simp; omega))) | refine Ext.trans ?_ (by assumption)))) hl).mono ?_; rintro e w1 ⟨rfl, hE⟩; obtain ⟨c0, c1, c2⟩ := box3 hE)
    go_wp2_with fail
    refine (holdsOf_any m k.v a cap t _ (by first | assumption | exact Ints.ext hI (by repeat (with_reducible first | assumption | exact Ext.refl _ | refine Ext.drew ?_ | refine Ext.drewN ?_ _ | refine Ext.alloc ?_ _ | (refine Ext.setCell ?_ ?sz _; case sz => (first | (simp; done) | (simp; omega))) | refine Ext.trans ?_ (by assumption)))) k.t0 k.t1).mono ?_
    rintro e w2 ⟨rfl, hE2⟩
    go_wp2_with fail
    go_ret2
    exact ⟨ret2i H.out.symm G.out.symm, (by repeat (with_reducible first | assumption | exact Ext.refl _ | refine Ext.drew ?_ | refine Ext.drewN ?_ _ | refine Ext.alloc ?_ _ | (refine Ext.setCell ?_ ?sz _; case sz => (first | (simp; done) | (simp; omega))) | refine Ext.trans ?_ (by assumption)))⟩
  · have g0 : (tlt m t != 0) = true := by simp [g]
    have H := hid (show holdsOf m t = 0 by unfold holdsOf; rw [if_neg g])
    clear g
    go_enter Try.func22, Try.ntmps22
    go_wp2_with fail
    (refine (tiltedR_any m q a cap t _ (by first | assumption | exact Ints.ext hI (by repeat (with_reducible first | assumption | exact Ext.refl _ | refine Ext.drew ?_ | refine Ext.drewN ?_ _ | refine Ext.alloc ?_ _ | (refine Ext.setCell ?_ ?sz _; case sz => (first | (simp; done) | (simp; omega))) | refine Ext.trans ?_ (by assumption)))) hl).mono ?_; rintro e w1 ⟨rfl, hE⟩; obtain ⟨c0, c1, c2⟩ := box3 hE)
    go_wp2_with fail
    (refine (tiltedR_any m q a cap t _ (by first | assumption | exact Ints.ext hI (by repeat (with_reducible first | assumption | exact Ext.refl _ | refine Ext.drew ?_ | refine Ext.drewN ?_ _ | refine Ext.alloc ?_ _ | (refine Ext.setCell ?_ ?sz _; case sz => (first | (simp; done) | (simp; omega))) | refine Ext.trans ?_ (by assumption)))) hl).mono ?_; rintro e w2 ⟨rfl, hE2⟩)
    go_wp2_with fail
    go_ret2
    exact ⟨ret2i H.out.symm rfl, (by repeat (with_reducible first | assumption | exact Ext.refl _ | refine Ext.drew ?_ | refine Ext.drewN ?_ _ | refine Ext.alloc ?_ _ | (refine Ext.setCell ?_ ?sz _; case sz => (first | (simp; done) | (simp; omega))) | refine Ext.trans ?_ (by assumption)))⟩

set_option maxHeartbeats 400000 in
theorem overR_any (m : Meas) (q : Fit m) (a : Option Addr) (cap : Nat) (t i : Int) (w : World) (hI : Ints w a m.hs) (hl : m.hs.length ≤ 1000) :
    Calls Try.prog 24 #[(.agg #[.int .i64 m.L, .int .i64 m.R, .slice a m.hs.length cap]), .int .i64 t, .int .i64 i] w fun e w' => e = .returned (.tuple #[.int .i64 (overOf m t i), .int .i64 (overE m t i)]) ∧ Ext w w' := by
  have hB := (Ext.refl w).alloc (.cells #[.int .i64 m.L, .int .i64 m.R, .slice a m.hs.length cap] 24)
  by_cases g : plc m t i = 0
  · have g0 : (plc m t i != 0) = false := by simp [g]
    obtain ⟨k, i0, i1⟩ := plc_ok.1 g
    by_cases d : depth m t i = 0
    · have d0 : (depth m t i == 0) = true := by simp [d]
      have H1 : overE m t i = 5 := by unfold overE; rw [if_neg (by simpa using g), if_pos d]
      have H2 := hid (show overOf m t i = 0 by unfold overOf; rw [if_neg (by simp [H1])])
      have H1 := hid H1
      clear g d
      go_enter Try.func24, Try.ntmps24
      go_wp2_with fail
      (refine (placedR_any m q a cap t i _ (by first | assumption | exact Ints.ext hI (by repeat (with_reducible first | assumption | exact Ext.refl _ | refine Ext.drew ?_ | refine Ext.drewN ?_ _ | refine Ext.alloc ?_ _ | (refine Ext.setCell ?_ ?sz _; case sz => (first | (simp; done) | (simp; omega))) | refine Ext.trans ?_ (by assumption)))) hl).mono ?_; rintro e w1 ⟨rfl, hE⟩; obtain ⟨c0, c1, c2⟩ := box3 hE)
      go_wp2_with fail
      refine (depthOf_any m k.v a cap t i _ (by first | assumption | exact Ints.ext hI (by repeat (with_reducible first | assumption | exact Ext.refl _ | refine Ext.drew ?_ | refine Ext.drewN ?_ _ | refine Ext.alloc ?_ _ | (refine Ext.setCell ?_ ?sz _; case sz => (first | (simp; done) | (simp; omega))) | refine Ext.trans ?_ (by assumption)))) k.t0 k.t1 i0 i1).mono ?_
      rintro e w2 ⟨rfl, hE2⟩
      go_wp2_with fail
      go_ret2
      exact ⟨ret2i H2.out.symm H1.out.symm, (by repeat (with_reducible first | assumption | exact Ext.refl _ | refine Ext.drew ?_ | refine Ext.drewN ?_ _ | refine Ext.alloc ?_ _ | (refine Ext.setCell ?_ ?sz _; case sz => (first | (simp; done) | (simp; omega))) | refine Ext.trans ?_ (by assumption)))⟩
    · have d0 : (depth m t i == 0) = false := by simp [d]
      have H1 : overE m t i = 0 := by unfold overE; rw [if_neg (by simpa using g), if_neg d]
      have H2 := hid (show overOf m t i = sideOf m t i by unfold overOf; rw [if_pos H1])
      have H1 := hid H1
      clear g d
      have hs : (topL m t i < topR m t i ∧ sideOf m t i = 1) ∨ (¬ topL m t i < topR m t i ∧ topR m t i < topL m t i ∧ sideOf m t i = 2) ∨ (¬ topL m t i < topR m t i ∧ ¬ topR m t i < topL m t i ∧ sideOf m t i = 3) := by
        unfold sideOf; split
        · simp_all
        · split <;> simp_all
      rcases hs with ⟨s1, HT⟩ | ⟨s1, s2, HT⟩ | ⟨s1, s2, HT⟩ <;> replace HT := hid HT
      all_goals
        go_enter Try.func24, Try.ntmps24
        go_wp2_with fail
        (refine (placedR_any m q a cap t i _ (by first | assumption | exact Ints.ext hI (by repeat (with_reducible first | assumption | exact Ext.refl _ | refine Ext.drew ?_ | refine Ext.drewN ?_ _ | refine Ext.alloc ?_ _ | (refine Ext.setCell ?_ ?sz _; case sz => (first | (simp; done) | (simp; omega))) | refine Ext.trans ?_ (by assumption)))) hl).mono ?_; rintro e w1 ⟨rfl, hE⟩; obtain ⟨c0, c1, c2⟩ := box3 hE)
        go_wp2_with fail
        refine (depthOf_any m k.v a cap t i _ (by first | assumption | exact Ints.ext hI (by repeat (with_reducible first | assumption | exact Ext.refl _ | refine Ext.drew ?_ | refine Ext.drewN ?_ _ | refine Ext.alloc ?_ _ | (refine Ext.setCell ?_ ?sz _; case sz => (first | (simp; done) | (simp; omega))) | refine Ext.trans ?_ (by assumption)))) k.t0 k.t1 i0 i1).mono ?_
        rintro e w2 ⟨rfl, hE2⟩
        have c0 := hE2.cell c0
        have c1 := hE2.cell c1
        have c2 := hE2.cell c2
        go_wp2_with fail
        refine (tops_any m k.v a cap t i _ (by first | assumption | exact Ints.ext hI (by repeat (with_reducible first | assumption | exact Ext.refl _ | refine Ext.drew ?_ | refine Ext.drewN ?_ _ | refine Ext.alloc ?_ _ | (refine Ext.setCell ?_ ?sz _; case sz => (first | (simp; done) | (simp; omega))) | refine Ext.trans ?_ (by assumption)))) k.t0 k.t1 i0 i1).mono ?_
        rintro e w3 ⟨rfl, hE3⟩
        go_wp2_with fail
        go_ret2
        exact ⟨ret2i (by rw [H2.out, HT.out]) H1.out.symm, (by repeat (with_reducible first | assumption | exact Ext.refl _ | refine Ext.drew ?_ | refine Ext.drewN ?_ _ | refine Ext.alloc ?_ _ | (refine Ext.setCell ?_ ?sz _; case sz => (first | (simp; done) | (simp; omega))) | refine Ext.trans ?_ (by assumption)))⟩
  · have g0 : (plc m t i != 0) = true := by simp [g]
    have H1 : overE m t i = plc m t i := by unfold overE; rw [if_pos g]
    have H2 := hid (show overOf m t i = 0 by unfold overOf; rw [if_neg (by rw [H1]; exact g)])
    have H1 := hid H1
    clear g
    go_enter Try.func24, Try.ntmps24
    go_wp2_with fail
    (refine (placedR_any m q a cap t i _ (by first | assumption | exact Ints.ext hI (by repeat (with_reducible first | assumption | exact Ext.refl _ | refine Ext.drew ?_ | refine Ext.drewN ?_ _ | refine Ext.alloc ?_ _ | (refine Ext.setCell ?_ ?sz _; case sz => (first | (simp; done) | (simp; omega))) | refine Ext.trans ?_ (by assumption)))) hl).mono ?_; rintro e w1 ⟨rfl, hE⟩; obtain ⟨c0, c1, c2⟩ := box3 hE)
    go_wp2_with fail
    (refine (placedR_any m q a cap t i _ (by first | assumption | exact Ints.ext hI (by repeat (with_reducible first | assumption | exact Ext.refl _ | refine Ext.drew ?_ | refine Ext.drewN ?_ _ | refine Ext.alloc ?_ _ | (refine Ext.setCell ?_ ?sz _; case sz => (first | (simp; done) | (simp; omega))) | refine Ext.trans ?_ (by assumption)))) hl).mono ?_; rintro e w2 ⟨rfl, hE2⟩)
    go_wp2_with fail
    go_ret2
    exact ⟨ret2i H2.out.symm H1.out.symm, (by repeat (with_reducible first | assumption | exact Ext.refl _ | refine Ext.drew ?_ | refine Ext.drewN ?_ _ | refine Ext.alloc ?_ _ | (refine Ext.setCell ?_ ?sz _; case sz => (first | (simp; done) | (simp; omega))) | refine Ext.trans ?_ (by assumption)))⟩

end Go.Proofs.Ytogglbhidlnijaa
