/- The reference's functions over dented measures. -/
import Derived.Test.YtogglbhidlnijaaDent
import Derived.Test.YtogglbhidlnijaaRefE
namespace Go.Proofs.Ytogglbhidlnijaa
set_option linter.unusedVariables false
set_option linter.unusedSimpArgs false
set_option linter.unusedSectionVars false
set_option linter.unnecessarySimpa false
open Go Go.RowKit

set_option maxHeartbeats 1000000 in
theorem checkDentedR_any (d : Dent) (q : FitD d) (a : Option Addr) (cap : Nat) (w : World) (hP : Prs w a d.rs) (hl : d.rs.length ≤ 1000) :
    Calls Try.prog 45 #[(.agg #[.int .i64 d.L, .int .i64 d.R, .slice a d.rs.length cap])] w fun e w' => e = .returned (.int .i64 (chkD d)) ∧ Ext w w' := by
  have hB := (Ext.refl w).alloc (.cells #[.int .i64 d.L, .int .i64 d.R, .slice a d.rs.length cap] 50)
  have HP := hid hP
  clear hP
  by_cases g1 : d.rs.length < 1
  · have H := hid (chkD_many (d := d) (.inl g1))
    go_enter Try.func45, Try.ntmps45
    go_wp2_with fail
    go_ret
    exact ⟨ret_int H.out.symm, (by repeat (with_reducible first | assumption | exact Ext.refl _ | refine Ext.drew ?_ | refine Ext.drewN ?_ _ | refine Ext.alloc ?_ _ | (refine Ext.setCell ?_ ?sz _; case sz => (first | (simp; done) | (simp; omega))) | refine Ext.trans ?_ (by assumption)))⟩
  by_cases g2 : 4 < d.rs.length
  · have H := hid (chkD_many (d := d) (.inr g2))
    go_enter Try.func45, Try.ntmps45
    go_wp2_with fail
    go_ret
    exact ⟨ret_int H.out.symm, (by repeat (with_reducible first | assumption | exact Ext.refl _ | refine Ext.drew ?_ | refine Ext.drewN ?_ _ | refine Ext.alloc ?_ _ | (refine Ext.setCell ?_ ?sz _; case sz => (first | (simp; done) | (simp; omega))) | refine Ext.trans ?_ (by assumption)))⟩
  cases g3 : inH d.L with
  | false =>
    have H := hid (chkD_range (d := d) (by omega) (by omega) (fun v => by have := inH_iff.2 ⟨v.l0, v.l1⟩; simp [g3] at this))
    go_enter Try.func45, Try.ntmps45
    go_wp2_with fail
    (refine (isHeight_any _ _ q.l).mono ?_; rintro e w1 ⟨rfl, rfl⟩)
    go_wp2_with fail
    go_ret
    exact ⟨ret_int H.out.symm, (by repeat (with_reducible first | assumption | exact Ext.refl _ | refine Ext.drew ?_ | refine Ext.drewN ?_ _ | refine Ext.alloc ?_ _ | (refine Ext.setCell ?_ ?sz _; case sz => (first | (simp; done) | (simp; omega))) | refine Ext.trans ?_ (by assumption)))⟩
  | true =>
  cases g4 : inH d.R with
  | false =>
    have H := hid (chkD_range (d := d) (by omega) (by omega) (fun v => by have := inH_iff.2 ⟨v.r0, v.r1⟩; simp [g4] at this))
    go_enter Try.func45, Try.ntmps45
    go_wp2_with fail
    (refine (isHeight_any _ _ q.l).mono ?_; rintro e w1 ⟨rfl, rfl⟩)
    go_wp2_with fail
    (refine (isHeight_any _ _ q.r).mono ?_; rintro e w1 ⟨rfl, rfl⟩)
    go_wp2_with fail
    go_ret
    exact ⟨ret_int H.out.symm, (by repeat (with_reducible first | assumption | exact Ext.refl _ | refine Ext.drew ?_ | refine Ext.drewN ?_ _ | refine Ext.alloc ?_ _ | (refine Ext.setCell ?_ ?sz _; case sz => (first | (simp; done) | (simp; omega))) | refine Ext.trans ?_ (by assumption)))⟩
  | true =>
    obtain ⟨b, off, rfl, hb, hc⟩ := HP.out.at (by omega)
    have HC := hid hc
    have G3 := hid g3
    have G4 := hid g4
    clear hc
    go_enter Try.func45, Try.ntmps45
    go_wp2_with fail
    (refine (isHeight_any _ _ q.l).mono ?_; rintro e w1 ⟨rfl, rfl⟩)
    go_wp2_with fail
    (refine (isHeight_any _ _ q.r).mono ?_; rintro e w1 ⟨rfl, rfl⟩)
    go_wp2_with fail
    go_loopw [3, 4] (fun i _ wr => ∃ k : Nat, k ≤ d.rs.length ∧ i = .int .i64 k ∧ Hid (∀ j, j < k → okR (pa d.rs j) (pb d.rs j)) ∧ Ext (w.alloc (.cells #[.int .i64 d.L, .int .i64 d.R, .slice _ d.rs.length cap] 50)) wr)
      (fun i _ _ => (d.rs.length - intOf i).toNat)
    case atStart => exact ⟨0, by omega, rfl, fun j hj => absurd hj (by omega), Ext.refl _⟩
    case round =>
      obtain ⟨k, hk, rfl, hj, hw⟩ := hrel
      obtain ⟨c0, c1, c2⟩ := box3 hw
      by_cases hlt : k < d.rs.length
      · obtain ⟨e0, e1⟩ := HC.out k hlt
        have e0 := hw.cell (hB.cell e0)
        have e1 := hw.cell (hB.cell e1)
        have q0 := q.lo k
        have q1 := q.hi k
        have hko := hid (fun h : ¬ okR (pa d.rs k) (pb d.rs k) => chkD_range (d := d) (by omega) (by omega) (fun v => h (v.ok k hlt)))
        have hks := hid (fun (h : okR (pa d.rs k) (pb d.rs k)) j (hj' : j < k + 1) => show okR (pa d.rs j) (pb d.rs j) from by
          rcases Nat.lt_or_ge j k with h' | h'
          · exact hj.out j h'
          · obtain rfl : j = k := by omega
            exact h)
        generalize pa d.rs k = x at *
        generalize pb d.rs k = y at *
        have hx0 := hid (@inH_iff x)
        have hy0 := hid (@inH_iff y)
        cases gx : inH x with
        | false =>
          have H := hid (hko.out (fun h => by have := hx0.out.2 ⟨h.1, h.2.1⟩; simp [gx] at this))
          go_wp2_with fail
          (refine (isHeight_any _ _ q0).mono ?_; rintro e w1 ⟨rfl, rfl⟩)
          go_wp2_with fail
          go_ret
          exact ⟨ret_int H.out.symm, (by repeat (with_reducible first | assumption | exact Ext.refl _ | refine Ext.drew ?_ | refine Ext.drewN ?_ _ | refine Ext.alloc ?_ _ | (refine Ext.setCell ?_ ?sz _; case sz => (first | (simp; done) | (simp; omega))) | refine Ext.trans ?_ (by assumption)))⟩
        | true =>
        cases gy : inH y with
        | false =>
          have H := hid (hko.out (fun h => by have := hy0.out.2 ⟨h.2.2.1, h.2.2.2.1⟩; simp [gy] at this))
          go_wp2_with fail
          (refine (isHeight_any _ _ q0).mono ?_; rintro e w1 ⟨rfl, rfl⟩)
          go_wp2_with fail
          (refine (isHeight_any _ _ q1).mono ?_; rintro e w1 ⟨rfl, rfl⟩)
          go_wp2_with fail
          go_ret
          exact ⟨ret_int H.out.symm, (by repeat (with_reducible first | assumption | exact Ext.refl _ | refine Ext.drew ?_ | refine Ext.drewN ?_ _ | refine Ext.alloc ?_ _ | (refine Ext.setCell ?_ ?sz _; case sz => (first | (simp; done) | (simp; omega))) | refine Ext.trans ?_ (by assumption)))⟩
        | true =>
        obtain ⟨x0, x1⟩ := hx0.out.1 gx
        obtain ⟨y0, y1⟩ := hy0.out.1 gy
        by_cases gg : x ≤ y
        · by_cases gh : y ≤ x + 10
          · have H := hid (hks.out ⟨x0, x1, y0, y1, gg, gh⟩)
            go_wp2_with fail
            (refine (isHeight_any _ _ q0).mono ?_; rintro e w1 ⟨rfl, rfl⟩)
            go_wp2_with fail
            (refine (isHeight_any _ _ q1).mono ?_; rintro e w1 ⟨rfl, rfl⟩)
            go_wp2_with fail
            go_roundw
            case rel => exact ⟨k + 1, by omega, by go_num, H, (by repeat (with_reducible first | assumption | exact Ext.refl _ | refine Ext.drew ?_ | refine Ext.drewN ?_ _ | refine Ext.alloc ?_ _ | (refine Ext.setCell ?_ ?sz _; case sz => (first | (simp; done) | (simp; omega))) | refine Ext.trans ?_ (by assumption)))⟩
            case measure => simp [intOf]; omega
          · have H := hid (hko.out (fun h => gh h.2.2.2.2.2))
            go_wp2_with fail
            (refine (isHeight_any _ _ q0).mono ?_; rintro e w1 ⟨rfl, rfl⟩)
            go_wp2_with fail
            (refine (isHeight_any _ _ q1).mono ?_; rintro e w1 ⟨rfl, rfl⟩)
            go_wp2_with fail
            go_ret
            exact ⟨ret_int H.out.symm, (by repeat (with_reducible first | assumption | exact Ext.refl _ | refine Ext.drew ?_ | refine Ext.drewN ?_ _ | refine Ext.alloc ?_ _ | (refine Ext.setCell ?_ ?sz _; case sz => (first | (simp; done) | (simp; omega))) | refine Ext.trans ?_ (by assumption)))⟩
        · have H := hid (hko.out (fun h => gg h.2.2.2.2.1))
          go_wp2_with fail
          (refine (isHeight_any _ _ q0).mono ?_; rintro e w1 ⟨rfl, rfl⟩)
          go_wp2_with fail
          (refine (isHeight_any _ _ q1).mono ?_; rintro e w1 ⟨rfl, rfl⟩)
          go_wp2_with fail
          go_ret
          exact ⟨ret_int H.out.symm, (by repeat (with_reducible first | assumption | exact Ext.refl _ | refine Ext.drew ?_ | refine Ext.drewN ?_ _ | refine Ext.alloc ?_ _ | (refine Ext.setCell ?_ ?sz _; case sz => (first | (simp; done) | (simp; omega))) | refine Ext.trans ?_ (by assumption)))⟩
      · have e : chkD d = 0 := by
          unfold chkD
          rw [if_neg (by omega), if_pos ⟨G3.out, G4.out, fun i hi => hj.out i (by omega)⟩]
        replace e := hid e
        go_wp2_with fail
        go_ret
        exact ⟨ret_int e.out.symm, (by repeat (with_reducible first | assumption | exact Ext.refl _ | refine Ext.drew ?_ | refine Ext.drewN ?_ _ | refine Ext.alloc ?_ _ | (refine Ext.setCell ?_ ?sz _; case sz => (first | (simp; done) | (simp; omega))) | refine Ext.trans ?_ (by assumption)))⟩

end Go.Proofs.Ytogglbhidlnijaa
