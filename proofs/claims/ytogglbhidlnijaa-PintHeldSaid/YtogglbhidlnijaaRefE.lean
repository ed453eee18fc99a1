/- The reference's Best and Pools. -/
import Derived.Test.YtogglbhidlnijaaRefD
import Derived.Deep.QuietTactic
import Derived.BigQuiet
namespace Go.Proofs.Ytogglbhidlnijaa
set_option linter.unusedVariables false
set_option linter.unusedSimpArgs false
set_option linter.unusedSectionVars false
set_option linter.unnecessarySimpa false
open Go Go.RowKit


theorem holdsWith_any (m : Meas) (i : Nat) (v : Vld (wth m i 0)) (a : Option Addr) (cap : Nat) (t : Int) (w : World) (hI : Ints w a (wth m i 0).hs) (h0 : -20 ≤ t) (h1 : t ≤ 20) :
    Calls Try.prog 52 #[(.agg #[.int .i64 (wth m i 0).L, .int .i64 (wth m i 0).R, .slice a (wth m i 0).hs.length cap]), .int .i64 t] w fun e w' => e = .returned (.int .i64 (out0 m t i)) ∧ Ext w w' := holdsOf_any (wth m i 0) v a cap t w hI h0 h1

set_option maxHeartbeats 1000000 in
theorem bestR_any (m : Meas) (q : Fit m) (a : Option Addr) (cap : Nat) (t : Int) (w : World) (hI : Ints w a m.hs) (hl : m.hs.length ≤ 1000) :
    Calls Try.prog 38 #[(.agg #[.int .i64 m.L, .int .i64 m.R, .slice a m.hs.length cap]), .int .i64 t] w fun e w' => e = .returned (.tuple #[.int .i64 (bestOf m t), .int .i64 (moreOf m t), .int .i64 (tlt m t)]) ∧ Ext w w' := by
  have hB := (Ext.refl w).alloc (.cells #[.int .i64 m.L, .int .i64 m.R, .slice a m.hs.length cap] 24)
  by_cases g : tlt m t = 0
  · have g0 : (tlt m t != 0) = false := by simp [g]
    have k := tlt_ok.1 g
    have H1 := hid (show bestOf m t = bst m t m.hs.length by unfold bestOf; rw [if_pos g])
    have H2 := hid (show moreOf m t = out0 m t (bst m t m.hs.length) - holds m t by unfold moreOf; rw [if_pos g])
    replace g := hid g
    have n1 := k.v.n1
    have hvz := fun i => wth_vld k.v i (h := 0) (Int.le_refl _) (by omega)
    go_enter Try.func38, Try.ntmps38
    go_wp2_with fail
    (refine (tiltedR_any m q a cap t _ (by first | assumption | exact Ints.ext hI (by repeat (with_reducible first | assumption | exact Ext.refl _ | refine Ext.drew ?_ | refine Ext.drewN ?_ _ | refine Ext.alloc ?_ _ | (refine Ext.setCell ?_ ?sz _; case sz => (first | (simp; done) | (simp; omega))) | refine Ext.trans ?_ (by assumption)))) hl).mono ?_; rintro e w1 ⟨rfl, hE⟩; obtain ⟨c0, c1, c2⟩ := box3 hE)
    go_wp2_with fail
    go_loopw [7, 8] (fun b i wr => ∃ k : Nat, k ≤ m.hs.length ∧ i = .int .i64 k ∧ b = .int .i64 (bst m t k) ∧ Ext (w.alloc (.cells #[.int .i64 m.L, .int .i64 m.R, .slice a m.hs.length cap] 24)) wr) (fun _ i _ => (m.hs.length - intOf i).toNat)
    case atStart => exact ⟨0, by omega, rfl, rfl, hE⟩
    case round =>
      obtain ⟨j, hj, rfl, rfl, hw⟩ := hrel
      obtain ⟨c0, c1, c2⟩ := box3 hw
      have hb := bst_lt m t j m.hs.length hj n1
      by_cases hlt : j < m.hs.length
      · have hx := hid (show bst m t (j + 1) = if out0 m t (bst m t j) < out0 m t j then j else bst m t j by rw [bst])
        generalize bst m t j = bb at *
        by_cases hg : out0 m t bb < out0 m t j
        all_goals
          go_wp2_with fail
          go_region_held3 (fun w' => w'.cell? ⟨w.heap.size, 0, none⟩ = some (.int .i64 m.L) ∧ w'.cell? ⟨w.heap.size, 1, none⟩ = some (.int .i64 m.R) ∧ w'.cell? ⟨w.heap.size, 2, none⟩ = some (.slice a m.hs.length cap) ∧ Ints w' a m.hs ∧ Ext (w.alloc (.cells #[.int .i64 m.L, .int .i64 m.R, .slice a m.hs.length cap] 24)) w') (((try go_split_ands); (repeat' apply And.intro) <;> (first | (simp [go_sem]; done) | (simp [go_sem, *]; done) | exact Ext.cell hE (by assumption) | exact Ints.ext (by assumption) hE | exact Ints.ext hI (by repeat (with_reducible first | assumption | exact Ext.refl _ | refine Ext.drew ?_ | refine Ext.drewN ?_ _ | refine Ext.alloc ?_ _ | (refine Ext.setCell ?_ ?sz _; case sz => (first | (simp; done) | (simp; omega))) | refine Ext.trans ?_ (by assumption))) | exact (by repeat (with_reducible first | assumption | exact Ext.refl _ | refine Ext.drew ?_ | refine Ext.drewN ?_ _ | refine Ext.alloc ?_ _ | (refine Ext.setCell ?_ ?sz _; case sz => (first | (simp; done) | (simp; omega))) | refine Ext.trans ?_ (by assumption))))))
            (first | (go_at_call 60; go_split_ands; refine (with_any m a cap _ 0 _ (by assumption) hl (by omega)).mono ?_; rintro e w1 ⟨aa, cc, rfl, hi, hE⟩) | (go_at_call 52; refine (holdsWith_any m _ (hvz _) aa cc t _ hi k.t0 k.t1).mono ?_; rintro e w1 ⟨rfl, hE⟩))
          go_wp2_with fail
          go_roundw
          case rel => exact ⟨j + 1, by omega, by go_num, by rw [hx.out]; split <;> first | rfl | (exfalso; omega), (by repeat (with_reducible first | assumption | exact Ext.refl _ | refine Ext.drew ?_ | refine Ext.drewN ?_ _ | refine Ext.alloc ?_ _ | (refine Ext.setCell ?_ ?sz _; case sz => (first | (simp; done) | (simp; omega))) | refine Ext.trans ?_ (by assumption)))⟩
          case measure => simp [intOf]; omega
      · obtain rfl : j = m.hs.length := by omega
        obtain ⟨o0, o1⟩ := out0_bd k.v k.t0 k.t1 (bst m t m.hs.length)
        obtain ⟨o2, o3⟩ := holds_bd k.v k.t0 k.t1
        generalize bst m t m.hs.length = bb at *
        have hwr := IntWalk.i64_in (out0 m t bb - holds m t) (by omega)
        go_wp2_with fail
        go_region_held3 (fun w' => w'.cell? ⟨w.heap.size, 0, none⟩ = some (.int .i64 m.L) ∧ w'.cell? ⟨w.heap.size, 1, none⟩ = some (.int .i64 m.R) ∧ w'.cell? ⟨w.heap.size, 2, none⟩ = some (.slice a m.hs.length cap) ∧ Ints w' a m.hs ∧ Ext (w.alloc (.cells #[.int .i64 m.L, .int .i64 m.R, .slice a m.hs.length cap] 24)) w') (((try go_split_ands); (repeat' apply And.intro) <;> (first | (simp [go_sem]; done) | (simp [go_sem, *]; done) | exact Ext.cell hE (by assumption) | exact Ints.ext (by assumption) hE | exact Ints.ext hI (by repeat (with_reducible first | assumption | exact Ext.refl _ | refine Ext.drew ?_ | refine Ext.drewN ?_ _ | refine Ext.alloc ?_ _ | (refine Ext.setCell ?_ ?sz _; case sz => (first | (simp; done) | (simp; omega))) | refine Ext.trans ?_ (by assumption))) | exact (by repeat (with_reducible first | assumption | exact Ext.refl _ | refine Ext.drew ?_ | refine Ext.drewN ?_ _ | refine Ext.alloc ?_ _ | (refine Ext.setCell ?_ ?sz _; case sz => (first | (simp; done) | (simp; omega))) | refine Ext.trans ?_ (by assumption))))))
          (first | (go_at_call 60; go_split_ands; refine (with_any m a cap _ 0 _ (by assumption) hl (by omega)).mono ?_; rintro e w1 ⟨aa, cc, rfl, hi, hE⟩) | (go_at_call 52; with_reducible refine (holdsWith_any m _ (hvz _) aa cc t _ hi k.t0 k.t1).mono ?_; rintro e w1 ⟨rfl, hE⟩) | (go_at_call 52; go_split_ands; refine (holdsOf_any m k.v a cap t _ (by assumption) k.t0 k.t1).mono ?_; rintro e w1 ⟨rfl, hE⟩))
        all_goals
          go_wp2_with fail
          go_ret3
          exact ⟨ret3i H1.out.symm H2.out.symm g.out.symm, (by repeat (with_reducible first | assumption | exact Ext.refl _ | refine Ext.drew ?_ | refine Ext.drewN ?_ _ | refine Ext.alloc ?_ _ | (refine Ext.setCell ?_ ?sz _; case sz => (first | (simp; done) | (simp; omega))) | refine Ext.trans ?_ (by assumption)))⟩
  · have g0 : (tlt m t != 0) = true := by simp [g]
    have H1 := hid (show bestOf m t = 0 by unfold bestOf; rw [if_neg g])
    have H2 := hid (show moreOf m t = 0 by unfold moreOf; rw [if_neg g])
    clear g
    go_enter Try.func38, Try.ntmps38
    go_wp2_with fail
    (refine (tiltedR_any m q a cap t _ (by first | assumption | exact Ints.ext hI (by repeat (with_reducible first | assumption | exact Ext.refl _ | refine Ext.drew ?_ | refine Ext.drewN ?_ _ | refine Ext.alloc ?_ _ | (refine Ext.setCell ?_ ?sz _; case sz => (first | (simp; done) | (simp; omega))) | refine Ext.trans ?_ (by assumption)))) hl).mono ?_; rintro e w1 ⟨rfl, hE⟩; obtain ⟨c0, c1, c2⟩ := box3 hE)
    go_wp2_with fail
    (refine (tiltedR_any m q a cap t _ (by first | assumption | exact Ints.ext hI (by repeat (with_reducible first | assumption | exact Ext.refl _ | refine Ext.drew ?_ | refine Ext.drewN ?_ _ | refine Ext.alloc ?_ _ | (refine Ext.setCell ?_ ?sz _; case sz => (first | (simp; done) | (simp; omega))) | refine Ext.trans ?_ (by assumption)))) hl).mono ?_; rintro e w2 ⟨rfl, hE2⟩)
    go_wp2_with fail
    go_ret3
    exact ⟨ret3i H1.out.symm H2.out.symm rfl, (by repeat (with_reducible first | assumption | exact Ext.refl _ | refine Ext.drew ?_ | refine Ext.drewN ?_ _ | refine Ext.alloc ?_ _ | (refine Ext.setCell ?_ ?sz _; case sz => (first | (simp; done) | (simp; omega))) | refine Ext.trans ?_ (by assumption)))⟩


theorem elemPair : ElemP Try.prog 70 := elemP_mk (by kernel_rfl)

/-- The call returns the pairs l and an error. -/
def RetPrs (l : List (Int × Int)) (er : Int) (w : World) (e : Ending) (w' : World) : Prop :=
  ∃ a cap, e = .returned (.tuple #[.slice a l.length cap, .int .i64 er]) ∧ Prs w' a l ∧ Ext w w'

theorem lev_any (m : Meas) (v : Vld m) (a : Option Addr) (cap : Nat) (t f : Int) (w : World) (hI : Ints w a m.hs)
    (h0 : -20 ≤ t) (h1 : t ≤ 20) (h2 : 0 ≤ f) (h3 : f < m.hs.length) :
    Calls Try.prog 73 #[(.agg #[.int .i64 m.L, .int .i64 m.R, .slice a m.hs.length cap]), .int .i64 t, .int .i64 f] w fun e w' =>
      e = .returned (.int .i64 (lev m t f)) ∧ Ext w w' := levelOf_any m v a cap t f w hI h0 h1 h2 h3

set_option maxHeartbeats 2000000 in
theorem poolsR_any (m : Meas) (q : Fit m) (a : Option Addr) (cap : Nat) (t : Int) (w : World) (hI : Ints w a m.hs) (hl : m.hs.length ≤ 1000) :
    Calls Try.prog 26 #[(.agg #[.int .i64 m.L, .int .i64 m.R, .slice a m.hs.length cap]), .int .i64 t] w (RetPrs (poolsOf m t) (tlt m t) w) := by
  have hB := (Ext.refl w).alloc (.cells #[.int .i64 m.L, .int .i64 m.R, .slice a m.hs.length cap] 24)
  by_cases g : tlt m t = 0
  · have g0 : (tlt m t != 0) = false := by simp [g]
    have k := tlt_ok.1 g
    have H := hid (show poolsOf m t = pls m t m.hs.length by unfold poolsOf; rw [if_pos g])
    replace g := hid g
    go_enter Try.func26, Try.ntmps26
    go_wp2_with fail
    (refine (tiltedR_any m q a cap t _ (by first | assumption | exact Ints.ext hI (by repeat (with_reducible first | assumption | exact Ext.refl _ | refine Ext.drew ?_ | refine Ext.drewN ?_ _ | refine Ext.alloc ?_ _ | (refine Ext.setCell ?_ ?sz _; case sz => (first | (simp; done) | (simp; omega))) | refine Ext.trans ?_ (by assumption)))) hl).mono ?_; rintro e w1 ⟨rfl, hE⟩; obtain ⟨c0, c1, c2⟩ := box3 hE)
    go_wp2_with fail
    go_loopw [6, 7] (fun o i wr => ∃ k : Nat, k ≤ m.hs.length ∧ i = .int .i64 k ∧ OwnP wr (w.heap.size + 1) 70 o (pls m t k) ∧ Ext (w.alloc (.cells #[.int .i64 m.L, .int .i64 m.R, .slice a m.hs.length cap] 24)) wr) (fun _ i _ => (m.hs.length - intOf i).toNat)
    case atStart => exact ⟨0, by omega, rfl, OwnP.nil _ _ _, hE⟩
    case round =>
      obtain ⟨j, hj, rfl, ho, hw⟩ := hrel
      obtain ⟨c0, c1, c2⟩ := box3 hw
      by_cases hlt : j < m.hs.length
      · have hx := hid (show pls m t (j + 1) = pstep m t (pls m t j) j from rfl)
        obtain ⟨pb0, pb1⟩ := pls_bd m t j
        replace pb1 := hid pb1
        generalize pls m t j = l at *
        by_cases d0 : depth m t j = 0
        · have d1 : (depth m t j == 0) = true := by simp [d0]
          replace d0 := hid d0
          go_wp2_with fail
          refine (depthOf_any m k.v a cap t j _ (by first | assumption | exact Ints.ext hI (by repeat (with_reducible first | assumption | exact Ext.refl _ | refine Ext.drew ?_ | refine Ext.drewN ?_ _ | refine Ext.alloc ?_ _ | (refine Ext.setCell ?_ ?sz _; case sz => (first | (simp; done) | (simp; omega))) | refine Ext.trans ?_ (by assumption)))) k.t0 k.t1 (by omega) (by omega)).mono ?_
          rintro e w2 ⟨rfl, hE2⟩
          go_wp2_with fail
          go_roundw
          case rel => exact ⟨j + 1, by omega, by go_num, by rw [hx.out, pstep, if_pos d0.out]; exact ho.ext hE2, (by repeat (with_reducible first | assumption | exact Ext.refl _ | refine Ext.drew ?_ | refine Ext.drewN ?_ _ | refine Ext.alloc ?_ _ | (refine Ext.setCell ?_ ?sz _; case sz => (first | (simp; done) | (simp; omega))) | refine Ext.trans ?_ (by assumption)))⟩
          case measure => simp [intOf]; omega
        · have d1 : (depth m t j == 0) = false := by simp [d0]
          replace d0 := hid d0
          by_cases e0 : l.length = 0
          · obtain ⟨sa, sc, rfl, hcp, hP⟩ := ho.slice
            obtain rfl : l = [] := List.eq_nil_of_length_eq_zero e0
            replace e0 := hid e0
            simp only [List.length_nil]
            go_wp2_with fail
            refine (depthOf_any m k.v a cap t j _ (by first | assumption | exact Ints.ext hI (by repeat (with_reducible first | assumption | exact Ext.refl _ | refine Ext.drew ?_ | refine Ext.drewN ?_ _ | refine Ext.alloc ?_ _ | (refine Ext.setCell ?_ ?sz _; case sz => (first | (simp; done) | (simp; omega))) | refine Ext.trans ?_ (by assumption)))) k.t0 k.t1 (by omega) (by omega)).mono ?_
            rintro e w2 ⟨rfl, hE2⟩
            go_wp2_with fail
            go_quiet (fail)
            go_wp2_with (at_builtin; refine app_pair rfl _ _ _ rfl 70 Try.underlying34 elemPair (w.heap.size + 1) [] ((j : Int), (j : Int)) _ rfl _ rfl ?cax ?c1x ?c2x ?c3x ?c4x ?_)
            case cax => exact (ho.ext hE2).ext (by repeat (with_reducible first | assumption | exact Ext.refl _ | refine Ext.drew ?_ | refine Ext.drewN ?_ _ | refine Ext.alloc ?_ _ | (refine Ext.setCell ?_ ?sz _; case sz => (first | (simp; done) | (simp; omega))) | refine Ext.trans ?_ (by assumption)))
            try (case c1x => exact new20 rfl)
            try (case c2x => exact new21 rfl)
            case c3x => exact Nat.zero_le _
            case c4x => have := Ext.size (show Ext (w.alloc (.cells #[.int .i64 m.L, .int .i64 m.R, .slice a m.hs.length cap] 24)) w2 from (by repeat (with_reducible first | assumption | exact Ext.refl _ | refine Ext.drew ?_ | refine Ext.drewN ?_ _ | refine Ext.alloc ?_ _ | (refine Ext.setCell ?_ ?sz _; case sz => (first | (simp; done) | (simp; omega))) | refine Ext.trans ?_ (by assumption)))); simp at this ⊢; omega
            intro bb cp w3 ho3 hx3 hbb
            have hE3 := hx3 (w.alloc (.cells #[.int .i64 m.L, .int .i64 m.R, .slice a m.hs.length cap] 24)) (by repeat (with_reducible first | assumption | exact Ext.refl _ | refine Ext.drew ?_ | refine Ext.drewN ?_ _ | refine Ext.alloc ?_ _ | (refine Ext.setCell ?_ ?sz _; case sz => (first | (simp; done) | (simp; omega))) | refine Ext.trans ?_ (by assumption))) (by simp)
            clear hx3
            go_wp2_with fail
            go_roundw
            case rel => exact ⟨j + 1, by omega, by go_num, by rw [hx.out, pstep, if_neg d0.out, if_neg (by simp)]; exact ho3, hE3⟩
            case measure => simp [intOf]; omega
          · obtain ⟨sb, sc, rfl, sb0, sb1, sc0⟩ := ho.addr (by omega)
            obtain ⟨q, hq⟩ : ∃ q, l.length = q + 1 := ⟨l.length - 1, by omega⟩
            obtain ⟨f1, f2, f3, f4, -, -⟩ := ho.facts (j := q) (by omega)
            have b2 := pb1.out q (by omega)
            have hq1 : l.length - 1 = q := by omega
            obtain ⟨b3, b4, b5⟩ := b2
            by_cases e2 : pb l q = (j : Int) - 1
            · have e3 : (pb l q == (j : Int) - 1) = true := by simp [e2]
              have j1 : 1 ≤ j := by omega
              have hq8 : q + 1 ≤ 1000 := by omega
              have ho' := ho
              rw [hq] at ho' ⊢
              by_cases e4 : lev m t j = lev m t (j - 1)
              · have e5 : (lev m t j == lev m t ((j : Int) - 1)) = true := by simp [e4]
                have cond : 0 < l.length ∧ pb l (l.length - 1) = (j : Int) - 1 ∧ lev m t j = lev m t (j - 1) := by rw [hq1]; exact ⟨by omega, e2, e4⟩
                replace cond := hid cond
                replace hq := hid hq
                replace hq1 := hid hq1
                replace e2 := hid e2
                replace e4 := hid e4
                clear e0 ho
                go_wp2_with fail
                refine (depthOf_any m k.v a cap t j _ (by first | assumption | exact Ints.ext hI (by repeat (with_reducible first | assumption | exact Ext.refl _ | refine Ext.drew ?_ | refine Ext.drewN ?_ _ | refine Ext.alloc ?_ _ | (refine Ext.setCell ?_ ?sz _; case sz => (first | (simp; done) | (simp; omega))) | refine Ext.trans ?_ (by assumption)))) k.t0 k.t1 (by omega) (by omega)).mono ?_
                rintro e w2 ⟨rfl, hE2⟩
                go_wp2_with fail
                have i0 : (0 : Int) ≤ (q : Int) := by omega
                have i1 : (q : Int) < (q : Int) + 1 := by omega
                have i2 := IntWalk.i64_in ((j : Int) - 1) (by omega)
                go_region_held3 (fun w' => w'.cell? ⟨w.heap.size, 0, none⟩ = some (.int .i64 m.L) ∧ w'.cell? ⟨w.heap.size, 1, none⟩ = some (.int .i64 m.R) ∧ w'.cell? ⟨w.heap.size, 2, none⟩ = some (.slice a m.hs.length cap) ∧ w'.cell? ⟨sb, q * 2 + 1, none⟩ = some (.int .i64 (pb l q)) ∧ Ints w' a m.hs ∧ Ext wr w') (((try go_split_ands); (repeat' apply And.intro) <;> (first | (simp [go_sem]; done) | (simp [go_sem, *]; done) | exact Ext.cell hE (by assumption) | exact Ext.cell (w := wr) (by repeat (with_reducible first | assumption | exact Ext.refl _ | refine Ext.drew ?_ | refine Ext.drewN ?_ _ | refine Ext.alloc ?_ _ | (refine Ext.setCell ?_ ?sz _; case sz => (first | (simp; done) | (simp; omega))) | refine Ext.trans ?_ (by assumption))) (by assumption) | exact Ints.ext (by assumption) hE | exact Ints.ext hI (by repeat (with_reducible first | assumption | exact Ext.refl _ | refine Ext.drew ?_ | refine Ext.drewN ?_ _ | refine Ext.alloc ?_ _ | (refine Ext.setCell ?_ ?sz _; case sz => (first | (simp; done) | (simp; omega))) | refine Ext.trans ?_ (by assumption))) | exact (by repeat (with_reducible first | assumption | exact Ext.refl _ | refine Ext.drew ?_ | refine Ext.drewN ?_ _ | refine Ext.alloc ?_ _ | (refine Ext.setCell ?_ ?sz _; case sz => (first | (simp; done) | (simp; omega))) | refine Ext.trans ?_ (by assumption)))))) (first | (go_at_call 73; go_split_ands; refine (lev_any m k.v a cap t _ _ (by assumption) k.t0 k.t1 (by omega) (by omega)).mono ?_; rintro e w1 ⟨rfl, hE⟩))
                clear i2
                have hEw : Ext wr w1 := (by repeat (with_reducible first | assumption | exact Ext.refl _ | refine Ext.drew ?_ | refine Ext.drewN ?_ _ | refine Ext.alloc ?_ _ | (refine Ext.setCell ?_ ?sz _; case sz => (first | (simp; done) | (simp; omega))) | refine Ext.trans ?_ (by assumption)))
                have ho1 := ho'.ext hEw
                have hql : q < l.length := by have := hq.out; omega
                obtain ⟨-, g2, -, g4, -, g6⟩ := ho1.facts (j := q) hql
                go_wp2_with fail
                go_roundw
                case rel =>
                  refine ⟨j + 1, by omega, by go_num, ?_, OwnP.setExt ho1 (by repeat (with_reducible first | assumption | exact Ext.refl _ | refine Ext.drew ?_ | refine Ext.drewN ?_ _ | refine Ext.alloc ?_ _ | (refine Ext.setCell ?_ ?sz _; case sz => (first | (simp; done) | (simp; omega))) | refine Ext.trans ?_ (by assumption))) (by simp) _ _⟩
                  rw [hx.out, pstep, if_neg d0.out, if_pos cond.out, hq1.out]
                  exact ho1.set2 hql _
                case measure => simp [intOf]; omega
              · have e5 : (lev m t j == lev m t ((j : Int) - 1)) = false := by simp [e4]
                have cond : ¬(0 < l.length ∧ pb l (l.length - 1) = (j : Int) - 1 ∧ lev m t j = lev m t (j - 1)) := by exact fun c => e4 c.2.2
                replace cond := hid cond
                replace hq := hid hq
                replace hq1 := hid hq1
                replace e2 := hid e2
                replace e4 := hid e4
                clear e0 ho
                go_wp2_with fail
                refine (depthOf_any m k.v a cap t j _ (by first | assumption | exact Ints.ext hI (by repeat (with_reducible first | assumption | exact Ext.refl _ | refine Ext.drew ?_ | refine Ext.drewN ?_ _ | refine Ext.alloc ?_ _ | (refine Ext.setCell ?_ ?sz _; case sz => (first | (simp; done) | (simp; omega))) | refine Ext.trans ?_ (by assumption)))) k.t0 k.t1 (by omega) (by omega)).mono ?_
                rintro e w2 ⟨rfl, hE2⟩
                go_wp2_with fail
                have i0 : (0 : Int) ≤ (q : Int) := by omega
                have i1 : (q : Int) < (q : Int) + 1 := by omega
                have i2 := IntWalk.i64_in ((j : Int) - 1) (by omega)
                go_region_held3 (fun w' => w'.cell? ⟨w.heap.size, 0, none⟩ = some (.int .i64 m.L) ∧ w'.cell? ⟨w.heap.size, 1, none⟩ = some (.int .i64 m.R) ∧ w'.cell? ⟨w.heap.size, 2, none⟩ = some (.slice a m.hs.length cap) ∧ w'.cell? ⟨sb, q * 2 + 1, none⟩ = some (.int .i64 (pb l q)) ∧ Ints w' a m.hs ∧ Ext wr w') (((try go_split_ands); (repeat' apply And.intro) <;> (first | (simp [go_sem]; done) | (simp [go_sem, *]; done) | exact Ext.cell hE (by assumption) | exact Ext.cell (w := wr) (by repeat (with_reducible first | assumption | exact Ext.refl _ | refine Ext.drew ?_ | refine Ext.drewN ?_ _ | refine Ext.alloc ?_ _ | (refine Ext.setCell ?_ ?sz _; case sz => (first | (simp; done) | (simp; omega))) | refine Ext.trans ?_ (by assumption))) (by assumption) | exact Ints.ext (by assumption) hE | exact Ints.ext hI (by repeat (with_reducible first | assumption | exact Ext.refl _ | refine Ext.drew ?_ | refine Ext.drewN ?_ _ | refine Ext.alloc ?_ _ | (refine Ext.setCell ?_ ?sz _; case sz => (first | (simp; done) | (simp; omega))) | refine Ext.trans ?_ (by assumption))) | exact (by repeat (with_reducible first | assumption | exact Ext.refl _ | refine Ext.drew ?_ | refine Ext.drewN ?_ _ | refine Ext.alloc ?_ _ | (refine Ext.setCell ?_ ?sz _; case sz => (first | (simp; done) | (simp; omega))) | refine Ext.trans ?_ (by assumption)))))) (first | (go_at_call 73; go_split_ands; refine (lev_any m k.v a cap t _ _ (by assumption) k.t0 k.t1 (by omega) (by omega)).mono ?_; rintro e w1 ⟨rfl, hE⟩))
                clear i2
                have hEw : Ext wr w1 := (by repeat (with_reducible first | assumption | exact Ext.refl _ | refine Ext.drew ?_ | refine Ext.drewN ?_ _ | refine Ext.alloc ?_ _ | (refine Ext.setCell ?_ ?sz _; case sz => (first | (simp; done) | (simp; omega))) | refine Ext.trans ?_ (by assumption)))
                have ho' := ho'.ext hEw
                go_wp2_with (at_builtin; refine app_pair rfl _ _ _ rfl 70 Try.underlying34 elemPair (w.heap.size + 1) l ((j : Int), (j : Int)) _ rfl _ rfl ?cay ?c1y ?c2y ?c3y ?c4y ?_)
                case cay => exact ho'.ext (by repeat (with_reducible first | assumption | exact Ext.refl _ | refine Ext.drew ?_ | refine Ext.drewN ?_ _ | refine Ext.alloc ?_ _ | (refine Ext.setCell ?_ ?sz _; case sz => (first | (simp; done) | (simp; omega))) | refine Ext.trans ?_ (by assumption)))
                try (case c1y => exact new20 rfl)
                try (case c2y => exact new21 rfl)
                try (case c3y => have := hq.out; omega)
                case c4y => have := Ext.size (show Ext (w.alloc (.cells #[.int .i64 m.L, .int .i64 m.R, .slice a m.hs.length cap] 24)) w1 from (by repeat (with_reducible first | assumption | exact Ext.refl _ | refine Ext.drew ?_ | refine Ext.drewN ?_ _ | refine Ext.alloc ?_ _ | (refine Ext.setCell ?_ ?sz _; case sz => (first | (simp; done) | (simp; omega))) | refine Ext.trans ?_ (by assumption)))); simp at this ⊢; omega
                intro bb cp w3 ho3 hx3 hbb
                have hE3 := hx3 (w.alloc (.cells #[.int .i64 m.L, .int .i64 m.R, .slice a m.hs.length cap] 24)) (by repeat (with_reducible first | assumption | exact Ext.refl _ | refine Ext.drew ?_ | refine Ext.drewN ?_ _ | refine Ext.alloc ?_ _ | (refine Ext.setCell ?_ ?sz _; case sz => (first | (simp; done) | (simp; omega))) | refine Ext.trans ?_ (by assumption))) (by simp)
                clear hx3
                go_wp2_with fail
                go_roundw
                case rel => exact ⟨j + 1, by omega, by go_num, by rw [hx.out, pstep, if_neg d0.out, if_neg cond.out]; exact ho3, hE3⟩
                case measure => simp [intOf]; omega
            · have e3 : (pb l q == (j : Int) - 1) = false := by simp [e2]
              have cond : ¬(0 < l.length ∧ pb l (l.length - 1) = (j : Int) - 1 ∧ lev m t j = lev m t (j - 1)) := by rw [hq1]; exact fun c => e2 c.2.1
              replace cond := hid cond
              have hq8 : q + 1 ≤ 1000 := by omega
              have ho' := ho
              rw [hq] at ho' ⊢
              replace hq := hid hq
              replace hq1 := hid hq1
              replace e2 := hid e2
              clear e0 ho
              have e1 : decide (0 ≤ ((q + 1 : Nat) : Int) - 1) = true := by simp
              go_wp2_with fail
              refine (depthOf_any m k.v a cap t j _ (by first | assumption | exact Ints.ext hI (by repeat (with_reducible first | assumption | exact Ext.refl _ | refine Ext.drew ?_ | refine Ext.drewN ?_ _ | refine Ext.alloc ?_ _ | (refine Ext.setCell ?_ ?sz _; case sz => (first | (simp; done) | (simp; omega))) | refine Ext.trans ?_ (by assumption)))) k.t0 k.t1 (by omega) (by omega)).mono ?_
              rintro e w2 ⟨rfl, hE2⟩
              have f2 := hE2.cell f2
              go_wp2_with fail
              go_quiet (fail)
              go_wp2_with (at_builtin; refine app_pair rfl _ _ _ rfl 70 Try.underlying34 elemPair (w.heap.size + 1) l ((j : Int), (j : Int)) _ rfl _ rfl ?caz ?c1z ?c2z ?c3z ?c4z ?_)
              case caz => exact (ho'.ext hE2).ext (by repeat (with_reducible first | assumption | exact Ext.refl _ | refine Ext.drew ?_ | refine Ext.drewN ?_ _ | refine Ext.alloc ?_ _ | (refine Ext.setCell ?_ ?sz _; case sz => (first | (simp; done) | (simp; omega))) | refine Ext.trans ?_ (by assumption)))
              try (case c1z => exact new20 rfl)
              try (case c2z => exact new21 rfl)
              try (case c3z => have := hq.out; omega)
              case c4z => have := Ext.size (show Ext (w.alloc (.cells #[.int .i64 m.L, .int .i64 m.R, .slice a m.hs.length cap] 24)) w2 from (by repeat (with_reducible first | assumption | exact Ext.refl _ | refine Ext.drew ?_ | refine Ext.drewN ?_ _ | refine Ext.alloc ?_ _ | (refine Ext.setCell ?_ ?sz _; case sz => (first | (simp; done) | (simp; omega))) | refine Ext.trans ?_ (by assumption)))); simp at this ⊢; omega
              intro bb cp w3 ho3 hx3 hbb
              have hE3 := hx3 (w.alloc (.cells #[.int .i64 m.L, .int .i64 m.R, .slice a m.hs.length cap] 24)) (by repeat (with_reducible first | assumption | exact Ext.refl _ | refine Ext.drew ?_ | refine Ext.drewN ?_ _ | refine Ext.alloc ?_ _ | (refine Ext.setCell ?_ ?sz _; case sz => (first | (simp; done) | (simp; omega))) | refine Ext.trans ?_ (by assumption))) (by simp)
              clear hx3
              go_wp2_with fail
              go_roundw
              case rel => exact ⟨j + 1, by omega, by go_num, by rw [hx.out, pstep, if_neg d0.out, if_neg cond.out]; exact ho3, hE3⟩
              case measure => simp [intOf]; omega
      · obtain rfl : j = m.hs.length := by omega
        obtain ⟨b, cp, rfl, _, hi⟩ := ho.slice
        go_wp2_with fail
        go_ret2
        refine ⟨b, cp, ?_, ?_, (by repeat (with_reducible first | assumption | exact Ext.refl _ | refine Ext.drew ?_ | refine Ext.drewN ?_ _ | refine Ext.alloc ?_ _ | (refine Ext.setCell ?_ ?sz _; case sz => (first | (simp; done) | (simp; omega))) | refine Ext.trans ?_ (by assumption)))⟩
        · rw [H.out, g.out]; rfl
        · rw [H.out]; exact hi
  · have g0 : (tlt m t != 0) = true := by simp [g]
    have H := hid (show poolsOf m t = [] by unfold poolsOf; rw [if_neg g])
    clear g
    go_enter Try.func26, Try.ntmps26
    go_wp2_with fail
    (refine (tiltedR_any m q a cap t _ (by first | assumption | exact Ints.ext hI (by repeat (with_reducible first | assumption | exact Ext.refl _ | refine Ext.drew ?_ | refine Ext.drewN ?_ _ | refine Ext.alloc ?_ _ | (refine Ext.setCell ?_ ?sz _; case sz => (first | (simp; done) | (simp; omega))) | refine Ext.trans ?_ (by assumption)))) hl).mono ?_; rintro e w1 ⟨rfl, hE⟩; obtain ⟨c0, c1, c2⟩ := box3 hE)
    go_wp2_with fail
    (refine (tiltedR_any m q a cap t _ (by first | assumption | exact Ints.ext hI (by repeat (with_reducible first | assumption | exact Ext.refl _ | refine Ext.drew ?_ | refine Ext.drewN ?_ _ | refine Ext.alloc ?_ _ | (refine Ext.setCell ?_ ?sz _; case sz => (first | (simp; done) | (simp; omega))) | refine Ext.trans ?_ (by assumption)))) hl).mono ?_; rintro e w2 ⟨rfl, hE2⟩)
    go_wp2_with fail
    go_ret2
    refine ⟨none, 0, ?_, ?_, (by repeat (with_reducible first | assumption | exact Ext.refl _ | refine Ext.drew ?_ | refine Ext.drewN ?_ _ | refine Ext.alloc ?_ _ | (refine Ext.setCell ?_ ?sz _; case sz => (first | (simp; done) | (simp; omega))) | refine Ext.trans ?_ (by assumption)))⟩
    · rw [H.out]; rfl
    · rw [H.out]; exact Prs.nil _ _

end Go.Proofs.Ytogglbhidlnijaa
