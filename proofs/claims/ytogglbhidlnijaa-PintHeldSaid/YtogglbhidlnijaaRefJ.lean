/- The reference's Span, Seal and errors. -/
import Derived.Test.YtogglbhidlnijaaSpan
import Derived.Deep.QuietTactic
import Derived.BigQuiet
import Derived.StillTailTactics
namespace Go.Proofs.Ytogglbhidlnijaa
set_option linter.unusedVariables false
set_option linter.unusedSimpArgs false
set_option linter.unusedSectionVars false
set_option linter.unnecessarySimpa false
open Go Go.RowKit
set_option maxRecDepth 100000

theorem minIf (a x : Int) : (if x < a then x else a) = min a x := by split <;> omega
theorem maxIf (a x : Int) : (if a < x then x else a) = max a x := by split <;> omega

set_option maxHeartbeats 1000000 in
theorem spanR_any (d : Dent) (q : FitD d) (a : Option Addr) (cap : Nat) (t : Int) (w : World) (hP : Prs w a d.rs) (hl : d.rs.length ≤ 1000) :
    Calls Try.prog 41 #[(.agg #[.int .i64 d.L, .int .i64 d.R, .slice a d.rs.length cap]), .int .i64 t] w fun e w' => e = .returned (.tuple #[.agg #[.int .i64 (spanLoOf d t), .int .i64 (spanHiOf d t)], .int .i64 (dtd d t)]) ∧ Ext w w' := by
  have hB := (Ext.refl w).alloc (.cells #[.int .i64 d.L, .int .i64 d.R, .slice a d.rs.length cap] 50)
  by_cases g : dtd d t = 0
  · have g0 : (dtd d t != 0) = false := by simp [g]
    have k := dtd_ok.1 g
    obtain ⟨p0, p1, p2⟩ := held_ok k
    have H1 := hid (show spanLoOf d t = minTo (held d t) (held d t).length by unfold spanLoOf; rw [if_pos g]; rfl)
    have H2 := hid (show spanHiOf d t = maxTo (held d t) (held d t).length by unfold spanHiOf; rw [if_pos g]; rfl)
    have H3 := hid (show minTo (held d t) 0 = nth (held d t) 0 from rfl)
    have H4 := hid (show maxTo (held d t) 0 = nth (held d t) 0 from rfl)
    replace g := hid g
    have HP := hid hP
    clear hP
    go_enter Try.func41, Try.ntmps41
    go_wp2_with fail
    refine (dentedR_any d q a cap t _ (HP.out.ext (by repeat (with_reducible first | assumption | exact Ext.refl _ | refine Ext.drew ?_ | refine Ext.drewN ?_ _ | refine Ext.alloc ?_ _ | (refine Ext.setCell ?_ ?sz _; case sz => (first | (simp; done) | (simp; omega))) | refine Ext.trans ?_ (by assumption)))) hl).mono ?_; rintro e w1 ⟨rfl, hE⟩
    have c0 := hE.cell (p := ⟨w.heap.size, 0, none⟩) (v := .int .i64 d.L) (by simp [go_sem])
    have c1 := hE.cell (p := ⟨w.heap.size, 1, none⟩) (v := .int .i64 d.R) (by simp [go_sem])
    have c2 := hE.cell (p := ⟨w.heap.size, 2, none⟩) (v := .slice a d.rs.length cap) (by simp [go_sem])
    go_wp2_with fail
    refine (held_any d k.v a cap t k.t0 k.t1 _ (HP.out.ext (by repeat (with_reducible first | assumption | exact Ext.refl _ | refine Ext.drew ?_ | refine Ext.drewN ?_ _ | refine Ext.alloc ?_ _ | (refine Ext.setCell ?_ ?sz _; case sz => (first | (simp; done) | (simp; omega))) | refine Ext.trans ?_ (by assumption))))).mono ?_; rintro e w2 ⟨a2, cp2, rfl, hI, hE2⟩
    obtain ⟨b2, o2, rfl, hb2, hc⟩ := hI.at p0
    have z2 := hc 0 p0
    rw [Nat.add_zero] at z2
    have p3 := p2 0 p0
    have HC := hid hc
    have P2 := hid p2
    clear hc hI p2
    generalize hld : held d t = l at *
    go_wp2_with fail
    go_region_held3 (fun w' => w'.cell? ⟨b2, o2, none⟩ = some (.int .i64 (nth l 0)) ∧ Ext w2 w') (((try go_split_ands); (repeat' apply And.intro) <;> (first | (with_reducible assumption) | exact Ext.cell (w := w2) (by repeat (with_reducible first | assumption | exact Ext.refl _ | refine Ext.drew ?_ | refine Ext.drewN ?_ _ | refine Ext.alloc ?_ _ | (refine Ext.setCell ?_ ?sz _; case sz => (first | (simp; done) | (simp; omega))) | refine Ext.trans ?_ (by assumption))) (by assumption) | exact (by repeat (with_reducible first | assumption | exact Ext.refl _ | refine Ext.drew ?_ | refine Ext.drewN ?_ _ | refine Ext.alloc ?_ _ | (refine Ext.setCell ?_ ?sz _; case sz => (first | (simp; done) | (simp; omega))) | refine Ext.trans ?_ (by assumption)))))) (fail)
    have hz : w.heap.size + 1 < w2.heap.size := by have h1 := hE.size; have h2 := hE2.size; simp at h1; omega
    have e2 : Ext w w2 := (by repeat (with_reducible first | assumption | exact Ext.refl _ | refine Ext.drew ?_ | refine Ext.drewN ?_ _ | refine Ext.alloc ?_ _ | (refine Ext.setCell ?_ ?sz _; case sz => (first | (simp; done) | (simp; omega))) | refine Ext.trans ?_ (by assumption)))
    replace e2 := hid e2
    replace hE2 := hid hE2
    replace hE := hid hE
    clear hB
    go_wp2_with fail
    go_loopw [8] (fun i wr => ∃ k : Nat, k ≤ l.length ∧ i = .int .i64 k ∧ wr.cell? ⟨w2.heap.size, 0, none⟩ = some (.int .i64 (minTo l k)) ∧ wr.cell? ⟨w2.heap.size, 1, none⟩ = some (.int .i64 (maxTo l k)) ∧ wr.frozen? ⟨w2.heap.size, 0, none⟩ = false ∧ wr.frozen? ⟨w2.heap.size, 1, none⟩ = false ∧ Ext w2 wr) (fun i _ => (l.length - intOf i).toNat)
    case atStart => exact ⟨0, by omega, rfl, by simp [go_sem, H3.out], by simp [go_sem, H4.out], by simp [go_sem], by simp [go_sem], (by repeat (with_reducible first | assumption | exact Ext.refl _ | refine Ext.drew ?_ | refine Ext.drewN ?_ _ | refine Ext.alloc ?_ _ | (refine Ext.setCell ?_ ?sz _; case sz => (first | (simp; done) | (simp; omega))) | refine Ext.trans ?_ (by assumption)))⟩
    case round =>
      obtain ⟨j, hj, rfl, m0, m1, f0, f1, hw⟩ := hrel
      by_cases hlt : j < l.length
      · have z := hw.cell (HC.out j hlt)
        have hs1 := hid (show minTo l (j + 1) = min (minTo l j) (nth l j) from rfl)
        have hs2 := hid (show maxTo l (j + 1) = max (maxTo l j) (nth l j) from rfl)
        obtain ⟨b0, b1⟩ := P2.out j hlt
        obtain ⟨b3, b4⟩ := minTo_bd P2.out p0 j hj
        obtain ⟨b5, b6⟩ := maxTo_bd P2.out p0 j hj
        generalize minTo l j = mn at *
        generalize maxTo l j = mx at *
        generalize nth l j = x at *
        go_wp2_with fail
        go_still_tail 15, (by kernel_rfl)
        change wpList _ _ _ _ _ wr.drew
        go_wp2_with fail
        go_roundw
        case rel => exact ⟨j + 1, by omega, by go_num, by rw [hs1.out, ← minIf]; simp [go_sem, *], by rw [hs2.out, ← maxIf]; simp [go_sem, *], by simp [go_sem, *], by simp [go_sem, *], (by repeat (with_reducible first | assumption | exact Ext.refl _ | refine Ext.drew ?_ | refine Ext.drewN ?_ _ | refine Ext.alloc ?_ _ | (refine Ext.setCell ?_ ?sz _; case sz => (first | (simp; done) | (simp; omega))) | refine Ext.trans ?_ (by assumption)))⟩
        case measure => simp [intOf]; omega
      · obtain rfl : j = l.length := by omega
        have c4 := hw.cell (p := ⟨w.heap.size + 1, 0, none⟩) (hE2.out.cell (hE.out.cell (show (((w.alloc (.cells #[.int .i64 d.L, .int .i64 d.R, .slice a d.rs.length cap] 50)).alloc (.cells #[.int .i64 0, .int .i64 0] 52))).cell? _ = some (.int .i64 0) by simp [go_sem])))
        have c5 := hw.cell (p := ⟨w.heap.size + 1, 1, none⟩) (hE2.out.cell (hE.out.cell (show (((w.alloc (.cells #[.int .i64 d.L, .int .i64 d.R, .slice a d.rs.length cap] 50)).alloc (.cells #[.int .i64 0, .int .i64 0] 52))).cell? _ = some (.int .i64 0) by simp [go_sem])))
        have f4 : wr.frozen? ⟨w.heap.size + 1, 0, none⟩ = false := (hw.frozen (by simp; omega)).trans ((hE2.out.frozen (by have := hE.out.size; simp at this ⊢; omega)).trans ((hE.out.frozen (by simp)).trans (by simp [go_sem])))
        have f5 : wr.frozen? ⟨w.heap.size + 1, 1, none⟩ = false := (hw.frozen (by simp; omega)).trans ((hE2.out.frozen (by have := hE.out.size; simp at this ⊢; omega)).trans ((hE.out.frozen (by simp)).trans (by simp [go_sem])))
        go_wp2_with fail
        refine bodyPost_ret (v := .tuple #[.agg #[.int .i64 (minTo l l.length), .int .i64 (maxTo l l.length)], .int .i64 0]) ?_ rfl ?_
        · simp [results, Try.results41, go_sem, *]
        · have e2 := e2.out
          exact ⟨by rw [H1.out, H2.out, g.out], (by repeat (with_reducible first | assumption | exact Ext.refl _ | refine Ext.drew ?_ | refine Ext.drewN ?_ _ | refine Ext.alloc ?_ _ | (refine Ext.setCell ?_ ?sz _; case sz => (first | (simp; done) | (simp; omega))) | refine Ext.trans ?_ (by assumption)))⟩
  · have g0 : (dtd d t != 0) = true := by simp [g]
    have H1 := hid (show spanLoOf d t = 0 by unfold spanLoOf; rw [if_neg g])
    have H2 := hid (show spanHiOf d t = 0 by unfold spanHiOf; rw [if_neg g])
    clear g
    have HP := hid hP
    clear hP
    go_enter Try.func41, Try.ntmps41
    go_wp2_with fail
    refine (dentedR_any d q a cap t _ (HP.out.ext (by repeat (with_reducible first | assumption | exact Ext.refl _ | refine Ext.drew ?_ | refine Ext.drewN ?_ _ | refine Ext.alloc ?_ _ | (refine Ext.setCell ?_ ?sz _; case sz => (first | (simp; done) | (simp; omega))) | refine Ext.trans ?_ (by assumption)))) hl).mono ?_; rintro e w1 ⟨rfl, hE⟩
    have c0 := hE.cell (p := ⟨w.heap.size, 0, none⟩) (v := .int .i64 d.L) (by simp [go_sem])
    have c1 := hE.cell (p := ⟨w.heap.size, 1, none⟩) (v := .int .i64 d.R) (by simp [go_sem])
    have c2 := hE.cell (p := ⟨w.heap.size, 2, none⟩) (v := .slice a d.rs.length cap) (by simp [go_sem])
    have c4 := hE.cell (p := ⟨w.heap.size + 1, 0, none⟩) (v := .int .i64 0) (by simp [go_sem])
    have c5 := hE.cell (p := ⟨w.heap.size + 1, 1, none⟩) (v := .int .i64 0) (by simp [go_sem])
    have f4 : w1.frozen? ⟨w.heap.size + 1, 0, none⟩ = false := (hE.frozen (by simp)).trans (by simp [go_sem])
    have f5 : w1.frozen? ⟨w.heap.size + 1, 1, none⟩ = false := (hE.frozen (by simp)).trans (by simp [go_sem])
    go_wp2_with fail
    refine (dentedR_any d q a cap t _ (HP.out.ext (by repeat (with_reducible first | assumption | exact Ext.refl _ | refine Ext.drew ?_ | refine Ext.drewN ?_ _ | refine Ext.alloc ?_ _ | (refine Ext.setCell ?_ ?sz _; case sz => (first | (simp; done) | (simp; omega))) | refine Ext.trans ?_ (by assumption)))) hl).mono ?_; rintro e w2 ⟨rfl, hE2⟩
    have c4 := hE2.cell c4
    have c5 := hE2.cell c5
    have f4 : w2.frozen? ⟨w.heap.size + 1, 0, none⟩ = false := (hE2.frozen (Nat.lt_of_lt_of_le (by simp) hE.size)).trans f4
    have f5 : w2.frozen? ⟨w.heap.size + 1, 1, none⟩ = false := (hE2.frozen (Nat.lt_of_lt_of_le (by simp) hE.size)).trans f5
    go_wp2_with fail
    refine bodyPost_ret (v := .tuple #[.agg #[.int .i64 0, .int .i64 0], .int .i64 (dtd d t)]) ?_ rfl ?_
    · simp [results, Try.results41, go_sem, *]
    · exact ⟨by rw [H1.out, H2.out], (by repeat (with_reducible first | assumption | exact Ext.refl _ | refine Ext.drew ?_ | refine Ext.drewN ?_ _ | refine Ext.alloc ?_ _ | (refine Ext.setCell ?_ ?sz _; case sz => (first | (simp; done) | (simp; omega))) | refine Ext.trans ?_ (by assumption)))⟩

set_option maxHeartbeats 1000000 in
theorem sealR_any (d : Dent) (q : FitD d) (a : Option Addr) (cap : Nat) (t x y : Int) (w : World) (hP : Prs w a d.rs) (hl : d.rs.length ≤ 1000) :
    Calls Try.prog 43 #[(.agg #[.int .i64 d.L, .int .i64 d.R, .slice a d.rs.length cap]), .int .i64 t, .agg #[.int .i64 x, .int .i64 y]] w fun e w' => e = .returned (.tuple #[.int .i64 (sealOf d t x y), .int .i64 (ask d t x y)]) ∧ Ext w w' := by
  have hB := (Ext.refl w).alloc (.cells #[.int .i64 d.L, .int .i64 d.R, .slice a d.rs.length cap] 50)
  by_cases g : ask d t x y = 0
  · have g0 : (ask d t x y != 0) = false := by simp [g]
    have k := (ask_ok.1 g).1
    obtain ⟨p0, p1, p2⟩ := held_ok k
    have H1 := hid (show sealOf d t x y = if cntTo (held d t) x y (held d t).length = (held d t).length then 2 else if cntTo (held d t) x y (held d t).length = 0 then 0 else 1 by unfold sealOf; rw [if_pos g]; rfl)
    replace g := hid g
    have HP := hid hP
    clear hP
    go_enter Try.func43, Try.ntmps43
    go_wp2_with fail
    refine (askingR_any d q a cap t x y _ (HP.out.ext (by repeat (with_reducible first | assumption | exact Ext.refl _ | refine Ext.drew ?_ | refine Ext.drewN ?_ _ | refine Ext.alloc ?_ _ | (refine Ext.setCell ?_ ?sz _; case sz => (first | (simp; done) | (simp; omega))) | refine Ext.trans ?_ (by assumption)))) hl).mono ?_; rintro e w1 ⟨rfl, hE⟩
    have c0 := hE.cell (p := ⟨w.heap.size, 0, none⟩) (v := .int .i64 d.L) (by simp [go_sem])
    have c1 := hE.cell (p := ⟨w.heap.size, 1, none⟩) (v := .int .i64 d.R) (by simp [go_sem])
    have c2 := hE.cell (p := ⟨w.heap.size, 2, none⟩) (v := .slice a d.rs.length cap) (by simp [go_sem])
    have c3 := hE.cell (p := ⟨w.heap.size + 1, 0, none⟩) (v := .int .i64 x) (by simp [go_sem])
    have c4 := hE.cell (p := ⟨w.heap.size + 1, 1, none⟩) (v := .int .i64 y) (by simp [go_sem])
    go_wp2_with fail
    refine (held_any d k.v a cap t k.t0 k.t1 _ (HP.out.ext (by repeat (with_reducible first | assumption | exact Ext.refl _ | refine Ext.drew ?_ | refine Ext.drewN ?_ _ | refine Ext.alloc ?_ _ | (refine Ext.setCell ?_ ?sz _; case sz => (first | (simp; done) | (simp; omega))) | refine Ext.trans ?_ (by assumption))))).mono ?_; rintro e w2 ⟨a2, cp2, rfl, hI, hE2⟩
    obtain ⟨b2, o2, rfl, hb2, hc⟩ := hI.at p0
    have HC := hid hc
    have P2 := hid p2
    have c3 := hE2.cell c3
    have c4 := hE2.cell c4
    clear hc hI p2
    generalize hld : held d t = l at *
    have e2 : Ext w w2 := (by repeat (with_reducible first | assumption | exact Ext.refl _ | refine Ext.drew ?_ | refine Ext.drewN ?_ _ | refine Ext.alloc ?_ _ | (refine Ext.setCell ?_ ?sz _; case sz => (first | (simp; done) | (simp; omega))) | refine Ext.trans ?_ (by assumption)))
    replace e2 := hid e2
    clear hE hE2 hB
    go_wp2_with fail
    go_loopw [9, 10] (fun n i wr => ∃ k : Nat, k ≤ l.length ∧ i = .int .i64 k ∧ n = .int .i64 (cntTo l x y k) ∧ Ext w2 wr) (fun _ i _ => (l.length - intOf i).toNat)
    case atStart => exact ⟨0, by omega, rfl, rfl, (by repeat (with_reducible first | assumption | exact Ext.refl _ | refine Ext.drew ?_ | refine Ext.drewN ?_ _ | refine Ext.alloc ?_ _ | (refine Ext.setCell ?_ ?sz _; case sz => (first | (simp; done) | (simp; omega))) | refine Ext.trans ?_ (by assumption)))⟩
    case round =>
      obtain ⟨j, hj, rfl, rfl, hw⟩ := hrel
      have c3 := hw.cell c3
      have c4 := hw.cell c4
      have cl := cntTo_le l x y j
      by_cases hlt : j < l.length
      · have z := hw.cell (HC.out j hlt)
        have hs1 := hid (show cntTo l x y (j + 1) = cntTo l x y j + (if x ≤ nth l j ∧ nth l j ≤ y then 1 else 0) from rfl)
        generalize cntTo l x y j = cn at *
        generalize nth l j = u at *
        by_cases hin : x ≤ u ∧ u ≤ y
        · have hd : decide (x ≤ u ∧ u ≤ y) = true := by simpa using hin
          replace hin := hid hin
          go_wp2_with fail
          go_region_held3 (fun w' => w'.cell? ⟨w.heap.size + 1, 0, none⟩ = some (.int .i64 x) ∧ w'.cell? ⟨w.heap.size + 1, 1, none⟩ = some (.int .i64 y) ∧ w'.cell? ⟨b2, o2 + j, none⟩ = some (.int .i64 u) ∧ Ext wr w') (((try go_split_ands); (repeat' apply And.intro) <;> (first | (with_reducible assumption) | exact Ext.cell (w := wr) (by repeat (with_reducible first | assumption | exact Ext.refl _ | refine Ext.drew ?_ | refine Ext.drewN ?_ _ | refine Ext.alloc ?_ _ | (refine Ext.setCell ?_ ?sz _; case sz => (first | (simp; done) | (simp; omega))) | refine Ext.trans ?_ (by assumption))) (by assumption) | exact (by repeat (with_reducible first | assumption | exact Ext.refl _ | refine Ext.drew ?_ | refine Ext.drewN ?_ _ | refine Ext.alloc ?_ _ | (refine Ext.setCell ?_ ?sz _; case sz => (first | (simp; done) | (simp; omega))) | refine Ext.trans ?_ (by assumption))))))
            (first | (go_at_call 51; refine (in_any x y u _).mono ?_; rintro e w3 ⟨rfl, hE3⟩))
          all_goals
            go_wp2_with fail
            go_roundw
            case rel => exact ⟨j + 1, by omega, by go_num, by rw [hs1.out, if_pos hin.out]; go_num, (by repeat (with_reducible first | assumption | exact Ext.refl _ | refine Ext.drew ?_ | refine Ext.drewN ?_ _ | refine Ext.alloc ?_ _ | (refine Ext.setCell ?_ ?sz _; case sz => (first | (simp; done) | (simp; omega))) | refine Ext.trans ?_ (by assumption)))⟩
            case measure => simp [intOf]; omega
        · have hd : decide (x ≤ u ∧ u ≤ y) = false := by simpa using hin
          replace hin := hid hin
          go_wp2_with fail
          go_region_held3 (fun w' => w'.cell? ⟨w.heap.size + 1, 0, none⟩ = some (.int .i64 x) ∧ w'.cell? ⟨w.heap.size + 1, 1, none⟩ = some (.int .i64 y) ∧ w'.cell? ⟨b2, o2 + j, none⟩ = some (.int .i64 u) ∧ Ext wr w') (((try go_split_ands); (repeat' apply And.intro) <;> (first | (with_reducible assumption) | exact Ext.cell (w := wr) (by repeat (with_reducible first | assumption | exact Ext.refl _ | refine Ext.drew ?_ | refine Ext.drewN ?_ _ | refine Ext.alloc ?_ _ | (refine Ext.setCell ?_ ?sz _; case sz => (first | (simp; done) | (simp; omega))) | refine Ext.trans ?_ (by assumption))) (by assumption) | exact (by repeat (with_reducible first | assumption | exact Ext.refl _ | refine Ext.drew ?_ | refine Ext.drewN ?_ _ | refine Ext.alloc ?_ _ | (refine Ext.setCell ?_ ?sz _; case sz => (first | (simp; done) | (simp; omega))) | refine Ext.trans ?_ (by assumption))))))
            (first | (go_at_call 51; refine (in_any x y u _).mono ?_; rintro e w3 ⟨rfl, hE3⟩))
          all_goals
            go_wp2_with fail
            go_roundw
            case rel => exact ⟨j + 1, by omega, by go_num, by rw [hs1.out, if_neg hin.out]; rfl, (by repeat (with_reducible first | assumption | exact Ext.refl _ | refine Ext.drew ?_ | refine Ext.drewN ?_ _ | refine Ext.alloc ?_ _ | (refine Ext.setCell ?_ ?sz _; case sz => (first | (simp; done) | (simp; omega))) | refine Ext.trans ?_ (by assumption)))⟩
            case measure => simp [intOf]; omega
      · obtain rfl : j = l.length := by omega
        have e2 := e2.out
        generalize cntTo l x y l.length = cn at *
        by_cases g1 : cn = l.length
        · have b1 : ((cn : Int) == (l.length : Int)) = true := by rw [beq_iff_eq]; omega
          have H := hid (H1.out.trans (if_pos g1))
          clear g1
          go_wp2_with fail
          go_ret2
          exact ⟨ret2i H.out.symm g.out.symm, (by repeat (with_reducible first | assumption | exact Ext.refl _ | refine Ext.drew ?_ | refine Ext.drewN ?_ _ | refine Ext.alloc ?_ _ | (refine Ext.setCell ?_ ?sz _; case sz => (first | (simp; done) | (simp; omega))) | refine Ext.trans ?_ (by assumption)))⟩
        · have b1 : ((cn : Int) == (l.length : Int)) = false := by rw [beq_eq_false_iff_ne]; omega
          by_cases g2 : cn = 0
          · have b2 : ((cn : Int) == 0) = true := by rw [beq_iff_eq]; omega
            have H := hid (H1.out.trans ((if_neg g1).trans (if_pos g2)))
            clear g1 g2
            go_wp2_with fail
            go_ret2
            exact ⟨ret2i H.out.symm g.out.symm, (by repeat (with_reducible first | assumption | exact Ext.refl _ | refine Ext.drew ?_ | refine Ext.drewN ?_ _ | refine Ext.alloc ?_ _ | (refine Ext.setCell ?_ ?sz _; case sz => (first | (simp; done) | (simp; omega))) | refine Ext.trans ?_ (by assumption)))⟩
          · have b2 : ((cn : Int) == 0) = false := by rw [beq_eq_false_iff_ne]; omega
            have H := hid (H1.out.trans ((if_neg g1).trans (if_neg g2)))
            clear g1 g2
            go_wp2_with fail
            go_ret2
            exact ⟨ret2i H.out.symm g.out.symm, (by repeat (with_reducible first | assumption | exact Ext.refl _ | refine Ext.drew ?_ | refine Ext.drewN ?_ _ | refine Ext.alloc ?_ _ | (refine Ext.setCell ?_ ?sz _; case sz => (first | (simp; done) | (simp; omega))) | refine Ext.trans ?_ (by assumption)))⟩
  · have g0 : (ask d t x y != 0) = true := by simp [g]
    have H1 := hid (show sealOf d t x y = 0 by unfold sealOf; rw [if_neg g])
    clear g
    have HP := hid hP
    clear hP
    go_enter Try.func43, Try.ntmps43
    go_wp2_with fail
    refine (askingR_any d q a cap t x y _ (HP.out.ext (by repeat (with_reducible first | assumption | exact Ext.refl _ | refine Ext.drew ?_ | refine Ext.drewN ?_ _ | refine Ext.alloc ?_ _ | (refine Ext.setCell ?_ ?sz _; case sz => (first | (simp; done) | (simp; omega))) | refine Ext.trans ?_ (by assumption)))) hl).mono ?_; rintro e w1 ⟨rfl, hE⟩
    have c0 := hE.cell (p := ⟨w.heap.size, 0, none⟩) (v := .int .i64 d.L) (by simp [go_sem])
    have c1 := hE.cell (p := ⟨w.heap.size, 1, none⟩) (v := .int .i64 d.R) (by simp [go_sem])
    have c2 := hE.cell (p := ⟨w.heap.size, 2, none⟩) (v := .slice a d.rs.length cap) (by simp [go_sem])
    have c3 := hE.cell (p := ⟨w.heap.size + 1, 0, none⟩) (v := .int .i64 x) (by simp [go_sem])
    have c4 := hE.cell (p := ⟨w.heap.size + 1, 1, none⟩) (v := .int .i64 y) (by simp [go_sem])
    go_wp2_with fail
    refine (askingR_any d q a cap t x y _ (HP.out.ext (by repeat (with_reducible first | assumption | exact Ext.refl _ | refine Ext.drew ?_ | refine Ext.drewN ?_ _ | refine Ext.alloc ?_ _ | (refine Ext.setCell ?_ ?sz _; case sz => (first | (simp; done) | (simp; omega))) | refine Ext.trans ?_ (by assumption)))) hl).mono ?_; rintro e w2 ⟨rfl, hE2⟩
    go_wp2_with fail
    go_ret2
    exact ⟨ret2i H1.out.symm rfl, (by repeat (with_reducible first | assumption | exact Ext.refl _ | refine Ext.drew ?_ | refine Ext.drewN ?_ _ | refine Ext.alloc ?_ _ | (refine Ext.setCell ?_ ?sz _; case sz => (first | (simp; done) | (simp; omega))) | refine Ext.trans ?_ (by assumption)))⟩


set_option maxHeartbeats 1000000 in
theorem rightErrorR_any (d : Dent) (q : FitD d) (a : Option Addr) (cap : Nat) (t x y : Int) (w : World) (hP : Prs w a d.rs) (hl : d.rs.length ≤ 1000) :
    Calls Try.prog 48 #[(.agg #[.int .i64 d.L, .int .i64 d.R, .slice a d.rs.length cap]), .int .i64 t, .agg #[.int .i64 x, .int .i64 y]] w fun e w' => e = .returned (.int .i64 (rightE d t x y)) ∧ Ext w w' := by
  have hB := (Ext.refl w).alloc (.cells #[.int .i64 d.L, .int .i64 d.R, .slice a d.rs.length cap] 50)
  have HP := hid hP
  clear hP
  by_cases g : ask d t x y = 0
  · have g0 : (ask d t x y == 0) = true := by simp [g]
    by_cases g1 : sealOf d t x y = 0
    · have g2 : (sealOf d t x y == 0) = true := by simp [g1]
      have H := hid (show rightE d t x y = _ by unfold rightE; rw [if_pos ⟨g, g1⟩])
      clear g g1
      go_enter Try.func48, Try.ntmps48
      go_wp2_with fail
      refine (sealR_any d q a cap t x y _ (HP.out.ext (by repeat (with_reducible first | assumption | exact Ext.refl _ | refine Ext.drew ?_ | refine Ext.drewN ?_ _ | refine Ext.alloc ?_ _ | (refine Ext.setCell ?_ ?sz _; case sz => (first | (simp; done) | (simp; omega))) | refine Ext.trans ?_ (by assumption)))) hl).mono ?_; rintro e w1 ⟨rfl, hE⟩
      go_wp2_with fail
      go_ret
      exact ⟨ret_int H.out.symm, (by repeat (with_reducible first | assumption | exact Ext.refl _ | refine Ext.drew ?_ | refine Ext.drewN ?_ _ | refine Ext.alloc ?_ _ | (refine Ext.setCell ?_ ?sz _; case sz => (first | (simp; done) | (simp; omega))) | refine Ext.trans ?_ (by assumption)))⟩
    · have g2 : (sealOf d t x y == 0) = false := by simp [g1]
      have H := hid (show rightE d t x y = _ by unfold rightE; rw [if_neg (fun h => g1 h.2)])
      clear g g1
      go_enter Try.func48, Try.ntmps48
      go_wp2_with fail
      refine (sealR_any d q a cap t x y _ (HP.out.ext (by repeat (with_reducible first | assumption | exact Ext.refl _ | refine Ext.drew ?_ | refine Ext.drewN ?_ _ | refine Ext.alloc ?_ _ | (refine Ext.setCell ?_ ?sz _; case sz => (first | (simp; done) | (simp; omega))) | refine Ext.trans ?_ (by assumption)))) hl).mono ?_; rintro e w1 ⟨rfl, hE⟩
      go_wp2_with fail
      go_ret
      exact ⟨ret_int H.out.symm, (by repeat (with_reducible first | assumption | exact Ext.refl _ | refine Ext.drew ?_ | refine Ext.drewN ?_ _ | refine Ext.alloc ?_ _ | (refine Ext.setCell ?_ ?sz _; case sz => (first | (simp; done) | (simp; omega))) | refine Ext.trans ?_ (by assumption)))⟩
  · have g0 : (ask d t x y == 0) = false := by simp [g]
    have H := hid (show rightE d t x y = _ by unfold rightE; rw [if_neg (fun h => g h.1)])
    clear g
    go_enter Try.func48, Try.ntmps48
    go_wp2_with fail
    refine (sealR_any d q a cap t x y _ (HP.out.ext (by repeat (with_reducible first | assumption | exact Ext.refl _ | refine Ext.drew ?_ | refine Ext.drewN ?_ _ | refine Ext.alloc ?_ _ | (refine Ext.setCell ?_ ?sz _; case sz => (first | (simp; done) | (simp; omega))) | refine Ext.trans ?_ (by assumption)))) hl).mono ?_; rintro e w1 ⟨rfl, hE⟩
    go_wp2_with fail
    go_ret
    exact ⟨ret_int H.out.symm, (by repeat (with_reducible first | assumption | exact Ext.refl _ | refine Ext.drew ?_ | refine Ext.drewN ?_ _ | refine Ext.alloc ?_ _ | (refine Ext.setCell ?_ ?sz _; case sz => (first | (simp; done) | (simp; omega))) | refine Ext.trans ?_ (by assumption)))⟩
set_option maxHeartbeats 1000000 in
theorem wrongErrorR_any (d : Dent) (q : FitD d) (a : Option Addr) (cap : Nat) (t x y : Int) (w : World) (hP : Prs w a d.rs) (hl : d.rs.length ≤ 1000) :
    Calls Try.prog 49 #[(.agg #[.int .i64 d.L, .int .i64 d.R, .slice a d.rs.length cap]), .int .i64 t, .agg #[.int .i64 x, .int .i64 y]] w fun e w' => e = .returned (.int .i64 (wrongE d t x y)) ∧ Ext w w' := by
  have hB := (Ext.refl w).alloc (.cells #[.int .i64 d.L, .int .i64 d.R, .slice a d.rs.length cap] 50)
  have HP := hid hP
  clear hP
  by_cases g : ask d t x y = 0
  · have g0 : (ask d t x y == 0) = true := by simp [g]
    by_cases g1 : sealOf d t x y = 2
    · have g2 : (sealOf d t x y == 2) = true := by simp [g1]
      have H := hid (show wrongE d t x y = _ by unfold wrongE; rw [if_pos ⟨g, g1⟩])
      clear g g1
      go_enter Try.func49, Try.ntmps49
      go_wp2_with fail
      refine (sealR_any d q a cap t x y _ (HP.out.ext (by repeat (with_reducible first | assumption | exact Ext.refl _ | refine Ext.drew ?_ | refine Ext.drewN ?_ _ | refine Ext.alloc ?_ _ | (refine Ext.setCell ?_ ?sz _; case sz => (first | (simp; done) | (simp; omega))) | refine Ext.trans ?_ (by assumption)))) hl).mono ?_; rintro e w1 ⟨rfl, hE⟩
      go_wp2_with fail
      go_ret
      exact ⟨ret_int H.out.symm, (by repeat (with_reducible first | assumption | exact Ext.refl _ | refine Ext.drew ?_ | refine Ext.drewN ?_ _ | refine Ext.alloc ?_ _ | (refine Ext.setCell ?_ ?sz _; case sz => (first | (simp; done) | (simp; omega))) | refine Ext.trans ?_ (by assumption)))⟩
    · have g2 : (sealOf d t x y == 2) = false := by simp [g1]
      have H := hid (show wrongE d t x y = _ by unfold wrongE; rw [if_neg (fun h => g1 h.2)])
      clear g g1
      go_enter Try.func49, Try.ntmps49
      go_wp2_with fail
      refine (sealR_any d q a cap t x y _ (HP.out.ext (by repeat (with_reducible first | assumption | exact Ext.refl _ | refine Ext.drew ?_ | refine Ext.drewN ?_ _ | refine Ext.alloc ?_ _ | (refine Ext.setCell ?_ ?sz _; case sz => (first | (simp; done) | (simp; omega))) | refine Ext.trans ?_ (by assumption)))) hl).mono ?_; rintro e w1 ⟨rfl, hE⟩
      go_wp2_with fail
      go_ret
      exact ⟨ret_int H.out.symm, (by repeat (with_reducible first | assumption | exact Ext.refl _ | refine Ext.drew ?_ | refine Ext.drewN ?_ _ | refine Ext.alloc ?_ _ | (refine Ext.setCell ?_ ?sz _; case sz => (first | (simp; done) | (simp; omega))) | refine Ext.trans ?_ (by assumption)))⟩
  · have g0 : (ask d t x y == 0) = false := by simp [g]
    have H := hid (show wrongE d t x y = _ by unfold wrongE; rw [if_neg (fun h => g h.1)])
    clear g
    go_enter Try.func49, Try.ntmps49
    go_wp2_with fail
    refine (sealR_any d q a cap t x y _ (HP.out.ext (by repeat (with_reducible first | assumption | exact Ext.refl _ | refine Ext.drew ?_ | refine Ext.drewN ?_ _ | refine Ext.alloc ?_ _ | (refine Ext.setCell ?_ ?sz _; case sz => (first | (simp; done) | (simp; omega))) | refine Ext.trans ?_ (by assumption)))) hl).mono ?_; rintro e w1 ⟨rfl, hE⟩
    go_wp2_with fail
    go_ret
    exact ⟨ret_int H.out.symm, (by repeat (with_reducible first | assumption | exact Ext.refl _ | refine Ext.drew ?_ | refine Ext.drewN ?_ _ | refine Ext.alloc ?_ _ | (refine Ext.setCell ?_ ?sz _; case sz => (first | (simp; done) | (simp; omega))) | refine Ext.trans ?_ (by assumption)))⟩

end Go.Proofs.Ytogglbhidlnijaa
