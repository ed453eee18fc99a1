/- The program's functions over a table, the second part. -/
import Derived.Test.YtogglbhidlnijaaPinC
import Derived.Test.YtogglbhidlnijaaMemE
namespace Go.Proofs.Ytogglbhidlnijaa
set_option linter.unusedVariables false
set_option linter.unusedSimpArgs false
set_option linter.unusedSectionVars false
set_option linter.unnecessarySimpa false
open Go Go.RowKit


theorem elemI64i : ∃ i, Try.prog.info? 2 = some i ∧ i.size = 1 := by
  obtain ⟨i, h1, _, h2, _⟩ := elemI_mk (P := Try.prog) (e := 2) (by kernel_rfl)
  exact ⟨i, h1, h2⟩

set_option maxRecDepth 100000 in
set_option maxHeartbeats 1000000 in
theorem holds8_any (tb : Nat) (x0 x1 x2 x3 x4 x5 x6 x7 : Int) (w : World)
   (d0 : w.cell? ⟨tb, 20, none⟩ = some (.int .i64 x0)) (d1 : w.cell? ⟨tb, 21, none⟩ = some (.int .i64 x1)) (d2 : w.cell? ⟨tb, 22, none⟩ = some (.int .i64 x2)) (d3 : w.cell? ⟨tb, 23, none⟩ = some (.int .i64 x3))
   (d4 : w.cell? ⟨tb, 24, none⟩ = some (.int .i64 x4)) (d5 : w.cell? ⟨tb, 25, none⟩ = some (.int .i64 x5)) (d6 : w.cell? ⟨tb, 26, none⟩ = some (.int .i64 x6)) (d7 : w.cell? ⟨tb, 27, none⟩ = some (.int .i64 x7))
   (hb : 0 ≤ x0 ∧ x0 ≤ 420 ∧ 0 ≤ x1 ∧ x1 ≤ 420 ∧ 0 ≤ x2 ∧ x2 ≤ 420 ∧ 0 ≤ x3 ∧ x3 ≤ 420 ∧ 0 ≤ x4 ∧ x4 ≤ 420 ∧ 0 ≤ x5 ∧ x5 ≤ 420 ∧ 0 ≤ x6 ∧ x6 ≤ 420 ∧ 0 ≤ x7 ∧ x7 ≤ 420) :
    Calls Try.prog 70 #[.pointer (some ⟨tb, 0, none⟩)] w fun e w' => e = .returned (.int .i64 (x0 + x1 + x2 + x3 + x4 + x5 + x6 + x7)) ∧ w = w' := by
  obtain ⟨a0, b0, a1, b1, a2, b2, a3, b3, a4, b4, a5, b5, a6, b6, a7, b7⟩ := hb
  obtain ⟨ii, hi1, hi2⟩ := elemI64i
  have he := fun w => run_eqArr (P := Try.prog) w (t := 91) (k := .i64) Try.underlying91 Try.underlying2 (i := ii) hi1 hi2 #[.int .i64 x0, .int .i64 x1, .int .i64 x2, .int .i64 x3, .int .i64 x4, .int .i64 x5, .int .i64 x6, .int .i64 x7] #[.int .i64 0, .int .i64 0, .int .i64 0, .int .i64 0, .int .i64 0, .int .i64 0, .int .i64 0, .int .i64 0] (fun j => nth [x0, x1, x2, x3, x4, x5, x6, x7] j) (fun _ => 0) (by
    intro j hj
    have : j = 0 ∨ j = 1 ∨ j = 2 ∨ j = 3 ∨ j = 4 ∨ j = 5 ∨ j = 6 ∨ j = 7 := by omega
    rcases this with rfl | rfl | rfl | rfl | rfl | rfl | rfl | rfl <;> exact ⟨rfl, rfl⟩)
  have hz : ((List.range 8).all fun j => nth [x0, x1, x2, x3, x4, x5, x6, x7] j == 0) = true → x0 + x1 + x2 + x3 + x4 + x5 + x6 + x7 = 0 := by
    intro h
    have h := all_range_true.1 h
    have q0 := h 0 (by omega); have q1 := h 1 (by omega); have q2 := h 2 (by omega); have q3 := h 3 (by omega); have q4 := h 4 (by omega); have q5 := h 5 (by omega); have q6 := h 6 (by omega); have q7 := h 7 (by omega)
    simp [nth] at q0 q1 q2 q3 q4 q5 q6 q7
    omega
  generalize ((List.range 8).all fun j => nth [x0, x1, x2, x3, x4, x5, x6, x7] j == 0) = bb at he hz
  cases bb with
  | true =>
    replace hz := hid (hz rfl)
    go_enter Try.func70, Try.ntmps70
    go_wp2_with fail
    go_ret
    exact ⟨ret_int hz.out.symm, rfl⟩
  | false =>
  clear hz
  have i0 : ∀ w, (Instr.index 91 (.agg #[.int .i64 x0, .int .i64 x1, .int .i64 x2, .int .i64 x3, .int .i64 x4, .int .i64 x5, .int .i64 x6, .int .i64 x7]) (.int .i64 0)).run Try.prog w = .ok (.int .i64 x0) w := fun _ => by kernel_rfl
  have i1 : ∀ w, (Instr.index 91 (.agg #[.int .i64 x0, .int .i64 x1, .int .i64 x2, .int .i64 x3, .int .i64 x4, .int .i64 x5, .int .i64 x6, .int .i64 x7]) (.int .i64 1)).run Try.prog w = .ok (.int .i64 x1) w := fun _ => by kernel_rfl
  have i2 : ∀ w, (Instr.index 91 (.agg #[.int .i64 x0, .int .i64 x1, .int .i64 x2, .int .i64 x3, .int .i64 x4, .int .i64 x5, .int .i64 x6, .int .i64 x7]) (.int .i64 2)).run Try.prog w = .ok (.int .i64 x2) w := fun _ => by kernel_rfl
  have i3 : ∀ w, (Instr.index 91 (.agg #[.int .i64 x0, .int .i64 x1, .int .i64 x2, .int .i64 x3, .int .i64 x4, .int .i64 x5, .int .i64 x6, .int .i64 x7]) (.int .i64 3)).run Try.prog w = .ok (.int .i64 x3) w := fun _ => by kernel_rfl
  have i4 : ∀ w, (Instr.index 91 (.agg #[.int .i64 x0, .int .i64 x1, .int .i64 x2, .int .i64 x3, .int .i64 x4, .int .i64 x5, .int .i64 x6, .int .i64 x7]) (.int .i64 4)).run Try.prog w = .ok (.int .i64 x4) w := fun _ => by kernel_rfl
  have i5 : ∀ w, (Instr.index 91 (.agg #[.int .i64 x0, .int .i64 x1, .int .i64 x2, .int .i64 x3, .int .i64 x4, .int .i64 x5, .int .i64 x6, .int .i64 x7]) (.int .i64 5)).run Try.prog w = .ok (.int .i64 x5) w := fun _ => by kernel_rfl
  have i6 : ∀ w, (Instr.index 91 (.agg #[.int .i64 x0, .int .i64 x1, .int .i64 x2, .int .i64 x3, .int .i64 x4, .int .i64 x5, .int .i64 x6, .int .i64 x7]) (.int .i64 6)).run Try.prog w = .ok (.int .i64 x6) w := fun _ => by kernel_rfl
  have i7 : ∀ w, (Instr.index 91 (.agg #[.int .i64 x0, .int .i64 x1, .int .i64 x2, .int .i64 x3, .int .i64 x4, .int .i64 x5, .int .i64 x6, .int .i64 x7]) (.int .i64 7)).run Try.prog w = .ok (.int .i64 x7) w := fun _ => by kernel_rfl
  go_enter Try.func70, Try.ntmps70
  go_wp2_with fail
  go_loop [3, 17] (fun n i => (i = .int .i64 0 ∧ n = .int .i64 (0)) ∨ (i = .int .i64 1 ∧ n = .int .i64 (x0)) ∨ (i = .int .i64 2 ∧ n = .int .i64 (x0 + x1)) ∨ (i = .int .i64 3 ∧ n = .int .i64 (x0 + x1 + x2)) ∨ (i = .int .i64 4 ∧ n = .int .i64 (x0 + x1 + x2 + x3)) ∨ (i = .int .i64 5 ∧ n = .int .i64 (x0 + x1 + x2 + x3 + x4)) ∨ (i = .int .i64 6 ∧ n = .int .i64 (x0 + x1 + x2 + x3 + x4 + x5)) ∨ (i = .int .i64 7 ∧ n = .int .i64 (x0 + x1 + x2 + x3 + x4 + x5 + x6)) ∨ (i = .int .i64 8 ∧ n = .int .i64 (x0 + x1 + x2 + x3 + x4 + x5 + x6 + x7))) (fun _ i => (8 - intOf i).toNat)
  case atStart => exact Or.inl ⟨rfl, rfl⟩
  case round =>
    rcases hrel with ⟨rfl, rfl⟩ | ⟨rfl, rfl⟩ | ⟨rfl, rfl⟩ | ⟨rfl, rfl⟩ | ⟨rfl, rfl⟩ | ⟨rfl, rfl⟩ | ⟨rfl, rfl⟩ | ⟨rfl, rfl⟩ | ⟨rfl, rfl⟩
    · go_wp2_with fail
      go_round
      case rel => exact Or.inr (Or.inl ⟨rfl, rfl⟩)
      case measure => simp [intOf]
    · go_wp2_with fail
      go_round
      case rel => exact Or.inr (Or.inr (Or.inl ⟨rfl, rfl⟩))
      case measure => simp [intOf]
    · go_wp2_with fail
      go_round
      case rel => exact Or.inr (Or.inr (Or.inr (Or.inl ⟨rfl, rfl⟩)))
      case measure => simp [intOf]
    · go_wp2_with fail
      go_round
      case rel => exact Or.inr (Or.inr (Or.inr (Or.inr (Or.inl ⟨rfl, rfl⟩))))
      case measure => simp [intOf]
    · go_wp2_with fail
      go_round
      case rel => exact Or.inr (Or.inr (Or.inr (Or.inr (Or.inr (Or.inl ⟨rfl, rfl⟩)))))
      case measure => simp [intOf]
    · go_wp2_with fail
      go_round
      case rel => exact Or.inr (Or.inr (Or.inr (Or.inr (Or.inr (Or.inr (Or.inl ⟨rfl, rfl⟩))))))
      case measure => simp [intOf]
    · go_wp2_with fail
      go_round
      case rel => exact Or.inr (Or.inr (Or.inr (Or.inr (Or.inr (Or.inr (Or.inr (Or.inl ⟨rfl, rfl⟩)))))))
      case measure => simp [intOf]
    · go_wp2_with fail
      go_round
      case rel => exact Or.inr (Or.inr (Or.inr (Or.inr (Or.inr (Or.inr (Or.inr (Or.inr (⟨rfl, rfl⟩))))))))
      case measure => simp [intOf]
    · go_wp2_with fail
      go_ret
      exact ⟨rfl, rfl⟩


theorem fD_full (m : Meas) (t : Int) (j : Nat) : fD m t m.hs.length j = if j < m.hs.length then depth m t j else 0 := by
  unfold fD
  by_cases h : j < m.hs.length
  · rw [if_pos ⟨by omega, h⟩, if_pos h]
  · rw [if_neg (by omega), if_neg h]
theorem fR_full (m : Meas) (t : Int) {j : Nat} (h : j < m.hs.length) : fR m t m.hs.length j = topR m t j := by
  unfold fR; rw [if_pos ⟨by omega, h⟩]
theorem fL_full (m : Meas) (t : Int) {j : Nat} (h : j < m.hs.length) : fL m t m.hs.length j = topL m t j := by
  unfold fL; rw [if_pos h]; rfl
theorem sum8 (f : Nat → Int) (n : Nat) (h : n ≤ 8) : (if 0 < n then f 0 else 0) + (if 1 < n then f 1 else 0) + (if 2 < n then f 2 else 0) + (if 3 < n then f 3 else 0) + (if 4 < n then f 4 else 0) + (if 5 < n then f 5 else 0) + (if 6 < n then f 6 else 0) + (if 7 < n then f 7 else 0) = sumTo f n := by
  have : n = 0 ∨ n = 1 ∨ n = 2 ∨ n = 3 ∨ n = 4 ∨ n = 5 ∨ n = 6 ∨ n = 7 ∨ n = 8 := by omega
  rcases this with rfl | rfl | rfl | rfl | rfl | rfl | rfl | rfl | rfl <;> simp [sumTo]

theorem holdsT_any (m : Meas) (v : Vld m) (tb : Nat) (a : Option Addr) (cap : Nat) (t : Int) (w : World) (hT : Tab w tb m t a cap) (h0 : -20 ≤ t) (h1 : t ≤ 20) :
    Calls Try.prog 70 #[.pointer (some ⟨tb, 0, none⟩)] w fun e w' => e = .returned (.int .i64 (holds m t)) ∧ w = w' := by
  have hb : ∀ j, 0 ≤ fD m t m.hs.length j ∧ fD m t m.hs.length j ≤ 420 := by
    intro j
    rw [fD_full]
    split
    · exact depth_bd v h0 h1 (by omega) (by omega)
    · omega
  have := holds8_any tb _ _ _ _ _ _ _ _ w (hT.cd 0 (by omega)) (hT.cd 1 (by omega)) (hT.cd 2 (by omega)) (hT.cd 3 (by omega)) (hT.cd 4 (by omega)) (hT.cd 5 (by omega)) (hT.cd 6 (by omega)) (hT.cd 7 (by omega))
    ⟨(hb 0).1, (hb 0).2, (hb 1).1, (hb 1).2, (hb 2).1, (hb 2).2, (hb 3).1, (hb 3).2, (hb 4).1, (hb 4).2, (hb 5).1, (hb 5).2, (hb 6).1, (hb 6).2, (hb 7).1, (hb 7).2⟩
  have e : fD m t m.hs.length 0 + fD m t m.hs.length 1 + fD m t m.hs.length 2 + fD m t m.hs.length 3 + fD m t m.hs.length 4 + fD m t m.hs.length 5 + fD m t m.hs.length 6 + fD m t m.hs.length 7 = holds m t := by
    simp only [fD_full]
    exact sum8 (dep m t) m.hs.length v.n8
  rwa [e] at this


set_option maxHeartbeats 400000 in
theorem holds_any (m : Meas) (q : Fit m) (a : Option Addr) (cap : Nat) (t : Int) (w : World) (hI : Ints w a m.hs) (hl : m.hs.length ≤ 1000) (ht : I64 t) :
    Calls Try.prog 21 #[(.agg #[.int .i64 m.L, .int .i64 m.R, .slice a m.hs.length cap]), .int .i64 t] w fun e w' => e = .returned (.tuple #[.int .i64 (holdsOf m t), .int .i64 (tlt m t)]) ∧ Ext w w' := by
  have hB := (Ext.refl w).alloc (.cells #[.int .i64 m.L, .int .i64 m.R, .slice a m.hs.length cap] 24)
  go_enter Try.func21, Try.ntmps21
  go_wp2_with fail
  (refine (open0_any m q a cap t _ (by first | assumption | exact Ints.ext hI (by repeat (with_reducible first | assumption | exact Ext.refl _ | refine Ext.drew ?_ | refine Ext.drewN ?_ _ | refine Ext.alloc ?_ _ | (refine Ext.setCell ?_ ?sz _; case sz => (first | (simp; done) | (simp; omega))) | refine Ext.trans ?_ (by assumption)))) hl ht).mono ?_)
  rintro e w1 (⟨g, rfl, hE⟩ | ⟨g, tb, rfl, hT, hE⟩)
  · have g0 : (tlt m t != 0) = true := by simp [g]
    have H := hid (show holdsOf m t = 0 by unfold holdsOf; rw [if_neg g])
    clear g
    go_wp2_with fail
    go_ret2
    exact ⟨ret2i H.out.symm rfl, (by repeat (with_reducible first | assumption | exact Ext.refl _ | refine Ext.drew ?_ | refine Ext.drewN ?_ _ | refine Ext.alloc ?_ _ | (refine Ext.setCell ?_ ?sz _; case sz => (first | (simp; done) | (simp; omega))) | refine Ext.trans ?_ (by assumption)))⟩
  · have k := tlt_ok.1 g
    have H := hid (show holdsOf m t = holds m t by unfold holdsOf; rw [if_pos g])
    replace g := hid g
    go_wp2_with fail
    refine (holdsT_any m k.v tb a cap t _ hT k.t0 k.t1).mono ?_
    rintro e w2 ⟨rfl, rfl⟩
    go_wp2_with fail
    go_ret2
    exact ⟨ret2i H.out.symm g.out.symm, (by repeat (with_reducible first | assumption | exact Ext.refl _ | refine Ext.drew ?_ | refine Ext.drewN ?_ _ | refine Ext.alloc ?_ _ | (refine Ext.setCell ?_ ?sz _; case sz => (first | (simp; done) | (simp; omega))) | refine Ext.trans ?_ (by assumption)))⟩

set_option maxHeartbeats 400000 in
theorem checkWalls_any (m : Meas) (q : Fit m) (a : Option Addr) (cap : Nat) (t i l r : Int) (w : World) (hI : Ints w a m.hs) (hl : m.hs.length ≤ 1000) (ht : I64 t) (hi : I64 i) (hl' : I64 l) (hr : I64 r) :
    Calls Try.prog 31 #[(.agg #[.int .i64 m.L, .int .i64 m.R, .slice a m.hs.length cap]), .int .i64 t, .int .i64 i, .int .i64 l, .int .i64 r] w fun e w' => e = .returned (.tuple #[.int .i64 (provedOf m t i l r), .int .i64 (wallsE m t i l r)]) ∧ Ext w w' := by
  have hB := (Ext.refl w).alloc (.cells #[.int .i64 m.L, .int .i64 m.R, .slice a m.hs.length cap] 24)
  go_enter Try.func31, Try.ntmps31
  go_wp2_with fail
  (refine (open1_any m q a cap t i _ _ (by first | assumption | exact Ints.ext hI (by repeat (with_reducible first | assumption | exact Ext.refl _ | refine Ext.drew ?_ | refine Ext.drewN ?_ _ | refine Ext.alloc ?_ _ | (refine Ext.setCell ?_ ?sz _; case sz => (first | (simp; done) | (simp; omega))) | refine Ext.trans ?_ (by assumption)))) (by exact lit1 (by simp)) hl ht hi).mono ?_)
  rintro e w1 (⟨g, rfl, hE⟩ | ⟨g, tb, rfl, hT, hE⟩)
  · have g0 : (plc m t i != 0) = true := by simp [g]
    have H1 : wallsE m t i l r = plc m t i := by unfold wallsE; rw [if_pos g]
    have H2 := hid (show provedOf m t i l r = 0 by unfold provedOf; rw [if_neg (by rw [H1]; exact g)])
    replace H1 := hid H1
    clear g
    go_wp2_with fail
    go_ret2
    exact ⟨ret2i H2.out.symm H1.out.symm, (by repeat (with_reducible first | assumption | exact Ext.refl _ | refine Ext.drew ?_ | refine Ext.drewN ?_ _ | refine Ext.alloc ?_ _ | (refine Ext.setCell ?_ ?sz _; case sz => (first | (simp; done) | (simp; omega))) | refine Ext.trans ?_ (by assumption)))⟩
  · obtain ⟨k, i0, i1⟩ := plc_ok.1 g
    have n8 := k.v.n8
    have hEB : Ext (w.alloc (.cells #[.int .i64 m.L, .int .i64 m.R, .slice a m.hs.length cap] 24)) w1 := (by repeat (with_reducible first | assumption | exact Ext.refl _ | refine Ext.drew ?_ | refine Ext.drewN ?_ _ | refine Ext.alloc ?_ _ | (refine Ext.setCell ?_ ?sz _; case sz => (first | (simp; done) | (simp; omega))) | refine Ext.trans ?_ (by assumption)))
    obtain ⟨c0, c1, c2⟩ := box3 hEB
    cases g1 : inR (-1) i l with
    | false =>
      have c : l < -1 ∨ i < l := by have := mt inR_iff.2 (by simpa using g1); omega
      have H1 : wallsE m t i l r = 2 := by unfold wallsE; rw [if_neg (by simpa using g), if_pos (by omega)]
      have H2 := hid (show provedOf m t i l r = 0 by unfold provedOf; rw [if_neg (by simp [H1])])
      replace H1 := hid H1
      have g2 : (!inR (-1) i l) = true := by rw [g1]; rfl
      clear g g1 c
      go_wp2_with fail
      refine (within1_any _ _ _ _ _ (by exact lit1 (by simp)) hl').mono ?_
      rintro e w2 ⟨rfl, hE2⟩
      go_wp2_with fail
      go_ret2
      exact ⟨ret2i H2.out.symm H1.out.symm, (by repeat (with_reducible first | assumption | exact Ext.refl _ | refine Ext.drew ?_ | refine Ext.drewN ?_ _ | refine Ext.alloc ?_ _ | (refine Ext.setCell ?_ ?sz _; case sz => (first | (simp; done) | (simp; omega))) | refine Ext.trans ?_ (by assumption)))⟩
    | true =>
      have c := inR_iff.1 g1
      have g2 : (!inR (-1) i l) = false := by rw [g1]; rfl
      cases g3 : inR i m.hs.length r with
      | false =>
        have c : r < i ∨ (m.hs.length : Int) < r := by have := mt inR_iff.2 (by simpa using g3); omega
        have H1 : wallsE m t i l r = 2 := by unfold wallsE; rw [if_neg (by simpa using g), if_pos (by omega)]
        have H2 := hid (show provedOf m t i l r = 0 by unfold provedOf; rw [if_neg (by simp [H1])])
        replace H1 := hid H1
        have g4 : (!inR i (m.hs.length : Int) r) = true := by rw [g3]; rfl
        clear g g1 c g3
        go_wp2_with fail
        refine (within1_any _ _ _ _ _ (by exact lit1 (by simp)) hl').mono ?_
        rintro e w2 ⟨rfl, hE2⟩
        obtain ⟨c0, c1, c2⟩ := box3 (show Ext (w.alloc (.cells #[.int .i64 m.L, .int .i64 m.R, .slice a m.hs.length cap] 24)) w2 from (by repeat (with_reducible first | assumption | exact Ext.refl _ | refine Ext.drew ?_ | refine Ext.drewN ?_ _ | refine Ext.alloc ?_ _ | (refine Ext.setCell ?_ ?sz _; case sz => (first | (simp; done) | (simp; omega))) | refine Ext.trans ?_ (by assumption))))
        go_wp2_with fail
        refine (within1_any _ _ _ _ _ (by exact lit1 (by simp)) hr).mono ?_
        rintro e w3 ⟨rfl, hE3⟩
        go_wp2_with fail
        go_ret2
        exact ⟨ret2i H2.out.symm H1.out.symm, (by repeat (with_reducible first | assumption | exact Ext.refl _ | refine Ext.drew ?_ | refine Ext.drewN ?_ _ | refine Ext.alloc ?_ _ | (refine Ext.setCell ?_ ?sz _; case sz => (first | (simp; done) | (simp; omega))) | refine Ext.trans ?_ (by assumption)))⟩
      | true =>
        obtain ⟨d0, d1⟩ := inR_iff.1 g3
        obtain ⟨d2, d3⟩ := c
        have g4 : (!inR i (m.hs.length : Int) r) = false := by rw [g3]; rfl
        have H1 : wallsE m t i l r = 0 := by unfold wallsE; rw [if_neg (by simpa using g), if_neg (by omega)]
        have H2 := hid (show provedOf m t i l r = min (hAt m t l) (hAt m t r) - hAt m t i by unfold provedOf; rw [if_pos H1])
        replace H1 := hid H1
        clear g g1 g3
        obtain ⟨b0, b1⟩ := hAt_bd (i := i) k.v k.t0 k.t1 (by omega) (by omega)
        obtain ⟨b2, b3⟩ := hAt_bd (i := l) k.v k.t0 k.t1 (by omega) (by omega)
        obtain ⟨b4, b5⟩ := hAt_bd (i := r) k.v k.t0 k.t1 (by omega) (by omega)
        go_wp2_with fail
        refine (within1_any _ _ _ _ _ (by exact lit1 (by simp)) hl').mono ?_
        rintro e w2 ⟨rfl, hE2⟩
        obtain ⟨c0, c1, c2⟩ := box3 (show Ext (w.alloc (.cells #[.int .i64 m.L, .int .i64 m.R, .slice a m.hs.length cap] 24)) w2 from (by repeat (with_reducible first | assumption | exact Ext.refl _ | refine Ext.drew ?_ | refine Ext.drewN ?_ _ | refine Ext.alloc ?_ _ | (refine Ext.setCell ?_ ?sz _; case sz => (first | (simp; done) | (simp; omega))) | refine Ext.trans ?_ (by assumption))))
        go_wp2_with fail
        refine (within1_any _ _ _ _ _ (by exact lit1 (by simp)) hr).mono ?_
        rintro e w3 ⟨rfl, hE3⟩
        have hT3 := TabF.ext hT (show Ext w1 w3 from (by repeat (with_reducible first | assumption | exact Ext.refl _ | refine Ext.drew ?_ | refine Ext.drewN ?_ _ | refine Ext.alloc ?_ _ | (refine Ext.setCell ?_ ?sz _; case sz => (first | (simp; done) | (simp; omega))) | refine Ext.trans ?_ (by assumption))))
        by_cases hm : hAt m t r < hAt m t l
        all_goals
          go_wp2_with fail
          refine (at_any m k.v tb a cap t l _ (by first | assumption | exact Ints.ext hI (by repeat (with_reducible first | assumption | exact Ext.refl _ | refine Ext.drew ?_ | refine Ext.drewN ?_ _ | refine Ext.alloc ?_ _ | (refine Ext.setCell ?_ ?sz _; case sz => (first | (simp; done) | (simp; omega))) | refine Ext.trans ?_ (by assumption)))) hT3.c0 hT3.c1 hT3.c2 hT3.c3 k.t0 k.t1 (by omega) (by omega)).mono ?_
          rintro e w4 ⟨rfl, rfl⟩
          go_wp2_with fail
          refine (at_any m k.v tb a cap t r _ (by first | assumption | exact Ints.ext hI (by repeat (with_reducible first | assumption | exact Ext.refl _ | refine Ext.drew ?_ | refine Ext.drewN ?_ _ | refine Ext.alloc ?_ _ | (refine Ext.setCell ?_ ?sz _; case sz => (first | (simp; done) | (simp; omega))) | refine Ext.trans ?_ (by assumption)))) hT3.c0 hT3.c1 hT3.c2 hT3.c3 k.t0 k.t1 (by omega) (by omega)).mono ?_
          rintro e w4 ⟨rfl, rfl⟩
          go_wp2_with fail
          refine (at_any m k.v tb a cap t i _ (by first | assumption | exact Ints.ext hI (by repeat (with_reducible first | assumption | exact Ext.refl _ | refine Ext.drew ?_ | refine Ext.drewN ?_ _ | refine Ext.alloc ?_ _ | (refine Ext.setCell ?_ ?sz _; case sz => (first | (simp; done) | (simp; omega))) | refine Ext.trans ?_ (by assumption)))) hT3.c0 hT3.c1 hT3.c2 hT3.c3 k.t0 k.t1 (by omega) (by omega)).mono ?_
          rintro e w4 ⟨rfl, rfl⟩
          go_wp2_with fail
          go_ret2
          exact ⟨ret2i (by rw [H2.out]; omega) H1.out.symm, (by repeat (with_reducible first | assumption | exact Ext.refl _ | refine Ext.drew ?_ | refine Ext.drewN ?_ _ | refine Ext.alloc ?_ _ | (refine Ext.setCell ?_ ?sz _; case sz => (first | (simp; done) | (simp; omega))) | refine Ext.trans ?_ (by assumption)))⟩

end Go.Proofs.Ytogglbhidlnijaa
