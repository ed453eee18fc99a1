/- The program's CheckDented, and the measure of a truth. -/
import Derived.Test.YtogglbhidlnijaaPinI
import Derived.Test.YtogglbhidlnijaaMapT
import Derived.StillTailTactics
namespace Go.Proofs.Ytogglbhidlnijaa
set_option linter.unusedVariables false
set_option linter.unusedSimpArgs false
set_option linter.unusedSectionVars false
set_option linter.unnecessarySimpa false
open Go Go.RowKit
set_option maxRecDepth 100000

set_option maxHeartbeats 1000000 in
theorem checkDented_any (d : Dent) (q : FitD d) (a : Option Addr) (cap : Nat) (w : World) (hP : Prs w a d.rs) (hl : d.rs.length ≤ 1000) :
    Calls Try.prog 44 #[(.agg #[.int .i64 d.L, .int .i64 d.R, .slice a d.rs.length cap])] w fun e w' => e = .returned (.int .i64 (chkD d)) ∧ Ext w w' := by
  have hB := (Ext.refl w).alloc (.cells #[.int .i64 d.L, .int .i64 d.R, .slice a d.rs.length cap] 50)
  have hn : I64 (d.rs.length : Int) := ⟨by omega, by omega⟩
  have HP := hid hP
  clear hP
  cases g : inR 1 4 d.rs.length with
  | false =>
    have H := hid (chkD_many (d := d) (by have := mt inR_iff.2 (by simpa using g); omega))
    have g0 : (!inR 1 4 (d.rs.length : Int)) = true := by rw [g]; rfl
    clear g
    go_enter Try.func44, Try.ntmps44
    go_wp2_with fail
    refine (within1_any 1 4 _ _ _ (by exact lit1 (by simp)) hn).mono ?_
    rintro e w1 ⟨rfl, hE⟩
    go_wp2_with fail
    go_ret
    exact ⟨ret_int H.out.symm, (by repeat (with_reducible first | assumption | exact Ext.refl _ | refine Ext.drew ?_ | refine Ext.drewN ?_ _ | refine Ext.alloc ?_ _ | (refine Ext.setCell ?_ ?sz _; case sz => (first | (simp; done) | (simp; omega))) | refine Ext.trans ?_ (by assumption)))⟩
  | true =>
    have g0 : (!inR 1 4 (d.rs.length : Int)) = false := by rw [g]; rfl
    have g1 := inR_iff.1 g
    clear g
    have hbad : ¬ VldD d → chkD d = 3 := chkD_range (by omega) (by omega)
    cases g2 : (inR 0 100 d.L && inR 0 100 d.R) with
    | false =>
      have H := hid (hbad (fun v => by simp [inR, v.l0, v.l1, v.r0, v.r1] at g2))
      have g3 : (!(inR 0 100 d.L && inR 0 100 d.R)) = true := by rw [g2]; rfl
      clear g2 hbad
      generalize hbb : (inR 0 100 d.L && inR 0 100 d.R) = bb at *
      have HB := hid hbb
      clear hbb
      go_enter Try.func44, Try.ntmps44
      go_wp2_with fail
      refine (within1_any 1 4 _ _ _ (by exact lit1 (by simp)) hn).mono ?_
      rintro e w1 ⟨rfl, hE⟩
      obtain ⟨c0, c1, c2⟩ := box3 (show Ext (w.alloc (.cells #[.int .i64 d.L, .int .i64 d.R, .slice a d.rs.length cap] 50)) w1 from (by repeat (with_reducible first | assumption | exact Ext.refl _ | refine Ext.drew ?_ | refine Ext.drewN ?_ _ | refine Ext.alloc ?_ _ | (refine Ext.setCell ?_ ?sz _; case sz => (first | (simp; done) | (simp; omega))) | refine Ext.trans ?_ (by assumption))))
      go_wp2_with fail
      refine (within2_any 0 100 _ _ _ _ (by exact lit2 (by simp)) q.l q.r).mono ?_
      rintro e w2 ⟨rfl, hE2⟩
      rw [HB.out]
      go_wp2_with fail
      go_ret
      exact ⟨ret_int H.out.symm, (by repeat (with_reducible first | assumption | exact Ext.refl _ | refine Ext.drew ?_ | refine Ext.drewN ?_ _ | refine Ext.alloc ?_ _ | (refine Ext.setCell ?_ ?sz _; case sz => (first | (simp; done) | (simp; omega))) | refine Ext.trans ?_ (by assumption)))⟩
    | true =>
      have g3 : (!(inR 0 100 d.L && inR 0 100 d.R)) = false := by rw [g2]; rfl
      have G2 := hid g2
      clear g2
      have hv : anyR stray d.rs = false → chkD d = 0 := fun h => by
        have h2 := G2.out
        rw [Bool.and_eq_true, inR_iff, inR_iff] at h2
        refine chkD_ok.2 ⟨by omega, by omega, h2.1.1, h2.1.2, h2.2.1, h2.2.2, fun i hi => stray_no.1 ?_⟩
        cases e : stray (pa d.rs i) (pb d.rs i) with
        | false => rfl
        | true => rw [anyR_yes hi e] at h; cases h
      have hw : anyR stray d.rs = true → chkD d = 3 := fun h => hbad fun v => by
        rw [anyR_no fun k hk => stray_no.2 (v.ok k hk)] at h; cases h
      generalize hbb : (inR 0 100 d.L && inR 0 100 d.R) = bb at *
      have HB := hid hbb
      cases g4 : anyR stray d.rs with
      | true =>
        have H := hid (hw g4)
        clear hv hw hbad hbb
        go_enter Try.func44, Try.ntmps44
        go_wp2_with fail
        refine (within1_any 1 4 _ _ _ (by exact lit1 (by simp)) hn).mono ?_
        rintro e w1 ⟨rfl, hE⟩
        obtain ⟨c0, c1, c2⟩ := box3 (show Ext (w.alloc (.cells #[.int .i64 d.L, .int .i64 d.R, .slice a d.rs.length cap] 50)) w1 from (by repeat (with_reducible first | assumption | exact Ext.refl _ | refine Ext.drew ?_ | refine Ext.drewN ?_ _ | refine Ext.alloc ?_ _ | (refine Ext.setCell ?_ ?sz _; case sz => (first | (simp; done) | (simp; omega))) | refine Ext.trans ?_ (by assumption))))
        go_wp2_with fail
        refine (within2_any 0 100 _ _ _ _ (by exact lit2 (by simp)) q.l q.r).mono ?_
        rintro e w2 ⟨rfl, hE2⟩
        obtain ⟨c0, c1, c2⟩ := box3 (show Ext (w.alloc (.cells #[.int .i64 d.L, .int .i64 d.R, .slice a d.rs.length cap] 50)) w2 from (by repeat (with_reducible first | assumption | exact Ext.refl _ | refine Ext.drew ?_ | refine Ext.drewN ?_ _ | refine Ext.alloc ?_ _ | (refine Ext.setCell ?_ ?sz _; case sz => (first | (simp; done) | (simp; omega))) | refine Ext.trans ?_ (by assumption))))
        rw [HB.out]
        go_wp2_with fail
        refine (containsStray_any a cap d.rs _ (HP.out.ext (by repeat (with_reducible first | assumption | exact Ext.refl _ | refine Ext.drew ?_ | refine Ext.drewN ?_ _ | refine Ext.alloc ?_ _ | (refine Ext.setCell ?_ ?sz _; case sz => (first | (simp; done) | (simp; omega))) | refine Ext.trans ?_ (by assumption)))) (by omega) q.lo q.hi).mono ?_
        rintro e w3 ⟨rfl, hE3⟩
        go_wp2_with fail
        go_ret
        exact ⟨ret_int H.out.symm, (by repeat (with_reducible first | assumption | exact Ext.refl _ | refine Ext.drew ?_ | refine Ext.drewN ?_ _ | refine Ext.alloc ?_ _ | (refine Ext.setCell ?_ ?sz _; case sz => (first | (simp; done) | (simp; omega))) | refine Ext.trans ?_ (by assumption)))⟩
      | false =>
        have H := hid (hv g4)
        clear hv hw hbad hbb
        go_enter Try.func44, Try.ntmps44
        go_wp2_with fail
        refine (within1_any 1 4 _ _ _ (by exact lit1 (by simp)) hn).mono ?_
        rintro e w1 ⟨rfl, hE⟩
        obtain ⟨c0, c1, c2⟩ := box3 (show Ext (w.alloc (.cells #[.int .i64 d.L, .int .i64 d.R, .slice a d.rs.length cap] 50)) w1 from (by repeat (with_reducible first | assumption | exact Ext.refl _ | refine Ext.drew ?_ | refine Ext.drewN ?_ _ | refine Ext.alloc ?_ _ | (refine Ext.setCell ?_ ?sz _; case sz => (first | (simp; done) | (simp; omega))) | refine Ext.trans ?_ (by assumption))))
        go_wp2_with fail
        refine (within2_any 0 100 _ _ _ _ (by exact lit2 (by simp)) q.l q.r).mono ?_
        rintro e w2 ⟨rfl, hE2⟩
        obtain ⟨c0, c1, c2⟩ := box3 (show Ext (w.alloc (.cells #[.int .i64 d.L, .int .i64 d.R, .slice a d.rs.length cap] 50)) w2 from (by repeat (with_reducible first | assumption | exact Ext.refl _ | refine Ext.drew ?_ | refine Ext.drewN ?_ _ | refine Ext.alloc ?_ _ | (refine Ext.setCell ?_ ?sz _; case sz => (first | (simp; done) | (simp; omega))) | refine Ext.trans ?_ (by assumption))))
        rw [HB.out]
        go_wp2_with fail
        refine (containsStray_any a cap d.rs _ (HP.out.ext (by repeat (with_reducible first | assumption | exact Ext.refl _ | refine Ext.drew ?_ | refine Ext.drewN ?_ _ | refine Ext.alloc ?_ _ | (refine Ext.setCell ?_ ?sz _; case sz => (first | (simp; done) | (simp; omega))) | refine Ext.trans ?_ (by assumption)))) (by omega) q.lo q.hi).mono ?_
        rintro e w3 ⟨rfl, hE3⟩
        go_wp2_with fail
        go_ret
        exact ⟨ret_int H.out.symm, (by repeat (with_reducible first | assumption | exact Ext.refl _ | refine Ext.drew ?_ | refine Ext.drewN ?_ _ | refine Ext.alloc ?_ _ | (refine Ext.setCell ?_ ?sz _; case sz => (first | (simp; done) | (simp; omega))) | refine Ext.trans ?_ (by assumption)))⟩

theorem kv_row {w : World} {t : TypeId} {g n : Nat} {x : List Int} (h : T4 n x) (hg : g = w.heap.size) :
    Ints (w.alloc (.cells #[.int .i64 (nth x 0), .int .i64 (nth x 1), .int .i64 (nth x 2), .int .i64 (nth x 3)] t)) (some ⟨g, 0, none⟩) x := by
  subst hg
  intro i hi
  refine ⟨_, _, rfl, ?_⟩
  have := h.len; have := h.n4
  match i, (show i < 4 by omega) with
  | 0, _ => simp [go_sem]
  | 1, _ => simp [go_sem]
  | 2, _ => simp [go_sem]
  | 3, _ => simp [go_sem]

set_option maxHeartbeats 1000000 in
theorem measure_any (d : Dent) (a : Option Addr) (cap : Nat) (x : List Int) (hx : T4 d.rs.length x) (w : World) :
    Calls Try.prog 100 #[(.agg #[.int .i64 d.L, .int .i64 d.R, .slice a d.rs.length cap]), kv x] w fun e w' => ∃ b c, e = .returned (.agg #[.int .i64 d.L, .int .i64 d.R, .slice (some ⟨b, 0, none⟩) x.length c]) ∧ Ints w' (some ⟨b, 0, none⟩) x ∧ Ext w w' := by
  have hB := (Ext.refl w).alloc (.cells #[.int .i64 d.L, .int .i64 d.R, .slice a d.rs.length cap] 50)
  have hn := hx.n4
  have hL := hid hx.len
  have hR := hid (fun (W : World) (t : TypeId) (g : Nat) (hg : g = W.heap.size) => kv_row (t := t) hx hg)
  unfold kv
  generalize nth x 0 = x0 at *
  generalize nth x 1 = x1 at *
  generalize nth x 2 = x2 at *
  generalize nth x 3 = x3 at *
  obtain ⟨w0, hw0⟩ : ∃ w0, w0 = ((w.alloc (.cells #[.int .i64 d.L, .int .i64 d.R, .slice a d.rs.length cap] 50)).alloc (.cells #[.int .i64 x0, .int .i64 x1, .int .i64 x2, .int .i64 x3] 115)).alloc (.cells #[.int .i64 0, .int .i64 0, .slice none 0 0] 24) := ⟨_, rfl⟩
  have c0 : w0.cell? ⟨w.heap.size, 0, none⟩ = some (.int .i64 d.L) := by rw [hw0]; simp [go_sem]
  have c1 : w0.cell? ⟨w.heap.size, 1, none⟩ = some (.int .i64 d.R) := by rw [hw0]; simp [go_sem]
  have c2 : w0.cell? ⟨w.heap.size, 2, none⟩ = some (.slice a d.rs.length cap) := by rw [hw0]; simp [go_sem]
  have r0 : w0.cell? ⟨w.heap.size + 1 + 1, 0, none⟩ = some (.int .i64 0) := by rw [hw0]; simp [go_sem]
  have r1 : w0.cell? ⟨w.heap.size + 1 + 1, 1, none⟩ = some (.int .i64 0) := by rw [hw0]; simp [go_sem]
  have r2 : w0.cell? ⟨w.heap.size + 1 + 1, 2, none⟩ = some (.slice none 0 0) := by rw [hw0]; simp [go_sem]
  have f0 : w0.frozen? ⟨w.heap.size + 1 + 1, 0, none⟩ = false := by rw [hw0]; simp [go_sem]
  have f1 : w0.frozen? ⟨w.heap.size + 1 + 1, 1, none⟩ = false := by rw [hw0]; simp [go_sem]
  have f2 : w0.frozen? ⟨w.heap.size + 1 + 1, 2, none⟩ = false := by rw [hw0]; simp [go_sem]
  have hI : Ints w0 (some ⟨w.heap.size + 1, 0, none⟩) x := by rw [hw0]; exact (hR.out (w.alloc (.cells #[.int .i64 d.L, .int .i64 d.R, .slice a d.rs.length cap] 50)) 115 _ (by simp)).ext (by repeat (with_reducible first | assumption | exact Ext.refl _ | refine Ext.drew ?_ | refine Ext.drewN ?_ _ | refine Ext.alloc ?_ _ | (refine Ext.setCell ?_ ?sz _; case sz => (first | (simp; done) | (simp; omega))) | refine Ext.trans ?_ (by assumption)))
  have hE : Ext w w0 := by rw [hw0]; exact (by repeat (with_reducible first | assumption | exact Ext.refl _ | refine Ext.drew ?_ | refine Ext.drewN ?_ _ | refine Ext.alloc ?_ _ | (refine Ext.setCell ?_ ?sz _; case sz => (first | (simp; done) | (simp; omega))) | refine Ext.trans ?_ (by assumption)))
  replace hI := hid hI
  replace hE := hid hE
  have n0 : (0 : Int) ≤ (d.rs.length : Int) := by omega
  have n4 : (d.rs.length : Int) ≤ 4 := by omega
  go_enter Try.func100, Try.ntmps100
  go_wp2_with fail
  rw [← hw0]
  clear hw0
  go_still_tail 10, (by kernel_rfl)
  change wpList _ _ _ _ _ w0.drew
  go_wp2_with fail
  refine bodyPost_ret (v := .agg #[.int .i64 d.L, .int .i64 d.R, .slice (some ⟨w.heap.size + 1, 0, none⟩) d.rs.length 4]) ?_ rfl ?_
  · simp [results, Try.results100, go_sem, *]
  · rw [← hL.out]
    refine ⟨_, 4, rfl, ?_, ?_⟩
    · exact (((hI.out.drew.put (by simp) _).put (by simp) _).put (by simp) _)
    · have hE := hE.out
      exact (by repeat (with_reducible first | assumption | exact Ext.refl _ | refine Ext.drew ?_ | refine Ext.drewN ?_ _ | refine Ext.alloc ?_ _ | (refine Ext.setCell ?_ ?sz _; case sz => (first | (simp; done) | (simp; omega))) | refine Ext.trans ?_ (by assumption)))

theorem has_any (x y n : Int) (w : World) :
    Calls Try.prog 90 #[.agg #[.int .i64 x, .int .i64 y], .int .i64 n] w fun e w' => e = .returned (.bool (decide (x ≤ n ∧ n ≤ y))) ∧ Ext w w' := by
  by_cases g1 : x ≤ n
  all_goals by_cases g2 : n ≤ y
  all_goals
    go_enter Try.func90, Try.ntmps90
    go_wp2_with fail
    go_ret
    exact ⟨ret_bool (by simp [*]), (by repeat (with_reducible first | assumption | exact Ext.refl _ | refine Ext.drew ?_ | refine Ext.drewN ?_ _ | refine Ext.alloc ?_ _ | (refine Ext.setCell ?_ ?sz _; case sz => (first | (simp; done) | (simp; omega))) | refine Ext.trans ?_ (by assumption)))⟩

theorem wrongF_any (x y n : Int) (p : Addr) (w : World) (hc : w.cell? p = some (.func (.func 90) #[.agg #[.int .i64 x, .int .i64 y]] #[])) :
    Calls Try.prog 95 #[.int .i64 n, .pointer (some p)] w fun e w' => e = .returned (.bool (!decide (x ≤ n ∧ n ≤ y))) ∧ Ext w w' := by
  go_enter Try.func95, Try.ntmps95
  go_wp2_with fail
  refine (has_any x y n _).mono ?_
  rintro e w1 ⟨rfl, hE⟩
  go_wp2_with fail
  go_ret
  exact ⟨ret_bool (by simp), (by repeat (with_reducible first | assumption | exact Ext.refl _ | refine Ext.drew ?_ | refine Ext.drewN ?_ _ | refine Ext.alloc ?_ _ | (refine Ext.setCell ?_ ?sz _; case sz => (first | (simp; done) | (simp; omega))) | refine Ext.trans ?_ (by assumption)))⟩

end Go.Proofs.Ytogglbhidlnijaa
