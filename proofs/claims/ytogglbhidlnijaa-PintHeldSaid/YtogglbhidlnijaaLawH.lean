/- The law PintSealed, walked. -/
import Derived.Test.YtogglbhidlnijaaLawB
import Derived.IntWalk
import Derived.Deep.RegionHeld3
import Derived.Test.YtogglbhidlnijaaLawE
import Derived.Test.YtogglbhidlnijaaLawS
import Derived.Test.YtogglbhidlnijaaLawT
import Derived.Test.YtogglbhidlnijaaPlainI
namespace Go.Proofs.Ytogglbhidlnijaa
set_option linter.unusedVariables false
set_option linter.unusedSimpArgs false
set_option linter.unusedSectionVars false
set_option linter.unnecessarySimpa false
open Go Go.RowKit
set_option maxRecDepth 100000

theorem sound_yes (d : Dent) (v : VldD d) (q : FitD d) (a : Option Addr) (cap : Nat) (w : World) (hI : Prs w a d.rs) : Calls Try.prog 61 #[(.agg #[.int .i64 d.L, .int .i64 d.R, .slice a d.rs.length cap])] w fun e w' => e = .returned (.bool true) ∧ Ext w w' := by
  have hB := (Ext.refl w).alloc (.cells #[.int .i64 d.L, .int .i64 d.R, .slice a d.rs.length cap] 50)
  have n4 := v.n4
  have hd : decide (10 < d.rs.length) = false := by simp; omega
  go_enter Try.func61, Try.ntmps61
  go_wp2_with fail
  refine (wide_any d a cap _ (by omega)).mono ?_; rintro e w1 ⟨rfl, hE⟩
  obtain ⟨c0, c1, c2⟩ := box3 hE
  rw [hd]
  go_wp2_with fail
  refine (checkDentedR_any d q a cap _ (hI.ext (by repeat (with_reducible first | assumption | exact Ext.refl _ | refine Ext.drew ?_ | refine Ext.drewN ?_ _ | refine Ext.alloc ?_ _ | (refine Ext.setCell ?_ ?sz _; case sz => (first | (simp; done) | (simp; omega))) | refine Ext.trans ?_ (by assumption)))) (by omega)).mono ?_; rintro e w2 ⟨rfl, hE2⟩
  rw [chkD_ok.2 v]
  go_wp2_with fail
  go_ret
  exact ⟨ret_bool (by simp), (by repeat (with_reducible first | assumption | exact Ext.refl _ | refine Ext.drew ?_ | refine Ext.drewN ?_ _ | refine Ext.alloc ?_ _ | (refine Ext.setCell ?_ ?sz _; case sz => (first | (simp; done) | (simp; omega))) | refine Ext.trans ?_ (by assumption)))⟩
theorem sound_no (d : Dent) (q : FitD d) (v : ¬ VldD d) (a : Option Addr) (cap : Nat) (w : World) (hI : Prs w a d.rs) (hl : d.rs.length ≤ 9223372036854775807) : Calls Try.prog 61 #[(.agg #[.int .i64 d.L, .int .i64 d.R, .slice a d.rs.length cap])] w fun e w' => e = .returned (.bool false) ∧ Ext w w' := by
  have hB := (Ext.refl w).alloc (.cells #[.int .i64 d.L, .int .i64 d.R, .slice a d.rs.length cap] 50)
  by_cases g : 10 < d.rs.length
  · have hd : decide (10 < d.rs.length) = true := by simpa using g
    go_enter Try.func61, Try.ntmps61
    go_wp2_with fail
    refine (wide_any d a cap _ (by omega)).mono ?_; rintro e w1 ⟨rfl, hE⟩
    rw [hd]
    go_wp2_with fail
    go_ret
    exact ⟨ret_bool (by simp), (by repeat (with_reducible first | assumption | exact Ext.refl _ | refine Ext.drew ?_ | refine Ext.drewN ?_ _ | refine Ext.alloc ?_ _ | (refine Ext.setCell ?_ ?sz _; case sz => (first | (simp; done) | (simp; omega))) | refine Ext.trans ?_ (by assumption)))⟩
  · have hd : decide (10 < d.rs.length) = false := by simpa using g
    go_enter Try.func61, Try.ntmps61
    go_wp2_with fail
    refine (wide_any d a cap _ (by omega)).mono ?_; rintro e w1 ⟨rfl, hE⟩
    obtain ⟨c0, c1, c2⟩ := box3 hE
    rw [hd]
    go_wp2_with fail
    refine (checkDentedR_any d q a cap _ (hI.ext (by repeat (with_reducible first | assumption | exact Ext.refl _ | refine Ext.drew ?_ | refine Ext.drewN ?_ _ | refine Ext.alloc ?_ _ | (refine Ext.setCell ?_ ?sz _; case sz => (first | (simp; done) | (simp; omega))) | refine Ext.trans ?_ (by assumption)))) (by omega)).mono ?_; rintro e w2 ⟨rfl, hE2⟩
    have hc : chkD d ≠ 0 := fun h => v (chkD_ok.1 h)
    go_wp2_with fail
    go_ret
    exact ⟨ret_bool (by simp [hc]), (by repeat (with_reducible first | assumption | exact Ext.refl _ | refine Ext.drew ?_ | refine Ext.drewN ?_ _ | refine Ext.alloc ?_ _ | (refine Ext.setCell ?_ ?sz _; case sz => (first | (simp; done) | (simp; omega))) | refine Ext.trans ?_ (by assumption)))⟩

theorem holdsP_any (d : Dent) (b : List Int) (v : Vld (meas d b)) (a : Option Addr) (n cap : Nat) (hn : n = b.length) (t : Int) (h0 : -20 ≤ t) (h1 : t ≤ 20) (w : World) (hI : Ints w a b) :
    Calls Try.prog 21 #[.agg #[.int .i64 d.L, .int .i64 d.R, .slice a n cap], .int .i64 t] w fun e w' => e = .returned (.tuple #[.int .i64 (holds (meas d b) t), .int .i64 0]) ∧ Ext w w' := by
  subst hn
  have h := holds_any (meas d b) v.fit a cap t w hI (by have := v.n8; omega) ⟨by omega, by omega⟩
  have k : Tl (meas d b) t := ⟨v, h0, h1⟩
  rw [show holdsOf (meas d b) t = holds (meas d b) t by unfold holdsOf; rw [if_pos (tlt_ok.2 k)], tlt_ok.2 k] at h
  exact h
/-- A truth that has been returned. -/
structure Tru (d : Dent) (b : List Int) (a : Option Addr) (n : Nat) (w : World) : Prop where
  n : n = b.length
  t : IsT d.rs b
  i : Ints w a b
theorem Tru.ext {d : Dent} {b : List Int} {a : Option Addr} {n : Nat} {w w' : World} (h : Tru d b a n w) (k : Ext w w') : Tru d b a n w' := ⟨h.n, h.t, h.i.ext k⟩
theorem bottomN_any (d : Dent) (v : VldD d) (a : Option Addr) (cap : Nat) (l : List Int) (a2 : Option Addr) (c2 : Nat) (w : World) (hI : Prs w a d.rs) (hB : Byts w a2 l) (hl : l.length ≤ 1000) (hb : ∀ i, 0 ≤ nth l i ∧ nth l i ≤ 255) :
    Calls Try.prog 62 #[(.agg #[.int .i64 d.L, .int .i64 d.R, .slice a d.rs.length cap]), .slice a2 l.length c2] w fun e w' => ∃ b a1 n c1, e = .returned (.slice a1 n c1) ∧ Hid (Tru d b a1 n w') ∧ Ext w w' :=
  (bottom_any d v a cap l a2 c2 w hI hB hl hb).mono fun e w' ⟨a1, c1, h1, h2, h3⟩ => ⟨_, a1, _, c1, h1, hid ⟨rfl, btms_isT v l, h2⟩, h3⟩


set_option maxHeartbeats 8000000 in
theorem pintSealed_any (d : Dent) (q : FitD d) (a : Option Addr) (cap : Nat) (tn : Int) (l : List Int) (a2 : Option Addr) (c2 : Nat) (x y wi : Int) (w : World) (hI : Prs w a d.rs) (hl : d.rs.length ≤ 9223372036854775807) (ht : -128 ≤ tn ∧ tn ≤ 127)
    (hY : Byts w a2 l) (hll : l.length ≤ 9223372036854775807) (hb : ∀ i, 0 ≤ nth l i ∧ nth l i ≤ 255) (hx : I64 x) (hy : I64 y) (hwi : 0 ≤ wi ∧ wi ≤ 255) :
    Calls Try.prog 14 #[(.agg #[.int .i64 d.L, .int .i64 d.R, .slice a d.rs.length cap]), .int .i8 tn, .slice a2 l.length c2, .agg #[.int .i64 x, .int .i64 y], .int .u8 wi] w fun e w' => e = .returned (.bool true) ∧ Ext w w' := by
  have hB : Ext w ((w.alloc (.cells #[.int .i64 d.L, .int .i64 d.R, .slice a d.rs.length cap] 50)).alloc (.cells #[.int .i64 x, .int .i64 y] 52)) := (by repeat (with_reducible first | assumption | exact Ext.refl _ | refine Ext.drew ?_ | refine Ext.drewN ?_ _ | refine Ext.alloc ?_ _ | (refine Ext.setCell ?_ ?sz _; case sz => (first | (simp; done) | (simp; omega))) | refine Ext.trans ?_ (by assumption)))
  have hb := hid hb
  by_cases v : VldD d
  case neg =>
    go_enter Try.func14, Try.ntmps14
    go_wp2_with fail
    refine (sound_no d q v a cap _ (hI.ext (by repeat (with_reducible first | assumption | exact Ext.refl _ | refine Ext.drew ?_ | refine Ext.drewN ?_ _ | refine Ext.alloc ?_ _ | (refine Ext.setCell ?_ ?sz _; case sz => (first | (simp; done) | (simp; omega))) | refine Ext.trans ?_ (by assumption)))) hl).mono ?_; rintro e w1 ⟨rfl, hE⟩
    go_wp2_with fail
    refine (works_any _).mono ?_; rintro e w2 ⟨rfl, hE2⟩
    go_wp2_with fail
    go_ret
    exact ⟨rfl, (by repeat (with_reducible first | assumption | exact Ext.refl _ | refine Ext.drew ?_ | refine Ext.drewN ?_ _ | refine Ext.alloc ?_ _ | (refine Ext.setCell ?_ ?sz _; case sz => (first | (simp; done) | (simp; omega))) | refine Ext.trans ?_ (by assumption)))⟩
  case pos =>
    by_cases g1 : 20 < l.length
    case pos =>
      go_enter Try.func14, Try.ntmps14
      go_wp2_with fail
      refine (sound_yes d v q a cap _ (hI.ext (by repeat (with_reducible first | assumption | exact Ext.refl _ | refine Ext.drew ?_ | refine Ext.drewN ?_ _ | refine Ext.alloc ?_ _ | (refine Ext.setCell ?_ ?sz _; case sz => (first | (simp; done) | (simp; omega))) | refine Ext.trans ?_ (by assumption))))).mono ?_; rintro e w1 ⟨rfl, hE⟩
      go_wp2_with fail
      refine (works_any _).mono ?_; rintro e w2 ⟨rfl, hE2⟩
      go_wp2_with fail
      go_ret
      exact ⟨rfl, (by repeat (with_reducible first | assumption | exact Ext.refl _ | refine Ext.drew ?_ | refine Ext.drewN ?_ _ | refine Ext.alloc ?_ _ | (refine Ext.setCell ?_ ?sz _; case sz => (first | (simp; done) | (simp; omega))) | refine Ext.trans ?_ (by assumption)))⟩
    case neg =>
      go_enter Try.func14, Try.ntmps14
      go_wp2_with fail
      refine (sound_yes d v q a cap _ (hI.ext (by repeat (with_reducible first | assumption | exact Ext.refl _ | refine Ext.drew ?_ | refine Ext.drewN ?_ _ | refine Ext.alloc ?_ _ | (refine Ext.setCell ?_ ?sz _; case sz => (first | (simp; done) | (simp; omega))) | refine Ext.trans ?_ (by assumption))))).mono ?_; rintro e w1 ⟨rfl, hE⟩
      have X : Hid (Ext w w1) := hid (by repeat (with_reducible first | assumption | exact Ext.refl _ | refine Ext.drew ?_ | refine Ext.drewN ?_ _ | refine Ext.alloc ?_ _ | (refine Ext.setCell ?_ ?sz _; case sz => (first | (simp; done) | (simp; omega))) | refine Ext.trans ?_ (by assumption)))
      have S : DS w.heap.size (w.heap.size + 1) d a cap x y w1 := ⟨hE.cell (by simp [go_sem]), hE.cell (by simp [go_sem]), hE.cell (by simp [go_sem]), hE.cell (by simp [go_sem]), hE.cell (by simp [go_sem]), hI.ext (by repeat (with_reducible first | assumption | exact Ext.refl _ | refine Ext.drew ?_ | refine Ext.drewN ?_ _ | refine Ext.alloc ?_ _ | (refine Ext.setCell ?_ ?sz _; case sz => (first | (simp; done) | (simp; omega))) | refine Ext.trans ?_ (by assumption)))⟩
      have hY := hid (hY.ext X.out)
      generalize w.heap.size + 1 = C at *
      generalize w.heap.size = B at *
      replace S := hid S
      clear hE hB hI
      have m0 := S.out.m0; have m1 := S.out.m1; have m2 := S.out.m2; have x0 := S.out.x0; have x1 := S.out.x1
      have bad : (x < -10000 ∨ y < x ∨ 10000 < y) ∨ (-10000 ≤ x ∧ x ≤ y ∧ y ≤ 10000) := by omega
      rcases bad with bad | ⟨k1, k2, k3⟩
      · rcases bad with b1 | b1 | b1
        · go_wp2_with fail
          refine (works_any _).mono ?_; rintro e w2 ⟨rfl, hE2⟩
          go_wp2_with fail
          go_ret
          exact ⟨rfl, X.out.trans (by repeat (with_reducible first | assumption | exact Ext.refl _ | refine Ext.drew ?_ | refine Ext.drewN ?_ _ | refine Ext.alloc ?_ _ | (refine Ext.setCell ?_ ?sz _; case sz => (first | (simp; done) | (simp; omega))) | refine Ext.trans ?_ (by assumption)))⟩
        · by_cases b2 : x < -10000
          all_goals
            go_wp2_with fail
            refine (works_any _).mono ?_; rintro e w2 ⟨rfl, hE2⟩
            go_wp2_with fail
            go_ret
            exact ⟨rfl, X.out.trans (by repeat (with_reducible first | assumption | exact Ext.refl _ | refine Ext.drew ?_ | refine Ext.drewN ?_ _ | refine Ext.alloc ?_ _ | (refine Ext.setCell ?_ ?sz _; case sz => (first | (simp; done) | (simp; omega))) | refine Ext.trans ?_ (by assumption)))⟩
        · by_cases b2 : x < -10000
          · go_wp2_with fail
            refine (works_any _).mono ?_; rintro e w2 ⟨rfl, hE2⟩
            go_wp2_with fail
            go_ret
            exact ⟨rfl, X.out.trans (by repeat (with_reducible first | assumption | exact Ext.refl _ | refine Ext.drew ?_ | refine Ext.drewN ?_ _ | refine Ext.alloc ?_ _ | (refine Ext.setCell ?_ ?sz _; case sz => (first | (simp; done) | (simp; omega))) | refine Ext.trans ?_ (by assumption)))⟩
          · by_cases b3 : y < x
            · go_wp2_with fail
              refine (works_any _).mono ?_; rintro e w2 ⟨rfl, hE2⟩
              go_wp2_with fail
              go_ret
              exact ⟨rfl, X.out.trans (by repeat (with_reducible first | assumption | exact Ext.refl _ | refine Ext.drew ?_ | refine Ext.drewN ?_ _ | refine Ext.alloc ?_ _ | (refine Ext.setCell ?_ ?sz _; case sz => (first | (simp; done) | (simp; omega))) | refine Ext.trans ?_ (by assumption)))⟩
            · go_wp2_with fail
              refine (works_any _).mono ?_; rintro e w2 ⟨rfl, hE2⟩
              go_wp2_with fail
              go_ret
              exact ⟨rfl, X.out.trans (by repeat (with_reducible first | assumption | exact Ext.refl _ | refine Ext.drew ?_ | refine Ext.drewN ?_ _ | refine Ext.alloc ?_ _ | (refine Ext.setCell ?_ ?sz _; case sz => (first | (simp; done) | (simp; omega))) | refine Ext.trans ?_ (by assumption)))⟩
      · have n1 := v.n1
        have n4 := v.n4
        have hl' : d.rs.length ≤ 1000 := by omega
        go_wp2_with fail
        refine (tilted_any tn ht _).mono ?_; rintro e w2 ⟨rfl, hE⟩
        obtain ⟨t0, t1⟩ := tiltOf_bd tn
        generalize tiltOf tn = t at *
        have tI : I64 t := ⟨by omega, by omega⟩
        have hT : Dl d t := ⟨v, t0, t1⟩
        replace hY := hid (hY.out.ext (show Ext w1 w2 from (by repeat (with_reducible first | assumption | exact Ext.refl _ | refine Ext.drew ?_ | refine Ext.drewN ?_ _ | refine Ext.alloc ?_ _ | (refine Ext.setCell ?_ ?sz _; case sz => (first | (simp; done) | (simp; omega))) | refine Ext.trans ?_ (by assumption)))))
        (have x : Ext w1 w2 := (by repeat (with_reducible first | assumption | exact Ext.refl _ | refine Ext.drew ?_ | refine Ext.drewN ?_ _ | refine Ext.alloc ?_ _ | (refine Ext.setCell ?_ ?sz _; case sz => (first | (simp; done) | (simp; omega))) | refine Ext.trans ?_ (by assumption))); replace S := hid (S.out.ext x); replace X := hid (X.out.trans x); clear x hE m0 m1 m2 x0 x1; have m0 := S.out.m0; have m1 := S.out.m1; have m2 := S.out.m2; have x0 := S.out.x0; have x1 := S.out.x1; have bB := cell_lt m0; have bC := cell_lt x0; simp only at bB bC)
        go_wp2_with fail
        try simp only [List.append_eq, List.cons_append, List.nil_append]
        go_region_held3 (fun w' => w'.cell? ⟨B, 0, none⟩ = some (.int .i64 d.L) ∧ w'.cell? ⟨B, 1, none⟩ = some (.int .i64 d.R) ∧ w'.cell? ⟨B, 2, none⟩ = some (.slice a d.rs.length cap) ∧ w'.cell? ⟨C, 0, none⟩ = some (.int .i64 x) ∧ w'.cell? ⟨C, 1, none⟩ = some (.int .i64 y) ∧ Ext w2 w') (((try go_split_ands); (repeat' apply And.intro) <;> (first | (with_reducible assumption) | exact Ext.cell (w := w2) (by repeat (with_reducible first | assumption | exact Ext.refl _ | refine Ext.drew ?_ | refine Ext.drewN ?_ _ | refine Ext.alloc ?_ _ | (refine Ext.setCell ?_ ?sz _; case sz => (first | (simp; done) | (simp; omega))) | refine Ext.trans ?_ (by assumption))) (by assumption) | exact (by repeat (with_reducible first | assumption | exact Ext.refl _ | refine Ext.drew ?_ | refine Ext.drewN ?_ _ | refine Ext.alloc ?_ _ | (refine Ext.setCell ?_ ?sz _; case sz => (first | (simp; done) | (simp; omega))) | refine Ext.trans ?_ (by assumption)))))) (first | (go_at_call 62; refine (bottomN_any d v a cap l a2 c2 _ (S.out.i.ext (by repeat (with_reducible first | assumption | exact Ext.refl _ | refine Ext.drew ?_ | refine Ext.drewN ?_ _ | refine Ext.alloc ?_ _ | (refine Ext.setCell ?_ ?sz _; case sz => (first | (simp; done) | (simp; omega))) | refine Ext.trans ?_ (by assumption)))) (hY.out.ext (by repeat (with_reducible first | assumption | exact Ext.refl _ | refine Ext.drew ?_ | refine Ext.drewN ?_ _ | refine Ext.alloc ?_ _ | (refine Ext.setCell ?_ ?sz _; case sz => (first | (simp; done) | (simp; omega))) | refine Ext.trans ?_ (by assumption)))) (by omega) hb.out).mono ?_; rintro e wb ⟨bt, a1, nb, c1, rfl, hTb, hEb⟩) | (go_at_call 53; refine (measureR_any d a a1 cap _ c1 _).mono ?_; rintro e wm ⟨rfl, hEm⟩) | (go_at_call 21; refine (holdsP_any d bt (meas_vld v hTb.out.t) a1 nb c1 hTb.out.n t t0 t1 _ (hTb.out.i.ext (by repeat (with_reducible first | assumption | exact Ext.refl _ | refine Ext.drew ?_ | refine Ext.drewN ?_ _ | refine Ext.alloc ?_ _ | (refine Ext.setCell ?_ ?sz _; case sz => (first | (simp; done) | (simp; omega))) | refine Ext.trans ?_ (by assumption))))).mono ?_; rintro e w3 ⟨rfl, hE3⟩))
        have hE : Ext w2 w3 := (by repeat (with_reducible first | assumption | exact Ext.refl _ | refine Ext.drew ?_ | refine Ext.drewN ?_ _ | refine Ext.alloc ?_ _ | (refine Ext.setCell ?_ ?sz _; case sz => (first | (simp; done) | (simp; omega))) | refine Ext.trans ?_ (by assumption)))
        clear hEb hEm hE3
        have q0 : 0 ≤ wi.tdiv 2 ∧ wi.tdiv 2 ≤ 127 := by rw [Int.tdiv_eq_ediv_of_nonneg hwi.1]; omega
        obtain ⟨q2, eq2⟩ : ∃ q2, wi.tdiv 2 = q2 := ⟨_, rfl⟩
        rw [eq2] at q0
        have HF := hid (seal_facts (x' := x - wi) (y' := y + q2) hT k2 (by omega) (by omega) hTb.out.t)
        have hxw : I64 (x - wi) := ⟨by omega, by omega⟩
        have hyw : I64 (y + q2) := ⟨by omega, by omega⟩
        have HS := hid (seal_cases d t x y)
        have HS2 := hid (seal_cases d t (x - wi) (y + q2))
        have C1 := fun W hW => seal_any d q a cap t x y W hW hl' tI hx hy
        have C2 := fun W hW => seal_any d q a cap t (x - wi) (y + q2) W hW hl' tI hxw hyw
        have C3 := fun W hW => right_any d q a cap t x y W hW hl' tI hx hy
        have C4 := fun W hW => wrong_any d q a cap t x y W hW hl' tI hx hy
        simp only [HF.out.1] at C1
        simp only [HF.out.2.1] at C2
        replace HF := hid HF.out.2.2
        clear hTb
        generalize holds (meas d bt) t = hn at *
        generalize sealOf d t x y = s1 at *
        generalize sealOf d t (x - wi) (y + q2) = s2 at *
        generalize hr1 : rightE d t x y = r1 at *
        generalize hr2 : wrongE d t x y = r2 at *
        clear hr1 hr2
        replace C1 := hid C1
        replace C2 := hid C2
        replace C3 := hid C3
        replace C4 := hid C4
        have hl10 : d.rs.length ≤ 10 := by omega
        clear bB bC
        (have x : Ext w2 w3 := (by repeat (with_reducible first | assumption | exact Ext.refl _ | refine Ext.drew ?_ | refine Ext.drewN ?_ _ | refine Ext.alloc ?_ _ | (refine Ext.setCell ?_ ?sz _; case sz => (first | (simp; done) | (simp; omega))) | refine Ext.trans ?_ (by assumption))); replace S := hid (S.out.ext x); replace X := hid (X.out.trans x); clear x hE m0 m1 m2 x0 x1; have m0 := S.out.m0; have m1 := S.out.m1; have m2 := S.out.m2; have x0 := S.out.x0; have x1 := S.out.x1; have bB := cell_lt m0; have bC := cell_lt x0; simp only at bB bC)
        go_wp2_with fail
        refine (C1.out _ S.out.i).mono ?_; rintro e w4 ⟨rfl, hE⟩
        clear bB bC
        (have x : Ext w3 w4 := (by repeat (with_reducible first | assumption | exact Ext.refl _ | refine Ext.drew ?_ | refine Ext.drewN ?_ _ | refine Ext.alloc ?_ _ | (refine Ext.setCell ?_ ?sz _; case sz => (first | (simp; done) | (simp; omega))) | refine Ext.trans ?_ (by assumption))); replace S := hid (S.out.ext x); replace X := hid (X.out.trans x); clear x hE m0 m1 m2 x0 x1; have m0 := S.out.m0; have m1 := S.out.m1; have m2 := S.out.m2; have x0 := S.out.x0; have x1 := S.out.x1; have bB := cell_lt m0; have bC := cell_lt x0; simp only at bB bC)
        go_wp2_with fail
        have z0 := Go.IntWalk.i64_in wi (by omega)
        have z3 := Go.IntWalk.i64_in q2 (by omega)
        have z1 := Go.IntWalk.i64_in (x - wi) (by unfold I64 at hxw; omega)
        have z2 := Go.IntWalk.i64_in (y + q2) (by unfold I64 at hyw; omega)
        try simp only [List.append_eq, List.cons_append, List.nil_append]
        go_region_held3 (fun w' => w'.cell? ⟨B, 0, none⟩ = some (.int .i64 d.L) ∧ w'.cell? ⟨B, 1, none⟩ = some (.int .i64 d.R) ∧ w'.cell? ⟨B, 2, none⟩ = some (.slice a d.rs.length cap) ∧ w'.cell? ⟨C, 0, none⟩ = some (.int .i64 x) ∧ w'.cell? ⟨C, 1, none⟩ = some (.int .i64 y) ∧ Ext w4 w') (((try go_split_ands); (repeat' apply And.intro) <;> (first | (with_reducible assumption) | exact Ext.cell (w := w4) (by repeat (with_reducible first | assumption | exact Ext.refl _ | refine Ext.drew ?_ | refine Ext.drewN ?_ _ | refine Ext.alloc ?_ _ | (refine Ext.setCell ?_ ?sz _; case sz => (first | (simp; done) | (simp; omega))) | refine Ext.trans ?_ (by assumption))) (by assumption) | exact (by repeat (with_reducible first | assumption | exact Ext.refl _ | refine Ext.drew ?_ | refine Ext.drewN ?_ _ | refine Ext.alloc ?_ _ | (refine Ext.setCell ?_ ?sz _; case sz => (first | (simp; done) | (simp; omega))) | refine Ext.trans ?_ (by assumption)))))) (first | (go_at_call 63; refine (to_any (x - wi) (y + q2) _).mono ?_; rintro e wt ⟨rfl, hEt⟩) | (go_at_call 42; refine (C2.out _ (S.out.i.ext (by repeat (with_reducible first | assumption | exact Ext.refl _ | refine Ext.drew ?_ | refine Ext.drewN ?_ _ | refine Ext.alloc ?_ _ | (refine Ext.setCell ?_ ?sz _; case sz => (first | (simp; done) | (simp; omega))) | refine Ext.trans ?_ (by assumption))))).mono ?_; rintro e w5 ⟨rfl, hE5⟩))
        have hE : Ext w4 w5 := (by repeat (with_reducible first | assumption | exact Ext.refl _ | refine Ext.drew ?_ | refine Ext.drewN ?_ _ | refine Ext.alloc ?_ _ | (refine Ext.setCell ?_ ?sz _; case sz => (first | (simp; done) | (simp; omega))) | refine Ext.trans ?_ (by assumption)))
        clear hEt hE5 bB bC
        (have x : Ext w4 w5 := (by repeat (with_reducible first | assumption | exact Ext.refl _ | refine Ext.drew ?_ | refine Ext.drewN ?_ _ | refine Ext.alloc ?_ _ | (refine Ext.setCell ?_ ?sz _; case sz => (first | (simp; done) | (simp; omega))) | refine Ext.trans ?_ (by assumption))); replace S := hid (S.out.ext x); replace X := hid (X.out.trans x); clear x hE m0 m1 m2 x0 x1; have m0 := S.out.m0; have m1 := S.out.m1; have m2 := S.out.m2; have x0 := S.out.x0; have x1 := S.out.x1; have bB := cell_lt m0; have bC := cell_lt x0; simp only at bB bC)
        go_wp2_with fail
        refine (C3.out _ S.out.i).mono ?_; rintro e w6 hr
        obtain ⟨a5, n5, cp5, rfl, hE, _, _⟩ := truth_q hr hl10
        clear hr bB bC
        (have x : Ext w5 w6 := (by repeat (with_reducible first | assumption | exact Ext.refl _ | refine Ext.drew ?_ | refine Ext.drewN ?_ _ | refine Ext.alloc ?_ _ | (refine Ext.setCell ?_ ?sz _; case sz => (first | (simp; done) | (simp; omega))) | refine Ext.trans ?_ (by assumption))); replace S := hid (S.out.ext x); replace X := hid (X.out.trans x); clear x hE m0 m1 m2 x0 x1; have m0 := S.out.m0; have m1 := S.out.m1; have m2 := S.out.m2; have x0 := S.out.x0; have x1 := S.out.x1; have bB := cell_lt m0; have bC := cell_lt x0; simp only at bB bC)
        go_wp2_with fail
        refine (C4.out _ S.out.i).mono ?_; rintro e w7 hr
        obtain ⟨a6, n6, cp6, rfl, hE, _, _⟩ := truth_q hr hl10
        clear hr bB bC
        (have x : Ext w6 w7 := (by repeat (with_reducible first | assumption | exact Ext.refl _ | refine Ext.drew ?_ | refine Ext.drewN ?_ _ | refine Ext.alloc ?_ _ | (refine Ext.setCell ?_ ?sz _; case sz => (first | (simp; done) | (simp; omega))) | refine Ext.trans ?_ (by assumption))); replace S := hid (S.out.ext x); replace X := hid (X.out.trans x); clear x hE m0 m1 m2 x0 x1; have m0 := S.out.m0; have m1 := S.out.m1; have m2 := S.out.m2; have x0 := S.out.x0; have x1 := S.out.x1; have bB := cell_lt m0; have bC := cell_lt x0; simp only at bB bC)
        have hin := in_any x y hn
        obtain ⟨f1, f2, f3, f4⟩ := HF.out
        clear HF C1 C2 C3 C4
        have HS2 := HS2.out
        rcases HS.out with e1 | e1 | e1
        · subst e1
          obtain ⟨g1', rfl, rfl⟩ := f3 rfl
          clear f2 f3 f4
          have hdn : decide (x ≤ hn ∧ hn ≤ y) = false := by simpa using g1'
          clear g1'
          go_wp2_with fail
          refine (in_any x y hn _).mono ?_; rintro e w8 ⟨rfl, hE⟩
          rw [hdn]
          go_wp2_with fail
          refine (works_any _).mono ?_; rintro e w9 ⟨rfl, hE2⟩
          go_wp2_with fail
          go_ret
          exact ⟨ret_bool (by simp), X.out.trans (by repeat (with_reducible first | assumption | exact Ext.refl _ | refine Ext.drew ?_ | refine Ext.drewN ?_ _ | refine Ext.alloc ?_ _ | (refine Ext.setCell ?_ ?sz _; case sz => (first | (simp; done) | (simp; omega))) | refine Ext.trans ?_ (by assumption)))⟩
        · subst e1
          obtain ⟨rfl, rfl⟩ := f4 rfl
          clear f2 f3 f4
          go_wp2_with fail
          refine (works_any _).mono ?_; rintro e w9 ⟨rfl, hE2⟩
          go_wp2_with fail
          go_ret
          exact ⟨ret_bool (by simp), X.out.trans (by repeat (with_reducible first | assumption | exact Ext.refl _ | refine Ext.drew ?_ | refine Ext.drewN ?_ _ | refine Ext.alloc ?_ _ | (refine Ext.setCell ?_ ?sz _; case sz => (first | (simp; done) | (simp; omega))) | refine Ext.trans ?_ (by assumption)))⟩
        · subst e1
          obtain ⟨g1', rfl, rfl⟩ := f2 rfl
          clear f2 f3 f4
          have hdn : decide (x ≤ hn ∧ hn ≤ y) = true := by simpa using g1'
          clear g1'
          go_wp2_with fail
          refine (in_any x y hn _).mono ?_; rintro e w8 ⟨rfl, hE⟩
          rw [hdn]
          go_wp2_with fail
          refine (works_any _).mono ?_; rintro e w9 ⟨rfl, hE2⟩
          go_wp2_with fail
          go_ret
          exact ⟨ret_bool (by simp), X.out.trans (by repeat (with_reducible first | assumption | exact Ext.refl _ | refine Ext.drew ?_ | refine Ext.drewN ?_ _ | refine Ext.alloc ?_ _ | (refine Ext.setCell ?_ ?sz _; case sz => (first | (simp; done) | (simp; omega))) | refine Ext.trans ?_ (by assumption)))⟩

end Go.Proofs.Ytogglbhidlnijaa
