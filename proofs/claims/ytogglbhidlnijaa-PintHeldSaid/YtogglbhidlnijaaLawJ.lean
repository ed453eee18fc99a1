/- The law PintHeld, walked. -/
import Derived.Test.YtogglbhidlnijaaLawH
import Derived.Test.YtogglbhidlnijaaMemI
import Derived.Deep.DeepCutAuto
import Derived.StillTailTactics
namespace Go.Proofs.Ytogglbhidlnijaa
set_option linter.unusedVariables false
set_option linter.unusedSimpArgs false
set_option linter.unusedSectionVars false
set_option linter.unnecessarySimpa false
open Go Go.RowKit
set_option maxRecDepth 100000

theorem elemPd : ElemP Try.prog 52 := elemP_mk (by kernel_rfl)


/-- The box of the measure with a narrower range, and its ranges. -/
structure NarB (w : World) (D g cx : Nat) (e : TypeId) (base : Nat) (d : Dent) : Prop where
  d0 : w.cell? ⟨D, 0, none⟩ = some (.int .i64 d.L)
  d1 : w.cell? ⟨D, 1, none⟩ = some (.int .i64 d.R)
  d2 : w.cell? ⟨D, 2, none⟩ = some (.slice (some ⟨g, 0, none⟩) d.rs.length cx)
  ow : OwnP w base e (.slice (some ⟨g, 0, none⟩) d.rs.length cx) d.rs
  bD : base ≤ D
  bg : base ≤ g
  ne : g ≠ D
structure DSS (B : Nat) (d : Dent) (a : Option Addr) (cap : Nat) (w : World) : Prop where
  m0 : w.cell? ⟨B, 0, none⟩ = some (.int .i64 d.L)
  m1 : w.cell? ⟨B, 1, none⟩ = some (.int .i64 d.R)
  m2 : w.cell? ⟨B, 2, none⟩ = some (.slice a d.rs.length cap)
  i : Prs w a d.rs
theorem DSS.ext {B : Nat} {d : Dent} {a : Option Addr} {cap : Nat} {w w' : World} (h : DSS B d a cap w) (k : Ext w w') : DSS B d a cap w' :=
  ⟨k.cell h.m0, k.cell h.m1, k.cell h.m2, h.i.ext k⟩

/-- The truth that Right returns for an end. -/
def RetEnd (d : Dent) (t end_ : Int) (w : World) (e : Ending) (w' : World) : Prop :=
  ∃ b a n c, e = .returned (.tuple #[.slice a n c, .int .i64 0]) ∧ n ≤ 10 ∧ Hid (Tru d b a n w' ∧ holds (meas d b) t = end_) ∧ Ext w w'
theorem rightEnd_any (d : Dent) (q : FitD d) (a : Option Addr) (cap : Nat) (t x : Int) (w : World) (hP : Prs w a d.rs) (hl : d.rs.length ≤ 10) (ht : I64 t) (hx : I64 x) (hr : rightE d t x x = 0) :
    Calls Try.prog 46 #[(.agg #[.int .i64 d.L, .int .i64 d.R, .slice a d.rs.length cap]), .int .i64 t, .agg #[.int .i64 x, .int .i64 x]] w (RetEnd d t x w) :=
  (right_any d q a cap t x x w hP (by omega) ht hx hx).mono fun e w' ⟨hE, h⟩ => by
    rcases h with ⟨h1, _⟩ | ⟨_, y, a', c', h2, h3, rfl, h4⟩
    · exact absurd hr h1
    · refine ⟨y, a', _, c', rfl, by rw [h2.len]; exact hl, hid ⟨⟨rfl, h2, h4⟩, ?_⟩, hE⟩
      unfold inB at h3
      have := of_decide_eq_true h3
      omega
theorem spanD_any (d : Dent) (q : FitD d) (a : Option Addr) (n cap : Nat) (hn : n = d.rs.length) (t lo hi : Int) (w : World) (hP : Prs w a d.rs) (hl : d.rs.length ≤ 1000) (ht : I64 t) (h0 : dtd d t = 0) (hlo : spanLo d t = lo) (hhi : spanHi d t = hi) :
    Calls Try.prog 40 #[.agg #[.int .i64 d.L, .int .i64 d.R, .slice a n cap], .int .i64 t] w fun e w' => e = .returned (.tuple #[.agg #[.int .i64 lo, .int .i64 hi], .int .i64 0]) ∧ Ext w w' := by
  subst hn
  have h := span_any d q a cap t w hP hl ht
  rw [show spanLoOf d t = lo by unfold spanLoOf; rw [if_pos h0, hlo], show spanHiOf d t = hi by unfold spanHiOf; rw [if_pos h0, hhi], h0] at h
  exact h
theorem spanN_any (d : Dent) {i : Nat} (hi : i < d.rs.length) (y : Int) (q : FitD (nar d i y)) (a : Option Addr) (n cap : Nat) (hn : n = d.rs.length) (t lo hi' : Int) (w : World) (hP : Prs w a (nar d i y).rs) (hl : d.rs.length ≤ 1000) (ht : I64 t) (h0 : dtd (nar d i y) t = 0) (hlo : spanLo (nar d i y) t = lo) (hhi : spanHi (nar d i y) t = hi') :
    Calls Try.prog 40 #[.agg #[.int .i64 d.L, .int .i64 d.R, .slice a n cap], .int .i64 t] w fun e w' => e = .returned (.tuple #[.agg #[.int .i64 lo, .int .i64 hi'], .int .i64 0]) ∧ Ext w w' :=
  spanD_any (nar d i y) q a n cap (by rw [hn]; simp [nar]) t lo hi' w hP (by simpa [nar] using hl) ht h0 hlo hhi
theorem span_bd {d : Dent} {t : Int} (k : Dl d t) : 0 ≤ spanLo d t ∧ spanLo d t ≤ 3360 ∧ 0 ≤ spanHi d t ∧ spanHi d t ≤ 3360 := by
  obtain ⟨b, hb, e⟩ := span_lo k
  obtain ⟨c, hc, e2⟩ := span_hi k
  have h1 := holds_bd (meas_vld k.v hb) k.t0 k.t1
  have h2 := holds_bd (meas_vld k.v hc) k.t0 k.t1
  omega
theorem nar_fit {d : Dent} (q : FitD d) {i : Nat} (hi : i < d.rs.length) {x : Int} (hx : I64 x) : FitD (nar d i x) := by
  refine ⟨q.l, q.r, fun j => ?_, fun j => ?_⟩
  · rw [nar_pa hi]; split
    · exact hx
    · exact q.lo j
  · rw [nar_pb hi]; exact q.hi j

set_option maxHeartbeats 8000000 in
theorem pintHeld_any (d : Dent) (q : FitD d) (a : Option Addr) (cap : Nat) (tn : Int) (l : List Int) (a2 : Option Addr) (c2 : Nat) (wi : Int) (w : World) (hI : Prs w a d.rs) (hl : d.rs.length ≤ 9223372036854775807) (ht : -128 ≤ tn ∧ tn ≤ 127)
    (hY : Byts w a2 l) (hll : l.length ≤ 9223372036854775807) (hb : ∀ i, 0 ≤ nth l i ∧ nth l i ≤ 255) (hwi : 0 ≤ wi ∧ wi ≤ 255) :
    Calls Try.prog 13 #[(.agg #[.int .i64 d.L, .int .i64 d.R, .slice a d.rs.length cap]), .int .i8 tn, .slice a2 l.length c2, .int .u8 wi] w fun e w' => e = .returned (.bool true) ∧ Ext w w' := by
  have hB : Ext w (w.alloc (.cells #[.int .i64 d.L, .int .i64 d.R, .slice a d.rs.length cap] 50)) := (by repeat (with_reducible first | assumption | exact Ext.refl _ | refine Ext.drew ?_ | refine Ext.drewN ?_ _ | refine Ext.alloc ?_ _ | (refine Ext.setCell ?_ ?sz _; case sz => (first | (simp; done) | (simp; omega))) | refine Ext.trans ?_ (by assumption)))
  have hb := hid hb
  by_cases v : VldD d
  case neg =>
    go_enter Try.func13, Try.ntmps13
    go_wp2_with fail
    refine (sound_no d q v a cap _ (hI.ext (by repeat (with_reducible first | assumption | exact Ext.refl _ | refine Ext.drew ?_ | refine Ext.drewN ?_ _ | refine Ext.alloc ?_ _ | (refine Ext.setCell ?_ ?sz _; case sz => (first | (simp; done) | (simp; omega))) | refine Ext.trans ?_ (by assumption)))) hl).mono ?_; rintro e w1 ⟨rfl, hE⟩
    go_wp2_with fail
    refine (works_any _).mono ?_; rintro e w2 ⟨rfl, hE2⟩
    go_wp2_with fail
    go_ret
    exact ⟨rfl, (by repeat (with_reducible first | assumption | exact Ext.refl _ | refine Ext.drew ?_ | refine Ext.drewN ?_ _ | refine Ext.alloc ?_ _ | (refine Ext.setCell ?_ ?sz _; case sz => (first | (simp; done) | (simp; omega))) | refine Ext.trans ?_ (by assumption)))⟩
  case pos =>
    by_cases g1 : 20 < l.length
    case pos =>
      go_enter Try.func13, Try.ntmps13
      go_wp2_with fail
      refine (sound_yes d v q a cap _ (hI.ext (by repeat (with_reducible first | assumption | exact Ext.refl _ | refine Ext.drew ?_ | refine Ext.drewN ?_ _ | refine Ext.alloc ?_ _ | (refine Ext.setCell ?_ ?sz _; case sz => (first | (simp; done) | (simp; omega))) | refine Ext.trans ?_ (by assumption))))).mono ?_; rintro e w1 ⟨rfl, hE⟩
      go_wp2_with fail
      refine (works_any _).mono ?_; rintro e w2 ⟨rfl, hE2⟩
      go_wp2_with fail
      go_ret
      exact ⟨rfl, (by repeat (with_reducible first | assumption | exact Ext.refl _ | refine Ext.drew ?_ | refine Ext.drewN ?_ _ | refine Ext.alloc ?_ _ | (refine Ext.setCell ?_ ?sz _; case sz => (first | (simp; done) | (simp; omega))) | refine Ext.trans ?_ (by assumption)))⟩
    case neg =>
      have n1 := v.n1
      have n4 := v.n4
      have hl10 : d.rs.length ≤ 10 := by omega
      go_enter Try.func13, Try.ntmps13
      go_wp2_with fail
      refine (sound_yes d v q a cap _ (hI.ext (by repeat (with_reducible first | assumption | exact Ext.refl _ | refine Ext.drew ?_ | refine Ext.drewN ?_ _ | refine Ext.alloc ?_ _ | (refine Ext.setCell ?_ ?sz _; case sz => (first | (simp; done) | (simp; omega))) | refine Ext.trans ?_ (by assumption))))).mono ?_; rintro e w1 ⟨rfl, hE⟩
      have X : Hid (Ext w w1) := hid (by repeat (with_reducible first | assumption | exact Ext.refl _ | refine Ext.drew ?_ | refine Ext.drewN ?_ _ | refine Ext.alloc ?_ _ | (refine Ext.setCell ?_ ?sz _; case sz => (first | (simp; done) | (simp; omega))) | refine Ext.trans ?_ (by assumption)))
      have S : DSS w.heap.size d a cap w1 := ⟨hE.cell (by simp [go_sem]), hE.cell (by simp [go_sem]), hE.cell (by simp [go_sem]), hI.ext (by repeat (with_reducible first | assumption | exact Ext.refl _ | refine Ext.drew ?_ | refine Ext.drewN ?_ _ | refine Ext.alloc ?_ _ | (refine Ext.setCell ?_ ?sz _; case sz => (first | (simp; done) | (simp; omega))) | refine Ext.trans ?_ (by assumption)))⟩
      have hY := hid (hY.ext X.out)
      generalize w.heap.size = B at *
      replace S := hid S
      clear hE hB hI
      have m0 := S.out.m0; have m1 := S.out.m1; have m2 := S.out.m2
      go_wp2_with fail
      refine (tilted_any tn ht _).mono ?_; rintro e w2 ⟨rfl, hE⟩
      obtain ⟨t0, t1⟩ := tiltOf_bd tn
      generalize tiltOf tn = t at *
      have tI : I64 t := ⟨by omega, by omega⟩
      have hT : Dl d t := ⟨v, t0, t1⟩
      have HY := hid (hY.out.ext (show Ext w1 w2 from (by repeat (with_reducible first | assumption | exact Ext.refl _ | refine Ext.drew ?_ | refine Ext.drewN ?_ _ | refine Ext.alloc ?_ _ | (refine Ext.setCell ?_ ?sz _; case sz => (first | (simp; done) | (simp; omega))) | refine Ext.trans ?_ (by assumption)))))
      clear hY
      (have x : Ext w1 w2 := (by repeat (with_reducible first | assumption | exact Ext.refl _ | refine Ext.drew ?_ | refine Ext.drewN ?_ _ | refine Ext.alloc ?_ _ | (refine Ext.setCell ?_ ?sz _; case sz => (first | (simp; done) | (simp; omega))) | refine Ext.trans ?_ (by assumption))); replace S := hid (S.out.ext x); replace X := hid (X.out.trans x); clear x hE m0 m1 m2; have m0 := S.out.m0; have m1 := S.out.m1; have m2 := S.out.m2; have bB := cell_lt m0; simp only at bB)
      go_wp2_with fail
      refine (bottomN_any d v a cap l a2 c2 _ S.out.i HY.out (by omega) hb.out).mono ?_; rintro e w3 ⟨bt, a1, nb, c1, rfl, hTb, hE⟩
      clear bB HY
      (have x : Ext w2 w3 := (by repeat (with_reducible first | assumption | exact Ext.refl _ | refine Ext.drew ?_ | refine Ext.drewN ?_ _ | refine Ext.alloc ?_ _ | (refine Ext.setCell ?_ ?sz _; case sz => (first | (simp; done) | (simp; omega))) | refine Ext.trans ?_ (by assumption))); replace S := hid (S.out.ext x); replace X := hid (X.out.trans x); clear x hE m0 m1 m2; have m0 := S.out.m0; have m1 := S.out.m1; have m2 := S.out.m2; have bB := cell_lt m0; simp only at bB)
      go_wp2_with fail
      refine (measureR_any d a a1 cap _ c1 _).mono ?_; rintro e w4 ⟨rfl, hE⟩
      have hTb := hid (hTb.out.ext (show Ext w3 w4 from (by repeat (with_reducible first | assumption | exact Ext.refl _ | refine Ext.drew ?_ | refine Ext.drewN ?_ _ | refine Ext.alloc ?_ _ | (refine Ext.setCell ?_ ?sz _; case sz => (first | (simp; done) | (simp; omega))) | refine Ext.trans ?_ (by assumption)))))
      clear bB
      (have x : Ext w3 w4 := (by repeat (with_reducible first | assumption | exact Ext.refl _ | refine Ext.drew ?_ | refine Ext.drewN ?_ _ | refine Ext.alloc ?_ _ | (refine Ext.setCell ?_ ?sz _; case sz => (first | (simp; done) | (simp; omega))) | refine Ext.trans ?_ (by assumption))); replace S := hid (S.out.ext x); replace X := hid (X.out.trans x); clear x hE m0 m1 m2; have m0 := S.out.m0; have m1 := S.out.m1; have m2 := S.out.m2; have bB := cell_lt m0; simp only at bB)
      go_wp2_with fail
      refine (holdsP_any d bt (meas_vld v hTb.out.t) a1 nb c1 hTb.out.n t t0 t1 _ hTb.out.i).mono ?_; rintro e w5 ⟨rfl, hE⟩
      replace hTb := hid (hTb.out.ext (show Ext w4 w5 from (by repeat (with_reducible first | assumption | exact Ext.refl _ | refine Ext.drew ?_ | refine Ext.drewN ?_ _ | refine Ext.alloc ?_ _ | (refine Ext.setCell ?_ ?sz _; case sz => (first | (simp; done) | (simp; omega))) | refine Ext.trans ?_ (by assumption)))))
      obtain ⟨s0, s1⟩ := span_in (t := t) hTb.out.t
      obtain ⟨u0, u1, u2, u3⟩ := span_bd hT
      obtain ⟨lb, hlb, elb⟩ := span_lo hT
      obtain ⟨hbt, hhb, ehb⟩ := span_hi hT
      have hr1 := hid (right_end hT hlb elb)
      have hr2 := hid (right_end hT hhb ehb)
      clear hlb elb hhb ehb bB
      generalize holds (meas d bt) t = hn at *
      obtain ⟨lo, hlo⟩ : ∃ lo, spanLo d t = lo := ⟨_, rfl⟩
      obtain ⟨hi, hhi⟩ : ∃ hi, spanHi d t = hi := ⟨_, rfl⟩
      rw [hlo] at s0 u0 u1 hr1
      rw [hhi] at s1 u2 u3 hr2
      have hlo := hid hlo
      have hhi := hid hhi
      (have x : Ext w4 w5 := (by repeat (with_reducible first | assumption | exact Ext.refl _ | refine Ext.drew ?_ | refine Ext.drewN ?_ _ | refine Ext.alloc ?_ _ | (refine Ext.setCell ?_ ?sz _; case sz => (first | (simp; done) | (simp; omega))) | refine Ext.trans ?_ (by assumption))); replace S := hid (S.out.ext x); replace X := hid (X.out.trans x); clear x hE m0 m1 m2; have m0 := S.out.m0; have m1 := S.out.m1; have m2 := S.out.m2; have bB := cell_lt m0; simp only at bB)
      go_wp2_with fail
      refine (spanD_any d q a _ cap rfl t lo hi _ S.out.i (by omega) tI (dtd_ok.2 hT) hlo.out hhi.out).mono ?_; rintro e w6 ⟨rfl, hE⟩
      replace hTb := hid (hTb.out.ext (show Ext w5 w6 from (by repeat (with_reducible first | assumption | exact Ext.refl _ | refine Ext.drew ?_ | refine Ext.drewN ?_ _ | refine Ext.alloc ?_ _ | (refine Ext.setCell ?_ ?sz _; case sz => (first | (simp; done) | (simp; omega))) | refine Ext.trans ?_ (by assumption)))))
      clear bB
      (have x : Ext w5 w6 := (by repeat (with_reducible first | assumption | exact Ext.refl _ | refine Ext.drew ?_ | refine Ext.drewN ?_ _ | refine Ext.alloc ?_ _ | (refine Ext.setCell ?_ ?sz _; case sz => (first | (simp; done) | (simp; omega))) | refine Ext.trans ?_ (by assumption))); replace S := hid (S.out.ext x); replace X := hid (X.out.trans x); clear x hE m0 m1 m2; have m0 := S.out.m0; have m1 := S.out.m1; have m2 := S.out.m2; have bB := cell_lt m0; simp only at bB)
      go_wp2_with fail
      have hSl : Hid (Ext w6 (w6.alloc (.cells #[.int .i64 lo, .int .i64 hi] 52))) := hid (by repeat (with_reducible first | assumption | exact Ext.refl _ | refine Ext.drew ?_ | refine Ext.drewN ?_ _ | refine Ext.alloc ?_ _ | (refine Ext.setCell ?_ ?sz _; case sz => (first | (simp; done) | (simp; omega))) | refine Ext.trans ?_ (by assumption)))
      obtain ⟨wa, hwa⟩ : ∃ wa, wa = w6.alloc (.cells #[.int .i64 lo, .int .i64 hi] 52) := ⟨_, rfl⟩
      have f0 : wa.cell? ⟨w6.heap.size, 0, none⟩ = some (.int .i64 lo) := by rw [hwa]; simp [go_sem]
      have f1 : wa.cell? ⟨w6.heap.size, 1, none⟩ = some (.int .i64 hi) := by rw [hwa]; simp [go_sem]
      rw [← hwa] at hSl
      rw [← hwa]
      clear hwa
      replace S := hid (S.out.ext hSl.out)
      replace X := hid (X.out.trans hSl.out)
      replace hTb := hid (hTb.out.ext hSl.out)
      clear m0 m1 m2 bB
      generalize w6.heap.size = G at *
      clear hSl
      have z1 : rightE d t lo lo = 0 := hr1.out
      have z2 : rightE d t hi hi = 0 := hr2.out
      clear hr1 hr2
      have F0 := hid f0
      have F1 := hid f1
      clear f0 f1
      go_loopw [15] (fun i wr => ∃ k : Nat, k ≤ 2 ∧ i = .int .i64 k ∧ Ext wa wr) (fun i _ => (2 - intOf i).toNat)
      case atStart => exact ⟨0, by omega, rfl, Ext.refl _⟩
      case round =>
        obtain ⟨k, hk, rfl, hw⟩ := hrel
        have f0 := hw.cell F0.out
        have f1 := hw.cell F1.out
        have S' := hid (S.out.ext hw)
        have m0 := S'.out.m0; have m1 := S'.out.m1; have m2 := S'.out.m2
        have hw := hid hw
        obtain ⟨w0, rfl⟩ : ∃ w0 : World, w0 = wr := ⟨_, rfl⟩
        obtain rfl | rfl | rfl : k = 0 ∨ k = 1 ∨ k = 2 := by omega
        · go_wp2_with fail
          try simp only [List.append_eq, List.cons_append, List.nil_append]
          go_region_held3 (fun w' => w'.cell? ⟨B, 0, none⟩ = some (.int .i64 d.L) ∧ w'.cell? ⟨B, 1, none⟩ = some (.int .i64 d.R) ∧ w'.cell? ⟨B, 2, none⟩ = some (.slice a d.rs.length cap) ∧ Ext w0 w') (((try go_split_ands); (repeat' apply And.intro) <;> (first | (with_reducible assumption) | exact Ext.cell (w := w0) (by repeat (with_reducible first | assumption | exact Ext.refl _ | refine Ext.drew ?_ | refine Ext.drewN ?_ _ | refine Ext.alloc ?_ _ | (refine Ext.setCell ?_ ?sz _; case sz => (first | (simp; done) | (simp; omega))) | refine Ext.trans ?_ (by assumption))) (by assumption) | exact (by repeat (with_reducible first | assumption | exact Ext.refl _ | refine Ext.drew ?_ | refine Ext.drewN ?_ _ | refine Ext.alloc ?_ _ | (refine Ext.setCell ?_ ?sz _; case sz => (first | (simp; done) | (simp; omega))) | refine Ext.trans ?_ (by assumption)))))) (first | (go_at_call 63; refine (to_any lo lo _).mono ?_; rintro e wt ⟨rfl, hEt⟩) | (go_at_call 46; refine (rightEnd_any d q a cap t lo _ (S'.out.i.ext (by repeat (with_reducible first | assumption | exact Ext.refl _ | refine Ext.drew ?_ | refine Ext.drewN ?_ _ | refine Ext.alloc ?_ _ | (refine Ext.setCell ?_ ?sz _; case sz => (first | (simp; done) | (simp; omega))) | refine Ext.trans ?_ (by assumption)))) hl10 tI (by constructor <;> omega) z1).mono ?_; rintro e wu ⟨tb, a5, n5, cp5, rfl, hn5, hT5, hE5⟩))
          have hE : Ext w0 wu := (by repeat (with_reducible first | assumption | exact Ext.refl _ | refine Ext.drew ?_ | refine Ext.drewN ?_ _ | refine Ext.alloc ?_ _ | (refine Ext.setCell ?_ ?sz _; case sz => (first | (simp; done) | (simp; omega))) | refine Ext.trans ?_ (by assumption)))
          clear hEt hE5
          replace S' := hid (S'.out.ext hE)
          replace hw := hid (hw.out.trans hE)
          clear hE m0 m1 m2
          have m0 := S'.out.m0
          have m1 := S'.out.m1
          have m2 := S'.out.m2
          go_wp2_with fail
          refine (isTruthN_any d a cap tb a5 n5 cp5 hT5.out.1.n _ (S'.out.i.ext (by repeat (with_reducible first | assumption | exact Ext.refl _ | refine Ext.drew ?_ | refine Ext.drewN ?_ _ | refine Ext.alloc ?_ _ | (refine Ext.setCell ?_ ?sz _; case sz => (first | (simp; done) | (simp; omega))) | refine Ext.trans ?_ (by assumption)))) (by omega) (hT5.out.1.i.ext (by repeat (with_reducible first | assumption | exact Ext.refl _ | refine Ext.drew ?_ | refine Ext.drewN ?_ _ | refine Ext.alloc ?_ _ | (refine Ext.setCell ?_ ?sz _; case sz => (first | (simp; done) | (simp; omega))) | refine Ext.trans ?_ (by assumption)))) (by omega)).mono ?_; rintro e wv ⟨rfl, hE⟩
          rw [decide_eq_true hT5.out.1.t]
          replace S' := hid (S'.out.ext hE)
          replace hw := hid (hw.out.trans hE)
          have hT5 := hid (And.intro (hT5.out.1.ext hE) hT5.out.2)
          clear hE m0 m1 m2
          have m0 := S'.out.m0
          have m1 := S'.out.m1
          have m2 := S'.out.m2
          go_wp2_with fail
          refine (measureR_any d a a5 cap _ cp5 _).mono ?_; rintro e wx ⟨rfl, hEx⟩
          go_wp2_with fail
          refine (holdsM_any d tb (meas_vld v hT5.out.1.t) a5 n5 cp5 hT5.out.1.n t t0 t1 _ (hT5.out.1.i.ext (by repeat (with_reducible first | assumption | exact Ext.refl _ | refine Ext.drew ?_ | refine Ext.drewN ?_ _ | refine Ext.alloc ?_ _ | (refine Ext.setCell ?_ ?sz _; case sz => (first | (simp; done) | (simp; omega))) | refine Ext.trans ?_ (by assumption))))).mono ?_; rintro e wy ⟨rfl, hEy⟩
          rw [hT5.out.2]
          have hz := hid (hw.out.trans (show Ext _ wy from (by repeat (with_reducible first | assumption | exact Ext.refl _ | refine Ext.drew ?_ | refine Ext.drewN ?_ _ | refine Ext.alloc ?_ _ | (refine Ext.setCell ?_ ?sz _; case sz => (first | (simp; done) | (simp; omega))) | refine Ext.trans ?_ (by assumption)))))
          clear hw S' m0 m1 m2 hEx hEy
          go_wp2_with fail
          go_roundw
          case rel => exact ⟨0 + 1, by omega, by go_num, hz.out⟩
          case measure => simp [intOf]
        · go_wp2_with fail
          try simp only [List.append_eq, List.cons_append, List.nil_append]
          go_region_held3 (fun w' => w'.cell? ⟨B, 0, none⟩ = some (.int .i64 d.L) ∧ w'.cell? ⟨B, 1, none⟩ = some (.int .i64 d.R) ∧ w'.cell? ⟨B, 2, none⟩ = some (.slice a d.rs.length cap) ∧ Ext w0 w') (((try go_split_ands); (repeat' apply And.intro) <;> (first | (with_reducible assumption) | exact Ext.cell (w := w0) (by repeat (with_reducible first | assumption | exact Ext.refl _ | refine Ext.drew ?_ | refine Ext.drewN ?_ _ | refine Ext.alloc ?_ _ | (refine Ext.setCell ?_ ?sz _; case sz => (first | (simp; done) | (simp; omega))) | refine Ext.trans ?_ (by assumption))) (by assumption) | exact (by repeat (with_reducible first | assumption | exact Ext.refl _ | refine Ext.drew ?_ | refine Ext.drewN ?_ _ | refine Ext.alloc ?_ _ | (refine Ext.setCell ?_ ?sz _; case sz => (first | (simp; done) | (simp; omega))) | refine Ext.trans ?_ (by assumption)))))) (first | (go_at_call 63; refine (to_any hi hi _).mono ?_; rintro e wt ⟨rfl, hEt⟩) | (go_at_call 46; refine (rightEnd_any d q a cap t hi _ (S'.out.i.ext (by repeat (with_reducible first | assumption | exact Ext.refl _ | refine Ext.drew ?_ | refine Ext.drewN ?_ _ | refine Ext.alloc ?_ _ | (refine Ext.setCell ?_ ?sz _; case sz => (first | (simp; done) | (simp; omega))) | refine Ext.trans ?_ (by assumption)))) hl10 tI (by constructor <;> omega) z2).mono ?_; rintro e wu ⟨tb, a5, n5, cp5, rfl, hn5, hT5, hE5⟩))
          have hE : Ext w0 wu := (by repeat (with_reducible first | assumption | exact Ext.refl _ | refine Ext.drew ?_ | refine Ext.drewN ?_ _ | refine Ext.alloc ?_ _ | (refine Ext.setCell ?_ ?sz _; case sz => (first | (simp; done) | (simp; omega))) | refine Ext.trans ?_ (by assumption)))
          clear hEt hE5
          replace S' := hid (S'.out.ext hE)
          replace hw := hid (hw.out.trans hE)
          clear hE m0 m1 m2
          have m0 := S'.out.m0
          have m1 := S'.out.m1
          have m2 := S'.out.m2
          go_wp2_with fail
          refine (isTruthN_any d a cap tb a5 n5 cp5 hT5.out.1.n _ (S'.out.i.ext (by repeat (with_reducible first | assumption | exact Ext.refl _ | refine Ext.drew ?_ | refine Ext.drewN ?_ _ | refine Ext.alloc ?_ _ | (refine Ext.setCell ?_ ?sz _; case sz => (first | (simp; done) | (simp; omega))) | refine Ext.trans ?_ (by assumption)))) (by omega) (hT5.out.1.i.ext (by repeat (with_reducible first | assumption | exact Ext.refl _ | refine Ext.drew ?_ | refine Ext.drewN ?_ _ | refine Ext.alloc ?_ _ | (refine Ext.setCell ?_ ?sz _; case sz => (first | (simp; done) | (simp; omega))) | refine Ext.trans ?_ (by assumption)))) (by omega)).mono ?_; rintro e wv ⟨rfl, hE⟩
          rw [decide_eq_true hT5.out.1.t]
          replace S' := hid (S'.out.ext hE)
          replace hw := hid (hw.out.trans hE)
          have hT5 := hid (And.intro (hT5.out.1.ext hE) hT5.out.2)
          clear hE m0 m1 m2
          have m0 := S'.out.m0
          have m1 := S'.out.m1
          have m2 := S'.out.m2
          go_wp2_with fail
          refine (measureR_any d a a5 cap _ cp5 _).mono ?_; rintro e wx ⟨rfl, hEx⟩
          go_wp2_with fail
          refine (holdsM_any d tb (meas_vld v hT5.out.1.t) a5 n5 cp5 hT5.out.1.n t t0 t1 _ (hT5.out.1.i.ext (by repeat (with_reducible first | assumption | exact Ext.refl _ | refine Ext.drew ?_ | refine Ext.drewN ?_ _ | refine Ext.alloc ?_ _ | (refine Ext.setCell ?_ ?sz _; case sz => (first | (simp; done) | (simp; omega))) | refine Ext.trans ?_ (by assumption))))).mono ?_; rintro e wy ⟨rfl, hEy⟩
          rw [hT5.out.2]
          have hz := hid (hw.out.trans (show Ext _ wy from (by repeat (with_reducible first | assumption | exact Ext.refl _ | refine Ext.drew ?_ | refine Ext.drewN ?_ _ | refine Ext.alloc ?_ _ | (refine Ext.setCell ?_ ?sz _; case sz => (first | (simp; done) | (simp; omega))) | refine Ext.trans ?_ (by assumption)))))
          clear hw S' m0 m1 m2 hEx hEy
          go_wp2_with fail
          go_roundw
          case rel => exact ⟨1 + 1, by omega, by go_num, hz.out⟩
          case measure => simp [intOf]
        · obtain ⟨i0, i1⟩ := rem_bd wi (d.rs.length : Int) hwi.1 (by omega)
          obtain ⟨i, hi'⟩ : ∃ i : Nat, wi.tmod (d.rs.length : Int) = (i : Int) := ⟨(wi.tmod (d.rs.length : Int)).toNat, by omega⟩
          rw [hi'] at i0 i1
          have hil : i < d.rs.length := by omega
          have hw8 := Go.IntWalk.i64_in wi (by omega)
          have hIa := hid S'.out.i
          go_upto_region 20 with (fail)
          go_cut [20] (fun p wx => ∃ D g cx : Nat, p = .pointer (some ⟨D, 0, none⟩) ∧ Hid (NarB wx D g cx 52 w0.heap.size d) ∧ Ext w0 wx)
          case first =>
            go_region_held3 (fun w' => w'.cell? ⟨B, 0, none⟩ = some (.int .i64 d.L) ∧ w'.cell? ⟨B, 1, none⟩ = some (.int .i64 d.R) ∧ w'.cell? ⟨B, 2, none⟩ = some (.slice a d.rs.length cap) ∧ Ext w0 w') (((try go_split_ands); (repeat' apply And.intro) <;> (first | (with_reducible assumption) | exact Ext.cell (w := w0) (by repeat (with_reducible first | assumption | exact Ext.refl _ | refine Ext.drew ?_ | refine Ext.drewN ?_ _ | refine Ext.alloc ?_ _ | (refine Ext.setCell ?_ ?sz _; case sz => (first | (simp; done) | (simp; omega))) | refine Ext.trans ?_ (by assumption))) (by assumption) | exact (by repeat (with_reducible first | assumption | exact Ext.refl _ | refine Ext.drew ?_ | refine Ext.drewN ?_ _ | refine Ext.alloc ?_ _ | (refine Ext.setCell ?_ ?sz _; case sz => (first | (simp; done) | (simp; omega))) | refine Ext.trans ?_ (by assumption)))))) (first | (rw [if_pos (by rfl)]; refine appFreshP_wp _ _ _ rfl 52 Try.underlying48 elemPd d.rs _ rfl a cap rfl ?H2 (by omega) (by omega) ?_; (case H2 => exact hIa.out.ext (by repeat (with_reducible first | assumption | exact Ext.refl _ | refine Ext.drew ?_ | refine Ext.drewN ?_ _ | refine Ext.alloc ?_ _ | (refine Ext.setCell ?_ ?sz _; case sz => (first | (simp; done) | (simp; omega))) | refine Ext.trans ?_ (by assumption)))); intro g cp w4 hg4 ho4 hE4; (try simp at ho4); (try simp at hg4); (try ((first | have s := newC_of hE4 | have s := newC_of (Ext.trans (Ext.drew (Ext.refl _)) hE4) | have s := newC_of (Ext.trans (Ext.drew (Ext.alloc (Ext.refl _) _)) hE4)); (try simp only [World.size_alloc] at s); have sa := s.c0; have sb := s.c1; have sc := s.c2; have sd := s.f0; have se := s.f1; have sf := s.f2; have sg := s.lt)); have r3 := hE4.size; (try simp at r3)))
            all_goals
              go_wp2_with fail
              go_meet
              case rel =>
                have zz := (OwnP.block ho4 _ rfl).2
                try simp only at zz
                first
                  | refine ⟨w4.heap.size, g, cp, rfl, ?_⟩
                  | refine ⟨w0.heap.size + 1, g, cp, rfl, ?_⟩
                  | refine ⟨w0.heap.size, g, cp, rfl, ?_⟩
                refine ⟨hid ⟨(by simp [go_sem, *]; done), (by simp [go_sem, *]; done), (by simp [go_sem, *]; done), ?_, (by first | omega | (simp; done) | (simp; omega)), (by first | omega | (simp; done) | (simp; omega)), (by first | omega | (simp; done) | (simp; omega))⟩, (by repeat (with_reducible first | assumption | exact Ext.refl _ | refine Ext.drew ?_ | refine Ext.drewN ?_ _ | refine Ext.alloc ?_ _ | (refine Ext.setCell ?_ ?sz _; case sz => (first | (simp; done) | (simp; omega))) | refine Ext.trans ?_ (by assumption)))⟩
                first
                  | exact OwnP.mono (OwnP.put (OwnP.put (OwnP.put ho4 (by simp; omega) _) (by simp; omega) _) (by simp; omega) _) (by omega)
                  | exact OwnP.mono (OwnP.ext ho4 (by repeat (with_reducible first | assumption | exact Ext.refl _ | refine Ext.drew ?_ | refine Ext.drewN ?_ _ | refine Ext.alloc ?_ _ | (refine Ext.setCell ?_ ?sz _; case sz => (first | (simp; done) | (simp; omega))) | refine Ext.trans ?_ (by assumption)))) (by omega)
          case rest =>
            obtain ⟨D, g, cx, rfl, hNB, hW⟩ := hcut
            obtain ⟨w5, rfl⟩ : ∃ w5 : World, w5 = wc := ⟨_, rfl⟩
            have hT6 := hid (hTb.out.ext (hw.out.trans hW))
            have hbl : i < bt.length := by rw [hT6.out.t.len]; exact hil
            obtain ⟨b1, o1, hb1e, hb1l, hc1⟩ := hT6.out.i.at (show 0 < bt.length by omega)
            subst hb1e
            have q0 := hc1 i hbl
            obtain ⟨bb1, oo1, ee1, hc1l, _⟩ := (hTb.out.ext hw.out).i.at (show 0 < bt.length by omega)
            cases ee1
            have hTd := (isT_iff.1 hT6.out.t).2 i hil
            have hok := v.ok i hil
            unfold okR at hok
            have x2 := hNB.out.d2
            have hnb := hT6.out.n
            obtain ⟨p0, p1, r0, r1, _, hgl⟩ := hNB.out.ow.facts hil
            have hnar := hid (nar_span (d := d) (x := nth bt i) hT hil hTd.1 hTd.2)
            have hnfit := hid (nar_fit q hil (x := nth bt i) (by constructor <;> omega))
            have hset := hid (show (nar d i (nth bt i)).rs = d.rs.set i (nth bt i, pb d.rs i) from rfl)
            have hDl := cell_lt x2
            simp only at hDl
            have hne := hNB.out.ne
            have hbg := hNB.out.bg
            have hbD := hNB.out.bD
            have hb1g : ¬ b1 = g := by omega
            clear hc1 f0 f1 hIa S' m0 m1 m2
            generalize nth bt i = y at *
            generalize pb d.rs i = z at *
            have zz2 : (i : Int) < (nb : Int) := by rw [hnb]; omega
            have hbn : i < nb := by omega
            clear hnb
            go_wp2_with fail
            try simp only [List.append_eq, List.cons_append, List.nil_append]
            go_region_held3 (fun w' => w'.cell? ⟨D, 2, none⟩ = some (.slice (some ⟨g, 0, none⟩) d.rs.length cx) ∧ w'.cell? ⟨b1, o1 + i, none⟩ = some (.int .i64 y) ∧ w'.cell? ⟨g, i * 2 + 1, none⟩ = some (.int .i64 z) ∧ Ext w0 w') (((try go_split_ands); (repeat' apply And.intro) <;> (first | (with_reducible assumption) | (simp [go_sem, ta, tb, tc, td, x2t, q0t, hne.symm, hb1g]; done) | exact Ext.cell (w := w5) (by repeat (with_reducible first | assumption | exact Ext.refl _ | refine Ext.drew ?_ | refine Ext.drewN ?_ _ | refine Ext.alloc ?_ _ | (refine Ext.setCell ?_ ?sz _; case sz => (first | (simp; done) | (simp; omega))) | refine Ext.trans ?_ (by assumption))) (by assumption) | exact (by repeat (with_reducible first | assumption | exact Ext.refl _ | refine Ext.drew ?_ | refine Ext.drewN ?_ _ | refine Ext.alloc ?_ _ | (refine Ext.setCell ?_ ?sz _; case sz => (first | (simp; done) | (simp; omega))) | refine Ext.trans ?_ (by assumption)))))) (first | (go_at_call 63; refine (to_any y z _).mono ?_; rintro e wt ⟨rfl, hEt⟩; have xt : Ext w5 wt := (by repeat (with_reducible first | assumption | exact Ext.refl _ | refine Ext.drew ?_ | refine Ext.drewN ?_ _ | refine Ext.alloc ?_ _ | (refine Ext.setCell ?_ ?sz _; case sz => (first | (simp; done) | (simp; omega))) | refine Ext.trans ?_ (by assumption))); have ta := xt.cell p0; have tb := xt.cell p1; have tc := (xt.frozen (p := ⟨g, i * 2, none⟩) hgl).trans r0; have td := (xt.frozen (p := ⟨g, i * 2 + 1, none⟩) hgl).trans r1; have x2t := xt.cell x2; have q0t := xt.cell q0))
            all_goals
              have hown := OwnP.set (hNB.out.ow.ext (show Ext w5 wt from (by repeat (with_reducible first | assumption | exact Ext.refl _ | refine Ext.drew ?_ | refine Ext.drewN ?_ _ | refine Ext.alloc ?_ _ | (refine Ext.setCell ?_ ?sz _; case sz => (first | (simp; done) | (simp; omega))) | refine Ext.trans ?_ (by assumption))))) hil y z
              rw [← hset.out] at hown
              obtain ⟨wz, hwz⟩ : ∃ wz, wz = (wt.setCell ⟨g, i * 2, none⟩ (.int .i64 y)).setCell ⟨g, i * 2 + 1, none⟩ (.int .i64 z) := ⟨_, rfl⟩
              have xz : Ext w0 wz := by rw [hwz]; have := hW.trans xt; exact (by repeat (with_reducible first | assumption | exact Ext.refl _ | refine Ext.drew ?_ | refine Ext.drewN ?_ _ | refine Ext.alloc ?_ _ | (refine Ext.setCell ?_ ?sz _; case sz => (first | (simp; done) | (simp; omega))) | refine Ext.trans ?_ (by assumption)))
              have e0 := xt.cell hNB.out.d0
              have e1 := xt.cell hNB.out.d1
              have c0 : wz.cell? ⟨D, 0, none⟩ = some (.int .i64 d.L) := by rw [hwz]; simp [go_sem, e0, hne.symm]
              have c1' : wz.cell? ⟨D, 1, none⟩ = some (.int .i64 d.R) := by rw [hwz]; simp [go_sem, e1, hne.symm]
              have c2' : wz.cell? ⟨D, 2, none⟩ = some (.slice (some ⟨g, 0, none⟩) d.rs.length cx) := by rw [hwz]; simp [go_sem, x2t, hne.symm]
              rw [← hwz] at hown ⊢
              have hPz := hid (show Prs wz (some ⟨g, 0, none⟩) (nar d i y).rs by obtain ⟨_, _, ee, _, hh⟩ := hown.slice; simp only [Value.slice.injEq] at ee; rw [ee.1]; exact hh)
              have f0 := (hw.out.trans xz).cell F0.out
              have f1 := (hw.out.trans xz).cell F1.out
              have Z := hid (X.out.trans (hw.out.trans xz))
              obtain ⟨l', hl'⟩ : ∃ l', spanLo (nar d i y) t = l' := ⟨_, rfl⟩
              obtain ⟨h', hh'⟩ : ∃ h', spanHi (nar d i y) t = h' := ⟨_, rfl⟩
              obtain ⟨y0, y1, y2, y3⟩ := hnar.out
              rw [hl', hlo.out] at y1
              rw [hh', hhi.out] at y2
              rw [hl', hh'] at y3
              have CS := hid (spanN_any d hil y hnfit.out (some ⟨g, 0, none⟩) _ cx rfl t l' h' wz hPz.out (by omega) tI y0 hl' hh')
              clear hwz hown e0 e1 xz xt ta tb tc td x2t q0t hEt hW hNB hnar hnfit hset hlo hhi hl' hh' y0 hTb hT6 q0 x2 p0 p1 r0 r1 hPz z1 z2 S X hY hb F0 F1 hw
              try (rename_i hHeld; clear hHeld)
              go_wp2_with fail
              refine CS.out.mono ?_; rintro e wv ⟨rfl, hEv⟩
              have f0 := hEv.cell f0
              have f1 := hEv.cell f1
              have g0 := cell_lt f0
              simp only at g0
              clear CS
              go_wp2_with fail
              refine (works_any _).mono ?_; rintro e wy ⟨rfl, hEy⟩
              go_wp2_with fail
              go_ret
              exact ⟨ret_bool (by simp), Z.out.trans (by repeat (with_reducible first | assumption | exact Ext.refl _ | refine Ext.drew ?_ | refine Ext.drewN ?_ _ | refine Ext.alloc ?_ _ | (refine Ext.setCell ?_ ?sz _; case sz => (first | (simp; done) | (simp; omega))) | refine Ext.trans ?_ (by assumption)))⟩

end Go.Proofs.Ytogglbhidlnijaa
