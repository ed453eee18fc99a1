/- The law PintSides, walked. -/
import Derived.Test.YtogglbhidlnijaaLawX
import Derived.Test.YtogglbhidlnijaaMemG
import Derived.Test.YtogglbhidlnijaaPlainF
import Derived.Deep.DeepCutAuto
import Derived.StillTailTactics
namespace Go.Proofs.Ytogglbhidlnijaa
set_option linter.unusedVariables false
set_option linter.unusedSimpArgs false
set_option linter.unusedSectionVars false
set_option linter.unnecessarySimpa false
open Go Go.RowKit
set_option maxRecDepth 100000


/-- The box of the measure that is made higher, and its heights. -/
structure SideB (w : World) (D g cx : Nat) (e : TypeId) (base : Nat) (m : Meas) (n : Nat) : Prop where
  d0 : w.cell? ⟨D, 0, none⟩ = some (.int .i64 m.L)
  d1 : w.cell? ⟨D, 1, none⟩ = some (.int .i64 m.R)
  d2 : w.cell? ⟨D, 2, none⟩ = some (.slice (some ⟨g, 0, none⟩) n cx)
  e0 : w.frozen? ⟨D, 0, none⟩ = false
  e1 : w.frozen? ⟨D, 1, none⟩ = false
  ow : OwnI w base e (.slice (some ⟨g, 0, none⟩) n cx) m.hs
  bD : base ≤ D
  bg : base ≤ g
  ne : g ≠ D

set_option maxHeartbeats 8000000 in
theorem pintSides_any (m : Meas) (q : Fit m) (a : Option Addr) (cap : Nat) (tn wi d : Int) (w : World) (hI : Ints w a m.hs) (hl : m.hs.length ≤ 9223372036854775807) (ht : -128 ≤ tn ∧ tn ≤ 127) (hwi : 0 ≤ wi ∧ wi ≤ 255) (hd : 0 ≤ d ∧ d ≤ 255) :
    Calls Try.prog 11 #[(.agg #[.int .i64 m.L, .int .i64 m.R, .slice a m.hs.length cap]), .int .i8 tn, .int .u8 wi, .int .u8 d] w fun e w' => e = .returned (.bool true) ∧ Ext w w' := by
  have hB := (Ext.refl w).alloc (.cells #[.int .i64 m.L, .int .i64 m.R, .slice a m.hs.length cap] 24)
  obtain ⟨d0, d1⟩ := hd
  by_cases v : Vld m
  case neg =>
    go_enter Try.func11, Try.ntmps11
    go_wp2_with fail
    refine (fine_no m q v a cap _ (hI.ext (by repeat (with_reducible first | assumption | exact Ext.refl _ | refine Ext.drew ?_ | refine Ext.drewN ?_ _ | refine Ext.alloc ?_ _ | (refine Ext.setCell ?_ ?sz _; case sz => (first | (simp; done) | (simp; omega))) | refine Ext.trans ?_ (by assumption)))) hl).mono ?_; rintro e w1 ⟨rfl, hE⟩
    go_wp2_with fail
    refine (works_any _).mono ?_; rintro e w2 ⟨rfl, hE2⟩
    go_wp2_with fail
    go_ret
    exact ⟨rfl, (by repeat (with_reducible first | assumption | exact Ext.refl _ | refine Ext.drew ?_ | refine Ext.drewN ?_ _ | refine Ext.alloc ?_ _ | (refine Ext.setCell ?_ ?sz _; case sz => (first | (simp; done) | (simp; omega))) | refine Ext.trans ?_ (by assumption)))⟩
  case pos =>
    have n1 := v.n1
    have n8 := v.n8
    have hl' : m.hs.length ≤ 1000 := by omega
    go_enter Try.func11, Try.ntmps11
    go_wp2_with fail
    refine (fine_yes m v a cap _ (hI.ext (by repeat (with_reducible first | assumption | exact Ext.refl _ | refine Ext.drew ?_ | refine Ext.drewN ?_ _ | refine Ext.alloc ?_ _ | (refine Ext.setCell ?_ ?sz _; case sz => (first | (simp; done) | (simp; omega))) | refine Ext.trans ?_ (by assumption))))).mono ?_; rintro e w1 ⟨rfl, hE⟩
    have X : Hid (Ext w w1) := hid (by repeat (with_reducible first | assumption | exact Ext.refl _ | refine Ext.drew ?_ | refine Ext.drewN ?_ _ | refine Ext.alloc ?_ _ | (refine Ext.setCell ?_ ?sz _; case sz => (first | (simp; done) | (simp; omega))) | refine Ext.trans ?_ (by assumption)))
    have S : MS w.heap.size m a cap w1 := ⟨hE.cell (by simp [go_sem]), hE.cell (by simp [go_sem]), hE.cell (by simp [go_sem]), hI.ext (by repeat (with_reducible first | assumption | exact Ext.refl _ | refine Ext.drew ?_ | refine Ext.drewN ?_ _ | refine Ext.alloc ?_ _ | (refine Ext.setCell ?_ ?sz _; case sz => (first | (simp; done) | (simp; omega))) | refine Ext.trans ?_ (by assumption)))⟩
    generalize w.heap.size = B at *
    replace S := hid S
    clear hE hB hI
    have m0 := S.out.m0; have m1 := S.out.m1; have m2 := S.out.m2
    go_wp2_with fail
    try simp only [List.append_eq, List.cons_append, List.nil_append]
    go_region_held3 (fun w' => w'.cell? ⟨B, 0, none⟩ = some (.int .i64 m.L) ∧ w'.cell? ⟨B, 1, none⟩ = some (.int .i64 m.R) ∧ w'.cell? ⟨B, 2, none⟩ = some (.slice a m.hs.length cap) ∧ Ext w1 w') (((try go_split_ands); (repeat' apply And.intro) <;> (first | (with_reducible assumption) | exact Ext.cell (w := w1) (by repeat (with_reducible first | assumption | exact Ext.refl _ | refine Ext.drew ?_ | refine Ext.drewN ?_ _ | refine Ext.alloc ?_ _ | (refine Ext.setCell ?_ ?sz _; case sz => (first | (simp; done) | (simp; omega))) | refine Ext.trans ?_ (by assumption))) (by assumption) | exact (by repeat (with_reducible first | assumption | exact Ext.refl _ | refine Ext.drew ?_ | refine Ext.drewN ?_ _ | refine Ext.alloc ?_ _ | (refine Ext.setCell ?_ ?sz _; case sz => (first | (simp; done) | (simp; omega))) | refine Ext.trans ?_ (by assumption)))))) (first | (go_at_call 55; refine (tilted_any tn ht _).mono ?_; rintro e w2 ⟨rfl, hE⟩))
    obtain ⟨t0, t1⟩ := tiltOf_bd tn
    generalize tiltOf tn = t at *
    have tI : I64 t := ⟨by omega, by omega⟩
    have i0 := Int.emod_nonneg wi (b := (m.hs.length : Int) + 2) (by omega)
    have i1 := Int.emod_lt_of_pos wi (b := (m.hs.length : Int) + 2) (by omega)
    have nz : ¬ ((m.hs.length : Int) + 2 = 0) := by omega
    (have x : Ext w1 w2 := (by repeat (with_reducible first | assumption | exact Ext.refl _ | refine Ext.drew ?_ | refine Ext.drewN ?_ _ | refine Ext.alloc ?_ _ | (refine Ext.setCell ?_ ?sz _; case sz => (first | (simp; done) | (simp; omega))) | refine Ext.trans ?_ (by assumption))); replace S := hid (S.out.ext x); replace X := hid (X.out.trans x); clear x hE m0 m1 m2; have m0 := S.out.m0; have m1 := S.out.m1; have m2 := S.out.m2; go_wp2_with fail)
    obtain ⟨i, hi⟩ : ∃ i : Int, wi % ((m.hs.length : Int) + 2) - 1 = i := ⟨_, rfl⟩
    rw [hi]
    have j0 : -1 ≤ i := by omega
    have j1 : i ≤ m.hs.length := by omega
    clear hi i0 i1 nz
    go_upto_region 5 with (fail)
    go_cut [12] (fun p wx => ∃ D g cx : Nat, p = .pointer (some ⟨D, 0, none⟩) ∧ Hid (SideB wx D g cx 2 w2.heap.size m m.hs.length) ∧ Ext w2 wx)
    case first =>
      have hIa := S.out.i
      replace hIa := hid hIa
      go_region_held3 (fun w' => w'.cell? ⟨B, 0, none⟩ = some (.int .i64 m.L) ∧ w'.cell? ⟨B, 1, none⟩ = some (.int .i64 m.R) ∧ w'.cell? ⟨B, 2, none⟩ = some (.slice a m.hs.length cap) ∧ Ext w2 w') (((try go_split_ands); (repeat' apply And.intro) <;> (first | (with_reducible assumption) | exact Ext.cell (w := w2) (by repeat (with_reducible first | assumption | exact Ext.refl _ | refine Ext.drew ?_ | refine Ext.drewN ?_ _ | refine Ext.alloc ?_ _ | (refine Ext.setCell ?_ ?sz _; case sz => (first | (simp; done) | (simp; omega))) | refine Ext.trans ?_ (by assumption))) (by assumption) | exact (by repeat (with_reducible first | assumption | exact Ext.refl _ | refine Ext.drew ?_ | refine Ext.drewN ?_ _ | refine Ext.alloc ?_ _ | (refine Ext.setCell ?_ ?sz _; case sz => (first | (simp; done) | (simp; omega))) | refine Ext.trans ?_ (by assumption)))))) (first | (go_at_call 59; refine (longs_any _ _).mono ?_; rintro e wa ⟨rfl, rfl⟩) | (rw [if_pos (by rfl)]; refine appFreshI_wp _ _ _ rfl 2 Try.underlying22 elemI64x m.hs _ rfl a cap rfl ?c2 (by omega) (by omega) ?_; (case c2 => exact hIa.out.ext (by repeat (with_reducible first | assumption | exact Ext.refl _ | refine Ext.drew ?_ | refine Ext.drewN ?_ _ | refine Ext.alloc ?_ _ | (refine Ext.setCell ?_ ?sz _; case sz => (first | (simp; done) | (simp; omega))) | refine Ext.trans ?_ (by assumption)))); intro cp w3 ho3 hE3; (try simp at ho3); (try ((first | have s := newB_of hE3 | have s := newB_of (Ext.trans (Ext.drew (Ext.refl _)) hE3)); have sa := s.c0; have sb := s.c1; have sc := s.c2; have sd := s.f0; have se := s.f1; have sf := s.f2; have sg := s.lt)); have r3 := hE3.size; (try simp at r3)))
      all_goals
        go_wp2_with fail
        go_meet
        case rel =>
          first
            | refine ⟨w3.heap.size, w2.heap.size, cp, rfl, ?_⟩
            | refine ⟨w2.heap.size, w2.heap.size + 1, cp, rfl, ?_⟩
          have zz := (OwnI.block ho3 _ rfl).2
          try simp only at zz
          refine ⟨hid ⟨(by simp [go_sem, *]; done), (by simp [go_sem, *]; done), (by simp [go_sem, *]; done), (by simp [go_sem, *]; done), (by simp [go_sem, *]; done), ?_, (by first | omega | (simp; done) | (simp; omega)), (by first | omega | (simp; done) | (simp; omega)), (by first | omega | (simp; done) | (simp; omega))⟩, (by repeat (with_reducible first | assumption | exact Ext.refl _ | refine Ext.drew ?_ | refine Ext.drewN ?_ _ | refine Ext.alloc ?_ _ | (refine Ext.setCell ?_ ?sz _; case sz => (first | (simp; done) | (simp; omega))) | refine Ext.trans ?_ (by assumption)))⟩
          first
            | exact OwnI.mono (OwnI.put (OwnI.put (OwnI.put ho3 (by simp) _) (by simp) _) (by simp) _) (by omega)
            | exact OwnI.ext ho3 (by repeat (with_reducible first | assumption | exact Ext.refl _ | refine Ext.drew ?_ | refine Ext.drewN ?_ _ | refine Ext.alloc ?_ _ | (refine Ext.setCell ?_ ?sz _; case sz => (first | (simp; done) | (simp; omega))) | refine Ext.trans ?_ (by assumption)))
    case rest =>
      obtain ⟨D, g, cx, rfl, hT, hW⟩ := hcut
      obtain ⟨w3, rfl⟩ : ∃ w3 : World, w3 = wc := ⟨_, rfl⟩
      have s0 := hT.out.d0
      have s1 := hT.out.d1
      have s2 := hT.out.d2
      have s3 := hT.out.e0
      have s4 := hT.out.e1
      have zD := cell_lt s0
      simp only at zD
      have zb := hT.out.bD
      have hIg : Hid (Ints w3 (some ⟨g, 0, none⟩) m.hs) := hid (by obtain ⟨_, _, e, h⟩ := hT.out.ow.slice; cases e; exact h)
      have zg := hT.out.bg
      have zn := hT.out.ne
      have bl0 := v.l0
      have bl1 := v.l1
      have br0 := v.r0
      have br1 := v.r1
      replace m0 := hW.cell m0
      replace m1 := hW.cell m1
      replace m2 := hW.cell m2
      go_upto_if 45 with (fail)
      go_cut [] (fun wx => ∃ x : Meas, Hid (Hi m x i) ∧ Hid (wx.cell? ⟨D, 0, none⟩ = some (.int .i64 x.L) ∧ wx.cell? ⟨D, 1, none⟩ = some (.int .i64 x.R) ∧ wx.cell? ⟨D, 2, none⟩ = some (.slice (some ⟨g, 0, none⟩) m.hs.length cx) ∧ Ints wx (some ⟨g, 0, none⟩) x.hs) ∧ Ext w2 wx)
      case first =>
        by_cases c1 : i < 0
        · by_cases c2 : m.L + d < 100
          · go_wp2_with fail
            go_meet
            case rel =>
              refine ⟨⟨min 100 (m.L + d), m.R, m.hs⟩, hid (by have := hi_left v d0; rwa [show (-1 : Int) = i by omega] at this), hid ⟨?_, ?_, ?_, Ints.put hIg.out (by simp; omega) _⟩, (by repeat (with_reducible first | assumption | exact Ext.refl _ | refine Ext.drew ?_ | refine Ext.drewN ?_ _ | refine Ext.alloc ?_ _ | (refine Ext.setCell ?_ ?sz _; case sz => (first | (simp; done) | (simp; omega))) | refine Ext.trans ?_ (by assumption)))⟩
              · show _ = some (Value.int .i64 (min 100 (m.L + d)))
                rw [show min 100 (m.L + d) = m.L + d by omega]
                simp [go_sem, *]
              · simp [go_sem, *]
              · simp [go_sem, *]
          · go_wp2_with fail
            go_meet
            case rel =>
              refine ⟨⟨min 100 (m.L + d), m.R, m.hs⟩, hid (by have := hi_left v d0; rwa [show (-1 : Int) = i by omega] at this), hid ⟨?_, ?_, ?_, Ints.put hIg.out (by simp; omega) _⟩, (by repeat (with_reducible first | assumption | exact Ext.refl _ | refine Ext.drew ?_ | refine Ext.drewN ?_ _ | refine Ext.alloc ?_ _ | (refine Ext.setCell ?_ ?sz _; case sz => (first | (simp; done) | (simp; omega))) | refine Ext.trans ?_ (by assumption)))⟩
              · show _ = some (Value.int .i64 (min 100 (m.L + d)))
                rw [show min 100 (m.L + d) = 100 by omega]
                simp [go_sem, *]
              · simp [go_sem, *]
              · simp [go_sem, *]
        · by_cases c3' : i = m.hs.length
          · have c3 := hid c3'
            have hb : (i == (m.hs.length : Int)) = true := by simp [c3']
            have hhi := hid (show Hi m ⟨m.L, min 100 (m.R + d), m.hs⟩ i by have := hi_right v d0; rwa [← c3'] at this)
            clear c3'
            by_cases c2 : m.R + d < 100
            · go_wp2_with fail
              go_meet
              case rel =>
                refine ⟨⟨m.L, min 100 (m.R + d), m.hs⟩, hhi, hid ⟨?_, ?_, ?_, Ints.put hIg.out (by simp; omega) _⟩, (by repeat (with_reducible first | assumption | exact Ext.refl _ | refine Ext.drew ?_ | refine Ext.drewN ?_ _ | refine Ext.alloc ?_ _ | (refine Ext.setCell ?_ ?sz _; case sz => (first | (simp; done) | (simp; omega))) | refine Ext.trans ?_ (by assumption)))⟩
                · simp [go_sem, *]
                · show _ = some (Value.int .i64 (min 100 (m.R + d)))
                  rw [show min 100 (m.R + d) = m.R + d by omega]
                  simp [go_sem, *]
                · simp [go_sem, *]
            · go_wp2_with fail
              go_meet
              case rel =>
                refine ⟨⟨m.L, min 100 (m.R + d), m.hs⟩, hhi, hid ⟨?_, ?_, ?_, Ints.put hIg.out (by simp; omega) _⟩, (by repeat (with_reducible first | assumption | exact Ext.refl _ | refine Ext.drew ?_ | refine Ext.drewN ?_ _ | refine Ext.alloc ?_ _ | (refine Ext.setCell ?_ ?sz _; case sz => (first | (simp; done) | (simp; omega))) | refine Ext.trans ?_ (by assumption)))⟩
                · simp [go_sem, *]
                · show _ = some (Value.int .i64 (min 100 (m.R + d)))
                  rw [show min 100 (m.R + d) = 100 by omega]
                  simp [go_sem, *]
                · simp [go_sem, *]
          · have q0 : 0 ≤ i := by omega
            have q1 : i < (m.hs.length : Int) := by omega
            have q2 : i.toNat < m.hs.length := by omega
            have hb : (i == (m.hs.length : Int)) = false := by simp [c3']
            have bk0 := v.h0 i.toNat
            have bk1 := v.h1 i.toNat
            obtain ⟨gc, gf, _, gz⟩ := hT.out.ow.facts q2
            have gow := hid hT.out.ow
            have hhi := hid (hi_place v d0 q2)
            rw [show ((i.toNat : Nat) : Int) = i by omega] at hhi
            have hne : ¬ g = D := zn
            clear c3'
            obtain ⟨y, hy⟩ : ∃ y, nth m.hs i.toNat = y := ⟨_, rfl⟩
            rw [hy] at gc bk0 bk1 hhi
            clear hy
            by_cases c2 : y + d < 100
            · have em := hid (show min 100 (y + d) = y + d by omega)
              have yw := Go.IntWalk.i64_in (y + d) (by omega)
              have yd := Go.IntWalk.i64_in d (by omega)
              go_wp2_with fail
              go_still_tail 13, (by kernel_rfl)
              change wpList _ _ _ _ _ w3.drew
              go_wp2_with fail
              clear yw yd
              go_meet
              case rel =>
                refine ⟨wth m i.toNat (min 100 (y + d)), hhi, hid ⟨?_, ?_, ?_, ?_⟩, (by repeat (with_reducible first | assumption | exact Ext.refl _ | refine Ext.drew ?_ | refine Ext.drewN ?_ _ | refine Ext.alloc ?_ _ | (refine Ext.setCell ?_ ?sz _; case sz => (first | (simp; done) | (simp; omega))) | refine Ext.trans ?_ (by assumption)))⟩
                · simp [go_sem, wth_L, *]
                · simp [go_sem, wth_R, *]
                · simp [go_sem, *]
                · rw [em.out]
                  obtain ⟨_, _, ee, hh⟩ := (OwnI.set (i := i.toNat) gow.out (y + d)).slice
                  cases ee
                  exact hh.ext (by repeat (with_reducible first | assumption | exact Ext.refl _ | refine Ext.drew ?_ | refine Ext.drewN ?_ _ | refine Ext.alloc ?_ _ | (refine Ext.setCell ?_ ?sz _; case sz => (first | (simp; done) | (simp; omega))) | refine Ext.trans ?_ (by assumption)))
            · have em := hid (show min 100 (y + d) = 100 by omega)
              have yw := Go.IntWalk.i64_in (y + d) (by omega)
              have yd := Go.IntWalk.i64_in d (by omega)
              go_wp2_with fail
              go_still_tail 13, (by kernel_rfl)
              change wpList _ _ _ _ _ w3.drew
              go_wp2_with fail
              clear yw yd
              go_meet
              case rel =>
                refine ⟨wth m i.toNat (min 100 (y + d)), hhi, hid ⟨?_, ?_, ?_, ?_⟩, (by repeat (with_reducible first | assumption | exact Ext.refl _ | refine Ext.drew ?_ | refine Ext.drewN ?_ _ | refine Ext.alloc ?_ _ | (refine Ext.setCell ?_ ?sz _; case sz => (first | (simp; done) | (simp; omega))) | refine Ext.trans ?_ (by assumption)))⟩
                · simp [go_sem, wth_L, *]
                · simp [go_sem, wth_R, *]
                · simp [go_sem, *]
                · rw [em.out]
                  obtain ⟨_, _, ee, hh⟩ := (OwnI.set (i := i.toNat) gow.out 100).slice
                  cases ee
                  exact hh.ext (by repeat (with_reducible first | assumption | exact Ext.refl _ | refine Ext.drew ?_ | refine Ext.drewN ?_ _ | refine Ext.alloc ?_ _ | (refine Ext.setCell ?_ ?sz _; case sz => (first | (simp; done) | (simp; omega))) | refine Ext.trans ?_ (by assumption)))
      case rest =>
        obtain ⟨x, hx, hX0, hW2⟩ := hcut
        obtain ⟨w4, rfl⟩ : ∃ w4 : World, w4 = wc := ⟨_, rfl⟩
        obtain ⟨p0, p1, p2, p3⟩ := hX0.out
        replace p3 := hid p3
        replace S := hid (S.out.ext hW2)
        replace X := hid (X.out.trans hW2)
        clear hX0 hW2 hW hT hIg s0 s1 s2 s3 s4 zD zb zg zn m0 m1 m2
        have m0 := S.out.m0; have m1 := S.out.m1; have m2 := S.out.m2
        have xl := hx.out.len
        have xv := hx.out.v
        go_wp2_with fail
        refine (depthsN_any m v m.L m.R rfl rfl a _ cap rfl t t0 t1 _ S.out.i).mono ?_; rintro e w5 ⟨a5, n5, c5, h5, rfl, hn5, hK, hE⟩
        rw [depths_len] at hn5
        subst hn5
        replace hK := hid hK
        (replace p0 := hE.cell p0; replace p1 := hE.cell p1; replace p2 := hE.cell p2; replace p3 := hid (p3.out.ext hE))
        (have x : Ext w4 w5 := (by repeat (with_reducible first | assumption | exact Ext.refl _ | refine Ext.drew ?_ | refine Ext.drewN ?_ _ | refine Ext.alloc ?_ _ | (refine Ext.setCell ?_ ?sz _; case sz => (first | (simp; done) | (simp; omega))) | refine Ext.trans ?_ (by assumption))); replace S := hid (S.out.ext x); replace X := hid (X.out.trans x); clear x hE m0 m1 m2; have m0 := S.out.m0; have m1 := S.out.m1; have m2 := S.out.m2; go_wp2_with fail)
        have xl2 := hid xl.symm
        clear xl
        refine (depthsN_any x xv x.L x.R rfl rfl _ _ cx xl2.out t t0 t1 _ p3.out).mono ?_; rintro e w6 ⟨a6, n6, c6, h6, rfl, hn6, hJ, hE⟩
        rw [depths_len, ← xl2.out] at hn6
        subst hn6
        replace hK := hid (hK.out.ext hE)
        (replace p0 := hE.cell p0; replace p1 := hE.cell p1; replace p2 := hE.cell p2; replace p3 := hid (p3.out.ext hE))
        (have x : Ext w5 w6 := (by repeat (with_reducible first | assumption | exact Ext.refl _ | refine Ext.drew ?_ | refine Ext.drewN ?_ _ | refine Ext.alloc ?_ _ | (refine Ext.setCell ?_ ?sz _; case sz => (first | (simp; done) | (simp; omega))) | refine Ext.trans ?_ (by assumption))); replace S := hid (S.out.ext x); replace X := hid (X.out.trans x); clear x hE m0 m1 m2; have m0 := S.out.m0; have m1 := S.out.m1; have m2 := S.out.m2; go_wp2_with fail)
        obtain ⟨b, off, rfl, _, z4⟩ := S.out.i.at (by omega)
        obtain ⟨b5, o5, rfl, _, z5⟩ := hK.out.at (by rw [depths_len]; omega)
        obtain ⟨b6, o6, rfl, _, z6⟩ := hJ.at (by rw [depths_len, ← xl2.out]; omega)
        rw [depths_len] at z5
        rw [depths_len, ← xl2.out] at z6
        replace z4 := hid z4
        replace z5 := hid z5
        replace z6 := hid z6
        clear hK hJ
        go_loopw [19] (fun u wr => ∃ k : Nat, k ≤ m.hs.length ∧ u = .int .i64 k ∧ Ext w6 wr) (fun u _ => (m.hs.length - intOf u).toNat)
        case atStart => exact ⟨0, by omega, rfl, Ext.refl _⟩
        case round =>
          obtain ⟨k, hk, rfl, hv⟩ := hrel
          by_cases hlt : k < m.hs.length
          · have g4 := hv.cell (z4.out k hlt)
            have g5 := hv.cell (z5.out k hlt)
            have g6 := hv.cell (z6.out k hlt)
            rw [depths_nth _ _ hlt] at g5
            rw [depths_nth _ _ (by rw [← xl2.out]; exact hlt)] at g6
            have g7 : wr.cell? ⟨g, k, none⟩ = some (.int .i64 (nth x.hs k)) := by
              obtain ⟨bb, oo, ee, h⟩ := (p3.out.ext hv) k (by rw [← xl2.out]; exact hlt)
              cases ee
              simpa using h
            have k0 := hv.cell m2
            have k1 := hv.cell p2
            have da : 0 ≤ dep m t k ∧ dep m t k ≤ 420 := depth_bd (f := k) v t0 t1 (by omega) (by omega)
            have db : 0 ≤ dep x t k ∧ dep x t k ≤ 420 := depth_bd (f := k) xv t0 t1 (by omega) (by rw [← xl2.out]; omega)
            have hlev := hx.out.level (t := t) hlt
            have hm0 := v.h0 k
            have hm1 := v.h1 k
            have hx0 := xv.h0 k
            have hx1 := xv.h1 k
            have hown : (k : Int) = i → dep x t k ≤ dep m t k := fun e => by
              have := hx.out.own (t := t) (by omega) (by omega)
              rw [← e] at this
              exact this
            have hoth : ¬ (k : Int) = i → dep m t k ≤ dep x t k := fun e => hx.out.other (t := t) (by omega) (by omega) e
            generalize dep m t k = aa at *
            generalize dep x t k = bb at *
            generalize nth m.hs k = mh at *
            generalize nth x.hs k = xh at *
            obtain ⟨da0, da1⟩ := da
            obtain ⟨db0, db1⟩ := db
            have y1 := Go.IntWalk.i64_in (aa + mh) (by omega)
            have y2 := Go.IntWalk.i64_in (bb + xh) (by omega)
            have f1 : decide (bb + xh < aa + mh) = false := by simp; omega
            clear m0 m1 m2 p0 p1 p2
            have HV := hid hv
            clear hv
            by_cases hki : (k : Int) = i
            · have hle := hown hki
              have f2 : ((k : Int) == i) = true := by simp [hki]
              have f3 : ((k : Int) != i) = false := by simp [hki]
              have f4 : decide (aa < bb) = false := by simp; omega
              clear hki hown hoth hle hlev
              go_wp2_with fail
              go_quiet (fail)
              clear y1 y2
              go_wp2
              go_roundw
              case rel => exact ⟨k + 1, by omega, by go_num, HV.out.trans (by repeat (with_reducible first | assumption | exact Ext.refl _ | refine Ext.drew ?_ | refine Ext.drewN ?_ _ | refine Ext.alloc ?_ _ | (refine Ext.setCell ?_ ?sz _; case sz => (first | (simp; done) | (simp; omega))) | refine Ext.trans ?_ (by assumption)))⟩
              case measure => simp [intOf] <;> omega
            · have hle := hoth hki
              have f2 : ((k : Int) == i) = false := by simp [hki]
              have f3 : ((k : Int) != i) = true := by simp [hki]
              have f4 : decide (bb < aa) = false := by simp; omega
              clear hki hown hoth hle hlev
              go_wp2_with fail
              go_quiet (fail)
              clear y1 y2
              go_wp2
              go_roundw
              case rel => exact ⟨k + 1, by omega, by go_num, HV.out.trans (by repeat (with_reducible first | assumption | exact Ext.refl _ | refine Ext.drew ?_ | refine Ext.drewN ?_ _ | refine Ext.alloc ?_ _ | (refine Ext.setCell ?_ ?sz _; case sz => (first | (simp; done) | (simp; omega))) | refine Ext.trans ?_ (by assumption)))⟩
              case measure => simp [intOf] <;> omega
          · have X6 := hid (X.out.trans hv)
            clear m0 m1 m2 p0 p1 p2 hv
            go_wp2_with fail
            refine (works_any _).mono ?_; rintro e wz ⟨rfl, hE⟩
            go_wp2_with fail
            go_ret
            exact ⟨ret_bool (by simp), X6.out.trans (by repeat (with_reducible first | assumption | exact Ext.refl _ | refine Ext.drew ?_ | refine Ext.drewN ?_ _ | refine Ext.alloc ?_ _ | (refine Ext.setCell ?_ ?sz _; case sz => (first | (simp; done) | (simp; omega))) | refine Ext.trans ?_ (by assumption)))⟩

end Go.Proofs.Ytogglbhidlnijaa
