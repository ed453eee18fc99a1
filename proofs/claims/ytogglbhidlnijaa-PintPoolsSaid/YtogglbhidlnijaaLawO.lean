/- The law PintPools, walked. -/
import Derived.Test.YtogglbhidlnijaaLawB
import Derived.Test.YtogglbhidlnijaaPlainD
import Derived.IntWalk
import Derived.BigQuiet
import Derived.Deep.QuietTactic
import Derived.Deep.DeepCutAuto
namespace Go.Proofs.Ytogglbhidlnijaa
set_option linter.unusedVariables false
set_option linter.unusedSimpArgs false
set_option linter.unusedSectionVars false
set_option linter.unnecessarySimpa false
open Go Go.RowKit
set_option maxRecDepth 100000


theorem sub_next (h s d s' : Int) (e : s' = s + d) : h - s - d = h - s' := by
  subst e; omega
theorem over_wet {m : Meas} {t i : Int} (hp : plc m t i = 0) (h : depth m t i ≠ 0) : overE m t i = 0 ∧ overOf m t i = sideOf m t i := by
  have e : overE m t i = 0 := by unfold overE; rw [if_neg (by simp [hp]), if_neg h]
  exact ⟨e, by unfold overOf; rw [if_pos e]⟩

set_option maxHeartbeats 8000000 in
theorem pintPools_any (m : Meas) (q : Fit m) (a : Option Addr) (cap : Nat) (tn : Int) (w : World) (hI : Ints w a m.hs) (hl : m.hs.length ≤ 9223372036854775807) (ht : -128 ≤ tn ∧ tn ≤ 127) :
    Calls Try.prog 8 #[(.agg #[.int .i64 m.L, .int .i64 m.R, .slice a m.hs.length cap]), .int .i8 tn] w fun e w' => e = .returned (.bool true) ∧ Ext w w' := by
  have hB := (Ext.refl w).alloc (.cells #[.int .i64 m.L, .int .i64 m.R, .slice a m.hs.length cap] 24)
  by_cases v : Vld m
  case neg =>
    go_enter Try.func8, Try.ntmps8
    go_wp2_with fail
    refine (fine_no m q v a cap _ (hI.ext (by repeat (with_reducible first | assumption | exact Ext.refl _ | refine Ext.drew ?_ | refine Ext.drewN ?_ _ | refine Ext.alloc ?_ _ | (refine Ext.setCell ?_ ?sz _; case sz => (first | (simp; done) | (simp; omega))) | refine Ext.trans ?_ (by assumption)))) hl).mono ?_; rintro e w1 ⟨rfl, hE⟩
    go_wp2_with fail
    refine (works_any _).mono ?_; rintro e w2 ⟨rfl, hE2⟩
    go_wp2_with fail
    go_ret
    exact ⟨rfl, (by repeat (with_reducible first | assumption | exact Ext.refl _ | refine Ext.drew ?_ | refine Ext.drewN ?_ _ | refine Ext.alloc ?_ _ | (refine Ext.setCell ?_ ?sz _; case sz => (first | (simp; done) | (simp; omega))) | refine Ext.trans ?_ (by assumption)))⟩
  case pos =>
    have n1 := v.n1
    have n8 := v.n8
    have hl' : m.hs.length ≤ 1000 := by omega
    go_enter Try.func8, Try.ntmps8
    go_wp2_with fail
    refine (fine_yes m v a cap _ (hI.ext (by repeat (with_reducible first | assumption | exact Ext.refl _ | refine Ext.drew ?_ | refine Ext.drewN ?_ _ | refine Ext.alloc ?_ _ | (refine Ext.setCell ?_ ?sz _; case sz => (first | (simp; done) | (simp; omega))) | refine Ext.trans ?_ (by assumption))))).mono ?_; rintro e w1 ⟨rfl, hE⟩
    have X : Hid (Ext w w1) := hid (by repeat (with_reducible first | assumption | exact Ext.refl _ | refine Ext.drew ?_ | refine Ext.drewN ?_ _ | refine Ext.alloc ?_ _ | (refine Ext.setCell ?_ ?sz _; case sz => (first | (simp; done) | (simp; omega))) | refine Ext.trans ?_ (by assumption)))
    have S : MS w.heap.size m a cap w1 := ⟨hE.cell (by simp [go_sem]), hE.cell (by simp [go_sem]), hE.cell (by simp [go_sem]), hI.ext (by repeat (with_reducible first | assumption | exact Ext.refl _ | refine Ext.drew ?_ | refine Ext.drewN ?_ _ | refine Ext.alloc ?_ _ | (refine Ext.setCell ?_ ?sz _; case sz => (first | (simp; done) | (simp; omega))) | refine Ext.trans ?_ (by assumption)))⟩
    generalize w.heap.size = B at *
    replace S := hid S
    clear hE hB hI
    have m0 := S.out.m0; have m1 := S.out.m1; have m2 := S.out.m2
    go_wp2_with fail
    refine (tilted_any tn ht _).mono ?_; rintro e w2 ⟨rfl, hE⟩
    obtain ⟨t0, t1⟩ := tiltOf_bd tn
    generalize tiltOf tn = t at *
    have tI : I64 t := ⟨by omega, by omega⟩
    have hT : Tl m t := ⟨v, t0, t1⟩
    (have x : Ext w1 w2 := (by repeat (with_reducible first | assumption | exact Ext.refl _ | refine Ext.drew ?_ | refine Ext.drewN ?_ _ | refine Ext.alloc ?_ _ | (refine Ext.setCell ?_ ?sz _; case sz => (first | (simp; done) | (simp; omega))) | refine Ext.trans ?_ (by assumption))); replace S := hid (S.out.ext x); replace X := hid (X.out.trans x); clear x hE m0 m1 m2; have m0 := S.out.m0; have m1 := S.out.m1; have m2 := S.out.m2; go_wp2_with fail)
    refine (depthsL_any m v a cap t t0 t1 _ (S.out.i.ext (by repeat (with_reducible first | assumption | exact Ext.refl _ | refine Ext.drew ?_ | refine Ext.drewN ?_ _ | refine Ext.alloc ?_ _ | (refine Ext.setCell ?_ ?sz _; case sz => (first | (simp; done) | (simp; omega))) | refine Ext.trans ?_ (by assumption))))).mono ?_; rintro e w3 ⟨a3, c3, rfl, hK, hE⟩
    replace hK := hid hK
    (have x : Ext w2 w3 := (by repeat (with_reducible first | assumption | exact Ext.refl _ | refine Ext.drew ?_ | refine Ext.drewN ?_ _ | refine Ext.alloc ?_ _ | (refine Ext.setCell ?_ ?sz _; case sz => (first | (simp; done) | (simp; omega))) | refine Ext.trans ?_ (by assumption))); replace S := hid (S.out.ext x); replace X := hid (X.out.trans x); clear x hE m0 m1 m2; have m0 := S.out.m0; have m1 := S.out.m1; have m2 := S.out.m2; go_wp2_with fail)
    refine (pools_any m v.fit a cap t _ S.out.i hl' tI).mono ?_; rintro e w4 ⟨a4, c4, rfl, hP, hE⟩
    have ep : poolsOf m t = pls m t m.hs.length := by unfold poolsOf; rw [if_pos (tlt_ok.2 hT)]
    rw [ep] at hP ⊢
    rw [tlt_ok.2 hT]
    have PI := hid (pools_in m t m.hs.length (Nat.le_refl _))
    have pl : (pls m t m.hs.length).length ≤ m.hs.length := (pls_bd m t m.hs.length).1
    generalize pls m t m.hs.length = p at *
    clear ep
    replace hP := hid hP
    replace hK := hid (hK.out.ext hE)
    have hd : decide (m.hs.length < p.length) = false := by simp; omega
    obtain ⟨b1, o1, rfl, _, y1⟩ := hK.out.at (by rw [depths_len]; omega)
    replace y1 : Hid (∀ j, j < m.hs.length → w4.cell? ⟨b1, o1 + j, none⟩ = some (.int .i64 (dep m t j))) := hid fun j hj => by have := y1 j (by rw [depths_len]; exact hj); rwa [depths_nth _ _ hj] at this
    (have x : Ext w3 w4 := (by repeat (with_reducible first | assumption | exact Ext.refl _ | refine Ext.drew ?_ | refine Ext.drewN ?_ _ | refine Ext.alloc ?_ _ | (refine Ext.setCell ?_ ?sz _; case sz => (first | (simp; done) | (simp; omega))) | refine Ext.trans ?_ (by assumption))); replace S := hid (S.out.ext x); replace X := hid (X.out.trans x); clear x hE m0 m1 m2; have m0 := S.out.m0; have m1 := S.out.m1; have m2 := S.out.m2; go_wp2_with fail)
    have H0 := hid (holds_bd v t0 t1)
    have HS := hid (sum_bd v t0 t1)
    have HD : Hid (∀ j : Nat, j < m.hs.length → 0 ≤ dep m t j ∧ dep m t j ≤ 420) := hid fun j hj => depth_bd v t0 t1 (by omega) (by omega)
    replace hT := hid hT
    clear hK hd
    go_loopw [7, 11, 12] (fun s x y wr => ∃ k : Nat, k ≤ p.length ∧ y = .int .i64 k ∧ x = .int .i64 (nx p k : Nat) ∧ s = .int .i64 (holds m t - sumTo (dep m t) (nx p k)) ∧ Ext w4 wr) (fun _ _ y _ => (p.length - intOf y).toNat)
    case atStart => exact ⟨0, by omega, rfl, rfl, by simp [nx, sumTo], Ext.refl _⟩
    case round =>
      obtain ⟨k, hk, rfl, rfl, rfl, hw⟩ := hrel
      obtain ⟨wo, rfl⟩ : ∃ wo : World, wo = wr := ⟨_, rfl⟩
      by_cases hlt : k < p.length
      · obtain ⟨A, E, PA⟩ := PI.out.pool hlt
        obtain ⟨b2, o2, rfl, _, z2⟩ := hP.out.at (by omega)
        have pc0 := hw.cell (z2 k hlt).1
        have pc1 := hw.cell (z2 k hlt).2
        rw [PA.ea] at pc0
        rw [PA.eb] at pc1
        clear z2 hP
        replace m0 := hw.cell m0
        replace m1 := hw.cell m1
        replace m2 := hw.cell m2
        have SI := hid (S.out.i.ext hw)
        have PAB := PA.ab
        have PBN := PA.bn
        have PNA := PA.le
        have PLT := PA.lt
        have NB : nx p k ≤ m.hs.length := by omega
        have hdry := hid (sumTo_dry A PA.le PA.dry)
        have hDA := hid (HD.out A (by omega))
        have cA := hw.cell (y1.out A (by omega))
        have hnxt := hid PA.nxt
        have hpA : plc m t (A : Int) = 0 := plc_ok.2 ⟨hT.out, by omega, by omega⟩
        have hovA := hid (over_wet hpA (PA.wet A (Nat.le_refl _) PAB).1)
        replace hpA := hid hpA
        have HW := hid hw
        have y2 : Hid (∀ j, j < m.hs.length → wo.cell? ⟨b1, o1 + j, none⟩ = some (.int .i64 (dep m t j))) := hid fun j hj => hw.cell (y1.out j hj)
        have hdr := hid PA.dry
        have f1 : decide (A < nx p k) = false := by simp; omega
        have f2 : decide (E < A) = false := by simp; omega
        have f3 : decide (m.hs.length ≤ E) = false := by simp; omega
        have HP := hid PA
        clear PA hw
        generalize nx p k = N at *
        go_upto_region 12 with (fail)
        go_cut [97] (fun c wx => c = .bool false ∧ Ext wo wx)
        case first =>
          by_cases k0 : 0 < k
          all_goals
            (try have f4 : ((A : Int) == (N : Int)) = false := by (have := PLT k0; rw [beq_eq_false_iff_ne]; omega))
            (try have f5 : (A == N) = false := by (have := PLT k0; rw [beq_eq_false_iff_ne]; omega))
            (try have f6 : decide (0 < k) = false := by simpa using k0)
            (try have f7 : decide ((0 : Int) < (k : Int)) = false := by (simp; omega))
            go_quiet (fail)
            go_wp2_with fail
            go_meet
            case rel => exact ⟨rfl, (by repeat (with_reducible first | assumption | exact Ext.refl _ | refine Ext.drew ?_ | refine Ext.drewN ?_ _ | refine Ext.alloc ?_ _ | (refine Ext.setCell ?_ ?sz _; case sz => (first | (simp; done) | (simp; omega))) | refine Ext.trans ?_ (by assumption)))⟩
        case rest =>
          obtain ⟨rfl, hC⟩ := hcut
          obtain ⟨wp, rfl⟩ : ∃ wp : World, wp = wc := ⟨_, rfl⟩
          replace pc0 := hC.cell pc0
          replace pc1 := hC.cell pc1
          replace m0 := hC.cell m0
          replace m1 := hC.cell m1
          replace m2 := hC.cell m2
          replace cA := hC.cell cA
          replace y2 : Hid (∀ j, j < m.hs.length → wp.cell? ⟨b1, o1 + j, none⟩ = some (.int .i64 (dep m t j))) := hid fun j hj => hC.cell (y2.out j hj)
          replace SI := hid (SI.out.ext hC)
          replace HW := hid (HW.out.trans hC)
          clear hC PLT
          go_wp2_with fail
          go_loop [11] (fun x => ∃ j : Nat, N ≤ j ∧ j ≤ A ∧ x = .int .i64 j) (fun x => (A - intOf x).toNat)
          case atStart => exact ⟨N, Nat.le_refl _, PNA, rfl⟩
          case round =>
            obtain ⟨j, j0, j1, rfl⟩ := hrel
            by_cases hj : j < A
            · have cj := y2.out j (by omega)
              rw [hdr.out j j0 hj] at cj
              go_wp2_with fail
              go_round
              case rel => exact ⟨j + 1, by omega, by omega, by go_num⟩
              case measure => simp [intOf] <;> omega
            · obtain rfl : A = j := by omega
              have hovA' := hovA.out
              have SIo := SI.out
              replace SIo := hid SIo
              go_wp2_with fail
              go_region_held3 (fun w' => w'.cell? ⟨B, 0, none⟩ = some (.int .i64 m.L) ∧ w'.cell? ⟨B, 1, none⟩ = some (.int .i64 m.R) ∧ w'.cell? ⟨B, 2, none⟩ = some (.slice a m.hs.length cap) ∧ w'.cell? ⟨b2, o2 + k * 2, none⟩ = some (.int .i64 (A : Int)) ∧ w'.cell? ⟨b2, o2 + k * 2 + 1, none⟩ = some (.int .i64 (E : Int)) ∧ Ext wp w') (((try go_split_ands); (repeat' apply And.intro) <;> (first | (with_reducible assumption) | exact Ext.cell (w := wp) (by repeat (with_reducible first | assumption | exact Ext.refl _ | refine Ext.drew ?_ | refine Ext.drewN ?_ _ | refine Ext.alloc ?_ _ | (refine Ext.setCell ?_ ?sz _; case sz => (first | (simp; done) | (simp; omega))) | refine Ext.trans ?_ (by assumption))) (by assumption) | exact (by repeat (with_reducible first | assumption | exact Ext.refl _ | refine Ext.drew ?_ | refine Ext.drewN ?_ _ | refine Ext.alloc ?_ _ | (refine Ext.setCell ?_ ?sz _; case sz => (first | (simp; done) | (simp; omega))) | refine Ext.trans ?_ (by assumption)))))) (first | (go_at_call 23; refine (over_any m v.fit a cap t A _ (SIo.out.ext (by repeat (with_reducible first | assumption | exact Ext.refl _ | refine Ext.drew ?_ | refine Ext.drewN ?_ _ | refine Ext.alloc ?_ _ | (refine Ext.setCell ?_ ?sz _; case sz => (first | (simp; done) | (simp; omega))) | refine Ext.trans ?_ (by assumption)))) hl' tI ⟨by omega, by omega⟩).mono ?_; rintro e wa ⟨rfl, hEa⟩; rw [hovA'.1, hovA'.2]))
              have ea : Ext wp wa := (by repeat (with_reducible first | assumption | exact Ext.refl _ | refine Ext.drew ?_ | refine Ext.drewN ?_ _ | refine Ext.alloc ?_ _ | (refine Ext.setCell ?_ ?sz _; case sz => (first | (simp; done) | (simp; omega))) | refine Ext.trans ?_ (by assumption)))
              replace pc0 := ea.cell pc0
              replace pc1 := ea.cell pc1
              replace m0 := ea.cell m0
              replace m1 := ea.cell m1
              replace m2 := ea.cell m2
              replace cA := ea.cell cA
              replace y2 : Hid (∀ j, j < m.hs.length → wa.cell? ⟨b1, o1 + j, none⟩ = some (.int .i64 (dep m t j))) := hid fun j hj => ea.cell (y2.out j hj)
              replace SI := hid (SI.out.ext ea)
              replace HW := hid (HW.out.trans ea)
              have hside : Hid (∀ j : Nat, A ≤ j → j ≤ E → sideOf m t j = sideOf m t A) := hid fun j h0 h1 => HP.out.side h0 h1
              clear SIo hEa ea hovA' hovA hT hdr y1 X S
              generalize sideOf m t A = sd at *
              go_wp2_with fail
              go_loopw [7, 11] (fun s x wr => ∃ j : Nat, A ≤ j ∧ j ≤ E + 1 ∧ x = .int .i64 j ∧ s = .int .i64 (holds m t - sumTo (dep m t) j) ∧ Ext wa wr) (fun _ x _ => (E + 1 - intOf x).toNat)
              case atStart => exact ⟨A, Nat.le_refl _, by omega, rfl, by rw [hdry.out], Ext.refl _⟩
              case round =>
                obtain ⟨j, j0, j1, rfl, rfl, hv⟩ := hrel
                obtain ⟨wb, rfl⟩ : ∃ wb : World, wb = wr := ⟨_, rfl⟩
                by_cases hj : j ≤ E
                · have hpj : plc m t (j : Int) = 0 := plc_ok.2 ⟨⟨v, t0, t1⟩, by omega, by omega⟩
                  have hwet := (HP.out.wet j j0 hj).1
                  have hov := over_wet hpj hwet
                  rw [hside.out j j0 hj] at hov
                  have hlev := HP.out.lev j0 hj
                  have cj := hv.cell (y2.out j (by omega))
                  have cA' := hv.cell cA
                  have p0 := hv.cell pc0
                  have p1 := hv.cell pc1
                  have q0 := hv.cell m0
                  have q1 := hv.cell m1
                  have q2 := hv.cell m2
                  have SJ := hid (SI.out.ext hv)
                  obtain ⟨dj0, dj1⟩ := HD.out j (by omega)
                  obtain ⟨dA0, dA1⟩ := hDA.out
                  obtain ⟨s0, s1⟩ := HS.out j (by omega)
                  obtain ⟨ho0, ho1⟩ := H0.out
                  have aj := hAt_bd (i := (j : Int)) v t0 t1 (by omega) (by omega)
                  have aA := hAt_bd (i := (A : Int)) v t0 t1 (by omega) (by omega)
                  have hov := hid hov
                  have hsum := hid (show sumTo (dep m t) (j + 1) = sumTo (dep m t) j + dep m t j from rfl)
                  have z0 : (dep m t j == 0) = false := beq_eq_false_iff_ne.2 hwet
                  have w1' := Go.IntWalk.i64_in (dep m t j + hAt m t j) (by omega)
                  have w2' := Go.IntWalk.i64_in (dep m t A + hAt m t A) (by omega)
                  have z1 : (dep m t j + hAt m t j != dep m t A + hAt m t A) = false := by rw [hlev]; simp
                  have z2 : (sd != sd) = false := by simp
                  clear hlev hwet hpj pc0 pc1 m0 m1 m2 cA aj aA dA0 dA1
                  have HV := hid hv
                  go_wp2_with fail
                  refine (over_any m v.fit a cap t j _ SJ.out hl' tI ⟨by omega, by omega⟩).mono ?_; rintro e wd ⟨rfl, hEc⟩
                  rw [hov.out.1, hov.out.2]
                  replace cj := hEc.cell cj
                  replace cA' := hEc.cell cA'
                  replace p0 := hEc.cell p0
                  replace p1 := hEc.cell p1
                  replace q0 := hEc.cell q0
                  replace q1 := hEc.cell q1
                  replace q2 := hEc.cell q2
                  replace SJ := hid (SJ.out.ext hEc)
                  replace HV := hid (HV.out.trans hEc)
                  clear hEc hov hv
                  go_wp2_with fail
                  have zz1 : (0 : Int) ≤ (j : Int) := Int.natCast_nonneg _
                  have zz2 : (j : Int) < (m.hs.length : Int) := by omega
                  have zz3 : (0 : Int) ≤ (A : Int) := Int.natCast_nonneg _
                  have zz4 : (A : Int) < (m.hs.length : Int) := by omega
                  have zz5 : (j : Int) ≤ (m.hs.length : Int) := by omega
                  have zz6 : (A : Int) ≤ (m.hs.length : Int) := by omega
                  have zz7 : j < m.hs.length := by omega
                  have zz8 : A < m.hs.length := by omega
                  go_upto_region 22 with (fail)
                  go_cut [185] (fun c wx => c = .bool false ∧ Ext wd wx)
                  case first =>
                    go_region_held3 (fun w' => w'.cell? ⟨B, 0, none⟩ = some (.int .i64 m.L) ∧ w'.cell? ⟨B, 1, none⟩ = some (.int .i64 m.R) ∧ w'.cell? ⟨B, 2, none⟩ = some (.slice a m.hs.length cap) ∧ w'.cell? ⟨b2, o2 + k * 2, none⟩ = some (.int .i64 (A : Int)) ∧ w'.cell? ⟨b2, o2 + k * 2 + 1, none⟩ = some (.int .i64 (E : Int)) ∧ w'.cell? ⟨b1, o1 + j, none⟩ = some (.int .i64 (dep m t j)) ∧ w'.cell? ⟨b1, o1 + A, none⟩ = some (.int .i64 (dep m t A)) ∧ Ext wd w') (((try go_split_ands); (repeat' apply And.intro) <;> (first | (with_reducible assumption) | exact Ext.cell (w := wd) (by repeat (with_reducible first | assumption | exact Ext.refl _ | refine Ext.drew ?_ | refine Ext.drewN ?_ _ | refine Ext.alloc ?_ _ | (refine Ext.setCell ?_ ?sz _; case sz => (first | (simp; done) | (simp; omega))) | refine Ext.trans ?_ (by assumption))) (by assumption) | exact (by repeat (with_reducible first | assumption | exact Ext.refl _ | refine Ext.drew ?_ | refine Ext.drewN ?_ _ | refine Ext.alloc ?_ _ | (refine Ext.setCell ?_ ?sz _; case sz => (first | (simp; done) | (simp; omega))) | refine Ext.trans ?_ (by assumption)))))) (first | (go_at_call 57; refine (height_any m v a cap t _ _ (SJ.out.ext (by repeat (with_reducible first | assumption | exact Ext.refl _ | refine Ext.drew ?_ | refine Ext.drewN ?_ _ | refine Ext.alloc ?_ _ | (refine Ext.setCell ?_ ?sz _; case sz => (first | (simp; done) | (simp; omega))) | refine Ext.trans ?_ (by assumption)))) t0 t1 (by omega) (by omega)).mono ?_; rintro e we ⟨rfl, hEd⟩))
                    all_goals
                      clear w1' w2' z1 z2 z0
                      go_wp2_with fail
                      go_meet
                      case rel => exact ⟨rfl, (by repeat (with_reducible first | assumption | exact Ext.refl _ | refine Ext.drew ?_ | refine Ext.drewN ?_ _ | refine Ext.alloc ?_ _ | (refine Ext.setCell ?_ ?sz _; case sz => (first | (simp; done) | (simp; omega))) | refine Ext.trans ?_ (by assumption)))⟩
                  case rest =>
                    obtain ⟨rfl, hC⟩ := hcut
                    clear w1' w2' z1 z2 z0
                    replace cj := hC.cell cj
                    have hv2 := hid (sub_next (holds m t) (sumTo (dep m t) j) (dep m t j) _ hsum.out)
                    have HV2 := HV.out.trans hC
                    clear hC p0 p1 q0 q1 q2 cA' SJ
                    go_wp2_with fail
                    go_roundw
                    case rel => exact ⟨j + 1, by omega, by omega, by go_num, by rw [hv2.out], HV2⟩
                    case measure => simp [intOf] <;> omega
                · have p1 := hv.cell pc1
                  have HV := hid (HW.out.trans hv)
                  clear hv
                  go_wp2_with fail
                  go_roundw
                  case rel => exact ⟨k + 1, by omega, by go_num, by rw [hnxt.out, show E + 1 = j by omega], by rw [hnxt.out, show E + 1 = j by omega], by have := HV.out; exact (by repeat (with_reducible first | assumption | exact Ext.refl _ | refine Ext.drew ?_ | refine Ext.drewN ?_ _ | refine Ext.alloc ?_ _ | (refine Ext.setCell ?_ ?sz _; case sz => (first | (simp; done) | (simp; omega))) | refine Ext.trans ?_ (by assumption)))⟩
                  case measure => simp [intOf] <;> omega
      · have e : k = p.length := by omega
        subst e
        have dry := hid PI.out.rest
        have NL := PI.out.nx_le (Nat.le_refl _)
        have e0 : holds m t - sumTo (dep m t) (nx p p.length) = 0 := by
          have := sumTo_dry (f := dep m t) m.hs.length NL PI.out.rest
          unfold holds; omega
        rw [e0]
        replace y1 : Hid (∀ j, j < m.hs.length → wo.cell? ⟨b1, o1 + j, none⟩ = some (.int .i64 (dep m t j))) := hid fun j hj => hw.cell (y1.out j hj)
        replace X := hid (X.out.trans hw)
        clear e0 hw hP
        generalize nx p p.length = N at *
        go_wp2_with fail
        go_loop [11] (fun x => ∃ j : Nat, N ≤ j ∧ j ≤ m.hs.length ∧ x = .int .i64 j) (fun x => (m.hs.length - intOf x).toNat)
        case atStart => exact ⟨N, Nat.le_refl _, NL, rfl⟩
        case round =>
          obtain ⟨j, j0, j1, rfl⟩ := hrel
          by_cases hj : j < m.hs.length
          · have cj := y1.out j hj
            rw [dry.out j j0 hj] at cj
            go_wp2_with fail
            go_round
            case rel => exact ⟨j + 1, by omega, by omega, by go_num⟩
            case measure => simp [intOf] <;> omega
          · go_wp2_with fail
            refine (works_any _).mono ?_; rintro e wz ⟨rfl, hEz⟩
            go_wp2_with fail
            go_ret
            exact ⟨ret_bool (by simp), X.out.trans (by repeat (with_reducible first | assumption | exact Ext.refl _ | refine Ext.drew ?_ | refine Ext.drewN ?_ _ | refine Ext.alloc ?_ _ | (refine Ext.setCell ?_ ?sz _; case sz => (first | (simp; done) | (simp; omega))) | refine Ext.trans ?_ (by assumption)))⟩

end Go.Proofs.Ytogglbhidlnijaa
