/- The law SearchUsed, walked. (Printed by wip/laws.) -/
import Derived.Test.YtommhgcgaclflaaZB7
import Derived.Test.YtommhgcgaclflaaZUsed31
import Derived.Test.YtommhgcgaclflaaZUsed34
import Derived.Test.YtommhgcgaclflaaZUsed33
import Derived.Test.YtommhgcgaclflaaLst
namespace Go.Proofs.Ytommhgcgaclflaa
set_option linter.unusedVariables false
set_option linter.unusedSimpArgs false
set_option linter.unusedSectionVars false
set_option linter.unnecessarySimpa false
open Go Go.RowKit Game
set_option maxRecDepth 100000

set_option maxHeartbeats 8000000 in
theorem searchUsed_any (t : List (List Int)) (q : FitT t) (a : Option Addr) (cap : Nat) (w : World) (hT : Tab w a t) (hl : t.length ≤ 9223372036854775807) (hw : ∀ i, (row t i).length ≤ 9223372036854775807) :
 Calls Try.prog 9 #[(.agg #[.slice a t.length cap])] w fun e w' => e = .returned (.bool true) ∧ Ext w w' := by
 have hT' := hid hT
 have hfi := hid (fun W hW => fineL_any t q a cap W hW hl hw)
 by_cases g : chkT t = 0
 case neg =>
  rw [decide_eq_false g] at hfi
  replace g := hid g
  clear hT hw hl
  go_enter Try.func9, Try.ntmps9
  go_wp2_with fail
  refine (hfi.out _ (hT'.out.ext (by repeat (with_reducible first | assumption | exact Ext.refl _ | refine Ext.drew ?_ | refine Ext.drewN ?_ _ | refine Ext.alloc ?_ _ | refine xS ?_ _ | refine xT ?_ (by assumption))))).mono ?_; rintro e w1 ⟨rfl, hE⟩
  go_wp2_with fail
  refine (works_any _).mono ?_; rintro e w2 ⟨rfl, hE2⟩
  go_wp2_with fail
  go_ret
  exact ⟨rfl, (by repeat (with_reducible first | assumption | exact Ext.refl _ | refine Ext.drew ?_ | refine Ext.drewN ?_ _ | refine Ext.alloc ?_ _ | refine xS ?_ _ | refine xT ?_ (by assumption)))⟩
 case pos =>
  rw [decide_eq_true g] at hfi
  have v := chkT_ok.1 g
  have v2 := turn_vld v
  have m1 := v.m1; have m4 := v.m4; have n1 := v.n1; have n4 := v.n4
  have hl1 : t.length ≤ 1000 := by omega
  have hw1 := hw_of v
  obtain ⟨b, off, B, O, CP, rfl, hb, hcc⟩ := hT.full (by omega) v.eq (by omega)
  have r00 := (hcc 0 (by omega)).1
  rw [Nat.add_zero] at r00
  have tl : (turn t).length = wid t := turn_len t
  have p1 := us_prt v
  have p2 := us_prt2 v
  have v1x := p1.vld v
  have v2x := p2.vld v
  have g1x := chkT_ok.2 v1x
  have g2x := chkT_ok.2 v2x
  have q1x : FitT _ := vld_fit v1x
  have q2x : FitT _ := vld_fit v2x
  have e1 : usedR t = nats (usL t) := by unfold usedR; rw [if_pos g, us_nats]
  have e2 : usedC t = nats (usL (turn t)) := by unfold usedC; rw [if_pos g, us_nats]
  obtain ⟨e3, e4⟩ := us_ansOf v
  have b1 := (bestL_vld v).len
  have b2 := (bestL_vld v2).len
  rw [tl] at b2
  have u4 : (usL t).length ≤ 4 := lst_len4 _
  have k4 : (usL (turn t)).length ≤ 4 := lst_len4 _
  have u1 := us_ne v
  have k1 := us_ne v2
  have a4 : (ansL t (bestL (turn t))).length ≤ t.length := ansTo_len _ _ _
  have h1 := hid (fun W hW => valueL_any t q g (some ⟨b, off, none⟩) cap W hW)
  have h2 := hid (fun W hW => usedP_any t q (some ⟨b, off, none⟩) cap W hW hl1 hw1)
  have h3 := hid (fun aa cc W hW hJ => answers_any t q (some ⟨b, off, none⟩) cap (bestL (turn t)) (best_i64 v2) (by omega) aa cc W hW hl1 hw1 hJ)
  have i1 := hid (fun aa cc W hI => isListL_yes (nats (usL t)) (t.length : Int) (fun i hi => by rw [nats_len] at hi; rw [nats_nth]; have := getD_lt p1.rb hi; omega) (fun i hi => by rw [nats_len] at hi; rw [nats_nth, nats_nth]; have := ss_lt (lst_ss (usedB t)) (i := i) (j := i + 1) (by omega) hi; unfold usL; omega) (by rw [nats_len]; omega) aa cc W hI)
  have i2 := hid (fun aa cc W hI => isListL_yes (nats (usL (turn t))) (wid t : Int) (fun i hi => by rw [nats_len] at hi; rw [nats_nth]; have := getD_lt p2.cb hi; omega) (fun i hi => by rw [nats_len] at hi; rw [nats_nth, nats_nth]; have := ss_lt (lst_ss (usedB (turn t))) (i := i) (j := i + 1) (by omega) hi; unfold usL; omega) (by rw [nats_len]; omega) aa cc W hI)
  have i3 := hid (fun aa cc W hI => isListL_yes (ansL t (bestL (turn t))) (t.length : Int) (ans_spec _ _ _).1 (ans_spec _ _ _).2 (by omega) aa cc W hI)
  have H1 : Hid (∀ i, i < (usL t).length → ∀ aa cc W, Ints W aa (ansL t (bestL (turn t))) → Calls Try.prog 48 #[.slice aa (ansL t (bestL (turn t))).length cc, .int .i64 (nth (nats (usL t)) i)] W fun e w' => e = .returned (.bool true) ∧ Ext W w') := hid fun i hi aa cc W hI => by
   obtain ⟨j, hj, ej⟩ := us_ans v (i := (usL t).getD i 0) (by rw [List.getD_eq_getElem?_getD, List.getElem?_eq_getElem hi]; exact List.getElem_mem hi)
   exact hasL_yes _ _ j hj (by rw [ej, nats_nth]) (by omega) aa cc W hI
  have HH : ∀ (s : List (List Int)) (vs : VldT s) (i : Nat), 0 < nth (bestL s) i → ∀ aa cc W, Ints W aa (nats (usL s)) → Calls Try.prog 48 #[.slice aa (nats (usL s)).length cc, .int .i64 (i : Int)] W fun e w' => e = .returned (.bool true) ∧ Ext W w' := fun s vs i hp aa cc W hI => by
   obtain ⟨j, hj, ej⟩ := at_of_mem (us_best vs hp)
   exact hasL_yes _ _ j (by rw [nats_len]; exact hj) (by rw [nats_nth, ej]) (by rw [nats_len]; have : (usL s).length ≤ 4 := lst_len4 _; omega) aa cc W hI
  have H2 := hid (HH t v)
  have H3 := hid (HH (turn t) v2)
  have hR1 := hid (listedR_allB t.length m4)
  have hR2 := hid (listedR_allB (wid t) n4)
  have hP1 := hid (fun ar ac cr cc W hW h1 h2 => partR_any t v (usL t) (List.range (wid t)) p1.rb p1.cb (by omega) (by rw [List.length_range]; omega) (some ⟨b, off, none⟩) cap ar ac cr cc W hW h1 h2)
  have hP2 := hid (fun ar ac cr cc W hW h1 h2 => partR_any t v (List.range t.length) (usL (turn t)) p2.rb p2.cb (by rw [List.length_range]; omega) (by omega) (some ⟨b, off, none⟩) cap ar ac cr cc W hW h1 h2)
  have hX1 := hid (fun aa cc W hW => valueL_any (ptab t (usL t) (List.range (wid t))) q1x g1x aa cc W hW)
  have hX2 := hid (fun aa cc W hW => valueL_any (ptab t (List.range t.length) (usL (turn t))) q2x g2x aa cc W hW)
  unfold RetL2 at h2
  unfold RetAns at h3
  unfold RetT at hP1 hP2
  rw [e1, e2, nats_len, nats_len, g] at h2
  rw [e3, e4, b2] at h3
  rw [nats_len] at i1 i2 H2 H3
  rw [ptab_len] at hP1 hP2 hX1 hX2
  rw [List.length_range] at hP1 hP2 hX2
  rw [us_val v, p1.wid, List.length_range] at hX1
  rw [us_val2 v, p2.wid] at hX2
  have sh1 := shl_oneB _ m4
  have sh2 := shl_oneB _ n4
  have sh3 := shl_allB _ m4
  have sh4 := shl_allB _ n4
  have eS : ∀ w, (Op.equalIn 10000 30 (.agg #[.int .i64 (val t).1, .int .i64 (val t).2]) (.agg #[.int .i64 (val t).1, .int .i64 (val t).2])).run Try.prog w = .ok true w := fun w => by rw [run_eqRatio, decide_eq_true ⟨rfl, rfl⟩]
  obtain ⟨vn, hvn⟩ : ∃ x, (val t).1 = x := ⟨_, rfl⟩
  obtain ⟨vd, hvd⟩ : ∃ x, (val t).2 = x := ⟨_, rfl⟩
  rw [hvn, hvd] at h1 hX1 hX2 eS
  have bb1 : ∀ i, 0 ≤ nth (bestL t) i := fun i => (bestL_vld v).nn i
  have bb2 : ∀ i, 0 ≤ nth (bestL (turn t)) i := fun i => (bestL_vld v2).nn i
  obtain ⟨P, hPP⟩ : ∃ P, (2 ^ t.length - 1 : Nat) = P := ⟨_, rfl⟩
  obtain ⟨P2, hPP2⟩ : ∃ P, (2 ^ wid t - 1 : Nat) = P := ⟨_, rfl⟩
  obtain ⟨Q1, hQ1⟩ : ∃ P, (2 ^ t.length : Nat) = P := ⟨_, rfl⟩
  obtain ⟨Q2, hQ2⟩ : ∃ P, (2 ^ wid t : Nat) = P := ⟨_, rfl⟩
  rw [hPP] at hR1 sh3
  rw [hPP2] at hR2 sh4
  rw [hQ1] at sh1 sh3
  rw [hQ2] at sh2 sh4
  have lL1 := nats_len (usL t)
  have lL2 := nats_len (usL (turn t))
  obtain ⟨T1, hT1⟩ : ∃ x, ptab t (usL t) (List.range (wid t)) = x := ⟨_, rfl⟩
  obtain ⟨T2, hT2⟩ : ∃ x, ptab t (List.range t.length) (usL (turn t)) = x := ⟨_, rfl⟩
  rw [hT1] at hP1 hX1
  rw [hT2] at hP2 hX2
  obtain ⟨N1, hN1⟩ : ∃ x, nats (List.range t.length) = x := ⟨_, rfl⟩
  obtain ⟨N2, hN2⟩ : ∃ x, nats (List.range (wid t)) = x := ⟨_, rfl⟩
  rw [hN1] at hR1 hP2
  rw [hN2] at hR2 hP1
  obtain ⟨L1, hL1⟩ : ∃ x, nats (usL t) = x := ⟨_, rfl⟩
  obtain ⟨L2, hL2⟩ : ∃ x, nats (usL (turn t)) = x := ⟨_, rfl⟩
  obtain ⟨L3, hL3⟩ : ∃ x, ansL t (bestL (turn t)) = x := ⟨_, rfl⟩
  obtain ⟨rl, hrl⟩ : ∃ x, bestL t = x := ⟨_, rfl⟩
  obtain ⟨kl, hkl⟩ : ∃ x, bestL (turn t) = x := ⟨_, rfl⟩
  rw [hL1] at h2 i1 H1 H2 hP1 lL1
  rw [hL2] at h2 i2 H3 hP2 lL2
  rw [hL3] at h3 i3 H1
  rw [hrl] at h1 H2 b1 bb1
  rw [hkl] at h1 h3 H3 b2 bb2
  obtain ⟨u, hu⟩ : ∃ x, (usL t).length = x := ⟨_, rfl⟩
  obtain ⟨z, hz⟩ : ∃ x, (usL (turn t)).length = x := ⟨_, rfl⟩
  obtain ⟨s, hs⟩ : ∃ x, L3.length = x := ⟨_, rfl⟩
  obtain ⟨m, hm⟩ : ∃ x, t.length = x := ⟨_, rfl⟩
  obtain ⟨n, hn⟩ : ∃ x, wid t = x := ⟨_, rfl⟩
  rw [hu] at h2 i1 H1 H2 hP1 hX1 lL1 u4 u1
  rw [hz] at h2 i2 H3 hP2 hX2 lL2 k4 k1
  rw [hs] at h3 i3 H1
  rw [hm] at h1 h2 h3 i1 i3 hfi hR1 hP1 hP2 hX2 sh1 m1 m4 b1 ⊢
  rw [hn] at h1 h3 i2 r00 hR2 hP1 hX1 sh2 n1 n4 b2
  have hm00 : 0 < m := by omega
  have hm0 : (0 : Int) < (m : Int) := by omega
  have hn00 : 0 < n := by omega
  have hu1 : ¬ (u : Int) < 1 := by omega
  have hz1 : ¬ (z : Int) < 1 := by omega
  have R0 := hid r00
  replace lL1 := hid lL1
  replace lL2 := hid lL2
  replace b1 := hid b1
  replace b2 := hid b2
  clear hT hw hl hl1 hw1 hb hcc r00 tl p1 p2 v1x v2x g1x g2x q1x q2x e1 e2 e3 e4 a4 HH hvn hvd bb1 bb2 hPP hPP2 hQ1 hQ2 hT1 hT2 hN1 hN2 hL1 hL2 hL3 hrl hkl hu hz hs hm hn v v2 g
  go_enter Try.func9, Try.ntmps9
  go_wp2_with fail
  refine (hfi.out _ (hT'.out.ext (by repeat (with_reducible first | assumption | exact Ext.refl _ | refine Ext.drew ?_ | refine Ext.drewN ?_ _ | refine Ext.alloc ?_ _ | refine xS ?_ _ | refine xT ?_ (by assumption))))).mono ?_; rintro e w1 ⟨rfl, hE⟩
  have mt0 := hid (hE.cell (p := ⟨w.heap.size, 0, none⟩) (v := .slice (some ⟨b, off, none⟩) m cap) (by simp [go_sem]))
  have X := hid (show Ext w w1 from (by repeat (with_reducible first | assumption | exact Ext.refl _ | refine Ext.drew ?_ | refine Ext.drewN ?_ _ | refine Ext.alloc ?_ _ | refine xS ?_ _ | refine xT ?_ (by assumption))))
  clear hE
  generalize w.heap.size = Bt at *
  have f0 := hid (X.out.cell R0.out)
  clear R0
  have r_mt0 := mt0.out
  have l_mt0 := cell_lt r_mt0
  dsimp only at l_mt0
  go_wp2_with fail
  refine (h1.out _ (hT'.out.ext (X.out.trans (show Ext w1 _ from (by repeat (with_reducible first | assumption | exact Ext.refl _ | refine Ext.drew ?_ | refine Ext.drewN ?_ _ | refine Ext.alloc ?_ _ | refine xS ?_ _ | refine xT ?_ (by assumption))))))).mono ?_; rintro e u1 ⟨ar, cr, ak, ck, rfl, lr_, lk_, hE⟩
  have x : Ext w1 u1 := (by repeat (with_reducible first | assumption | exact Ext.refl _ | refine Ext.drew ?_ | refine Ext.drewN ?_ _ | refine Ext.alloc ?_ _ | refine xS ?_ _ | refine xT ?_ (by assumption)))
  clear r_mt0 l_mt0
  replace mt0 := hid (x.cell mt0.out)
  replace f0 := hid (x.cell f0.out)
  replace X := hid (X.out.trans x)
  have lr := hid lr_
  clear lr_
  have lk := hid lk_
  clear lk_
  clear x hE
  have r_mt0 := mt0.out
  have l_mt0 := cell_lt r_mt0
  dsimp only at l_mt0
  go_wp2_with fail
  refine name_c (fun v2 hw => ?_)
  have x : Ext u1 v2 := by rw [hw]; exact (by repeat (with_reducible first | assumption | exact Ext.refl _ | refine Ext.drew ?_ | refine Ext.drewN ?_ _ | refine Ext.alloc ?_ _ | refine xS ?_ _ | refine xT ?_ (by assumption)))
  have bv0 := hid (show v2.cell? ⟨u1.heap.size, 0, none⟩ = some (.int .i64 vn) by rw [hw]; simp [go_sem])
  have bv1 := hid (show v2.cell? ⟨u1.heap.size, 1, none⟩ = some (.int .i64 vd) by rw [hw]; simp [go_sem])
  clear r_mt0 l_mt0
  replace mt0 := hid (x.cell mt0.out)
  replace f0 := hid (x.cell f0.out)
  replace lr := hid (lr.out.ext x)
  replace lk := hid (lk.out.ext x)
  replace X := hid (X.out.trans x)
  clear x hw
  generalize u1.heap.size = Bbv at *
  refine (h2.out _ (hT'.out.ext (X.out.trans (show Ext v2 _ from (by repeat (with_reducible first | assumption | exact Ext.refl _ | refine Ext.drew ?_ | refine Ext.drewN ?_ _ | refine Ext.alloc ?_ _ | refine xS ?_ _ | refine xT ?_ (by assumption))))))).mono ?_; rintro e u3 ⟨a1, c1, a2, c2, rfl, la_, lb_, hE⟩
  have x : Ext v2 u3 := (by repeat (with_reducible first | assumption | exact Ext.refl _ | refine Ext.drew ?_ | refine Ext.drewN ?_ _ | refine Ext.alloc ?_ _ | refine xS ?_ _ | refine xT ?_ (by assumption)))
  replace mt0 := hid (x.cell mt0.out)
  replace f0 := hid (x.cell f0.out)
  replace lr := hid (lr.out.ext x)
  replace lk := hid (lk.out.ext x)
  replace bv0 := hid (x.cell bv0.out)
  replace bv1 := hid (x.cell bv1.out)
  replace X := hid (X.out.trans x)
  have la := hid la_
  clear la_
  have lb := hid lb_
  clear lb_
  clear x hE
  have r_mt0 := mt0.out
  have l_mt0 := cell_lt r_mt0
  dsimp only at l_mt0
  go_wp2_with fail
  refine (h3.out _ _ _ (hT'.out.ext (X.out.trans (show Ext u3 _ from (by repeat (with_reducible first | assumption | exact Ext.refl _ | refine Ext.drew ?_ | refine Ext.drewN ?_ _ | refine Ext.alloc ?_ _ | refine xS ?_ _ | refine xT ?_ (by assumption)))))) (lk.out.ext (show Ext u3 _ from (by repeat (with_reducible first | assumption | exact Ext.refl _ | refine Ext.drew ?_ | refine Ext.drewN ?_ _ | refine Ext.alloc ?_ _ | refine xS ?_ _ | refine xT ?_ (by assumption)))))).mono ?_; rintro e u4 ⟨a3, c3, rfl, lc_, hE⟩
  have x : Ext u3 u4 := (by repeat (with_reducible first | assumption | exact Ext.refl _ | refine Ext.drew ?_ | refine Ext.drewN ?_ _ | refine Ext.alloc ?_ _ | refine xS ?_ _ | refine xT ?_ (by assumption)))
  clear r_mt0 l_mt0
  replace mt0 := hid (x.cell mt0.out)
  replace f0 := hid (x.cell f0.out)
  replace lr := hid (lr.out.ext x)
  replace lk := hid (lk.out.ext x)
  replace bv0 := hid (x.cell bv0.out)
  replace bv1 := hid (x.cell bv1.out)
  replace la := hid (la.out.ext x)
  replace lb := hid (lb.out.ext x)
  replace X := hid (X.out.trans x)
  have lc := hid lc_
  clear lc_
  clear x hE
  have r_mt0 := mt0.out
  have l_mt0 := cell_lt r_mt0
  dsimp only at l_mt0
  go_wp2_with fail
  refine (i1.out _ _ _ (la.out.ext (show Ext u4 _ from (by repeat (with_reducible first | assumption | exact Ext.refl _ | refine Ext.drew ?_ | refine Ext.drewN ?_ _ | refine Ext.alloc ?_ _ | refine xS ?_ _ | refine xT ?_ (by assumption)))))).mono ?_; rintro e u5 ⟨rfl, hE⟩
  have x : Ext u4 u5 := (by repeat (with_reducible first | assumption | exact Ext.refl _ | refine Ext.drew ?_ | refine Ext.drewN ?_ _ | refine Ext.alloc ?_ _ | refine xS ?_ _ | refine xT ?_ (by assumption)))
  clear r_mt0 l_mt0
  replace mt0 := hid (x.cell mt0.out)
  replace f0 := hid (x.cell f0.out)
  replace lr := hid (lr.out.ext x)
  replace lk := hid (lk.out.ext x)
  replace bv0 := hid (x.cell bv0.out)
  replace bv1 := hid (x.cell bv1.out)
  replace la := hid (la.out.ext x)
  replace lb := hid (lb.out.ext x)
  replace lc := hid (lc.out.ext x)
  replace X := hid (X.out.trans x)
  clear x hE
  have r_mt0 := mt0.out
  have l_mt0 := cell_lt r_mt0
  dsimp only at l_mt0
  have r_f0 := f0.out
  have l_f0 := cell_lt r_f0
  dsimp only at l_f0
  go_wp2_with fail
  refine (i2.out _ _ _ (lb.out.ext (show Ext u5 _ from (by repeat (with_reducible first | assumption | exact Ext.refl _ | refine Ext.drew ?_ | refine Ext.drewN ?_ _ | refine Ext.alloc ?_ _ | refine xS ?_ _ | refine xT ?_ (by assumption)))))).mono ?_; rintro e u6 ⟨rfl, hE⟩
  have x : Ext u5 u6 := (by repeat (with_reducible first | assumption | exact Ext.refl _ | refine Ext.drew ?_ | refine Ext.drewN ?_ _ | refine Ext.alloc ?_ _ | refine xS ?_ _ | refine xT ?_ (by assumption)))
  clear r_mt0 l_mt0 r_f0 l_f0
  replace mt0 := hid (x.cell mt0.out)
  replace f0 := hid (x.cell f0.out)
  replace lr := hid (lr.out.ext x)
  replace lk := hid (lk.out.ext x)
  replace bv0 := hid (x.cell bv0.out)
  replace bv1 := hid (x.cell bv1.out)
  replace la := hid (la.out.ext x)
  replace lb := hid (lb.out.ext x)
  replace lc := hid (lc.out.ext x)
  replace X := hid (X.out.trans x)
  clear x hE
  have r_mt0 := mt0.out
  have l_mt0 := cell_lt r_mt0
  dsimp only at l_mt0
  go_wp2_with fail
  refine (i3.out _ _ _ (lc.out.ext (show Ext u6 _ from (by repeat (with_reducible first | assumption | exact Ext.refl _ | refine Ext.drew ?_ | refine Ext.drewN ?_ _ | refine Ext.alloc ?_ _ | refine xS ?_ _ | refine xT ?_ (by assumption)))))).mono ?_; rintro e u7 ⟨rfl, hE⟩
  have x : Ext u6 u7 := (by repeat (with_reducible first | assumption | exact Ext.refl _ | refine Ext.drew ?_ | refine Ext.drewN ?_ _ | refine Ext.alloc ?_ _ | refine xS ?_ _ | refine xT ?_ (by assumption)))
  clear r_mt0 l_mt0
  replace mt0 := hid (x.cell mt0.out)
  replace f0 := hid (x.cell f0.out)
  replace lr := hid (lr.out.ext x)
  replace lk := hid (lk.out.ext x)
  replace bv0 := hid (x.cell bv0.out)
  replace bv1 := hid (x.cell bv1.out)
  replace la := hid (la.out.ext x)
  replace lb := hid (lb.out.ext x)
  replace lc := hid (lc.out.ext x)
  replace X := hid (X.out.trans x)
  clear x hE
  obtain ⟨pb, po, rfl, -, hca⟩ := la.out.at (by rw [lL1.out]; omega)
  obtain ⟨rb, ro, rfl, -, hcr⟩ := lr.out.at (by rw [b1.out]; omega)
  obtain ⟨kb, ko, rfl, -, hck⟩ := lk.out.at (by rw [b2.out]; omega)
  rw [lL1.out] at hca
  rw [b1.out] at hcr
  rw [b2.out] at hck
  replace hca := hid hca
  replace hcr := hid hcr
  replace hck := hid hck
  go_wp2_with fail
  go_loopw [12] (fun i wr => ∃ k : Nat, k ≤ u ∧ i = .int .i64 k ∧ Hid (Ext u7 wr)) (fun i _ => (u - intOf i).toNat)
  case atStart => exact ⟨0, by omega, rfl, hid (Ext.refl _)⟩
  case round =>
   obtain ⟨k, hk, rfl, hx⟩ := hrel
   by_cases hkl : k < u
   ·obtain ⟨w5, rfl⟩ : ∃ w4 : World, w4 = wr := ⟨_, rfl⟩
    have r1 := hx.out.cell (hca.out k hkl)
    have u3 := Go.IntWalk.i64_in ((k : Int) + 1) (by omega)
    have hkl2 : (k : Int) < (u : Int) := by omega
    go_wp2_with fail
    refine (H1.out k hkl _ _ _ (lc.out.ext (hx.out.trans (show Ext w5 _ from (by repeat (with_reducible first | assumption | exact Ext.refl _ | refine Ext.drew ?_ | refine Ext.drewN ?_ _ | refine Ext.alloc ?_ _ | refine xS ?_ _ | refine xT ?_ (by assumption))))))).mono ?_; rintro e w6 ⟨rfl, hE6⟩
    have hx6 := hid (show Ext u7 w6 from hx.out.trans (show Ext w5 w6 from (by repeat (with_reducible first | assumption | exact Ext.refl _ | refine Ext.drew ?_ | refine Ext.drewN ?_ _ | refine Ext.alloc ?_ _ | refine xS ?_ _ | refine xT ?_ (by assumption)))))
    clear hE6 r1
    go_wp2_with fail
    go_roundw
    case rel => exact ⟨k + 1, by omega, by go_num, hid (hx6.out.trans (by repeat (with_reducible first | assumption | exact Ext.refl _ | refine Ext.drew ?_ | refine Ext.drewN ?_ _ | refine Ext.alloc ?_ _ | refine xS ?_ _ | refine xT ?_ (by assumption))))⟩
    case measure => simp [intOf]; omega
   ·have hkm : k = u := by omega
    have hnm : ¬ (u : Int) < (u : Int) := by omega
    rw [hkm]
    obtain ⟨g1, rfl⟩ : ∃ w4 : World, w4 = wr := ⟨_, rfl⟩
    have x := hx.out
    clear hkm hkl hk hx
    replace hca := hid (fun i hi => x.cell (hca.out i hi))
    replace hcr := hid (fun i hi => x.cell (hcr.out i hi))
    replace hck := hid (fun i hi => x.cell (hck.out i hi))
    replace mt0 := hid (x.cell mt0.out)
    replace f0 := hid (x.cell f0.out)
    replace lr := hid (lr.out.ext x)
    replace lk := hid (lk.out.ext x)
    replace bv0 := hid (x.cell bv0.out)
    replace bv1 := hid (x.cell bv1.out)
    replace la := hid (la.out.ext x)
    replace lb := hid (lb.out.ext x)
    replace lc := hid (lc.out.ext x)
    replace X := hid (X.out.trans x)
    clear x
    go_wp2_with fail
    go_loopw [13] (fun i wr => ∃ k : Nat, k ≤ m ∧ i = .int .i64 k ∧ Hid (Ext g1 wr)) (fun i _ => (m - intOf i).toNat)
    case atStart => exact ⟨0, by omega, rfl, hid (Ext.refl _)⟩
    case round =>
     obtain ⟨k, hk, rfl, hx⟩ := hrel
     by_cases hkl : k < m
     ·obtain ⟨w5, rfl⟩ : ∃ w4 : World, w4 = wr := ⟨_, rfl⟩
      have r1 := hx.out.cell (hcr.out k hkl)
      have u3 := Go.IntWalk.i64_in ((k : Int) + 1) (by omega)
      have hkl2 : (k : Int) < (m : Int) := by omega
      obtain ⟨y, hy⟩ : ∃ y, nth rl k = y := ⟨_, rfl⟩
      rw [hy] at r1
      by_cases hp : 0 < y
      ·have hp2 := H2.out k (by rw [hy]; exact hp)
       replace hy := hid hy
       go_wp2_with fail
       refine (hp2 _ _ _ (la.out.ext (hx.out.trans (show Ext w5 _ from (by repeat (with_reducible first | assumption | exact Ext.refl _ | refine Ext.drew ?_ | refine Ext.drewN ?_ _ | refine Ext.alloc ?_ _ | refine xS ?_ _ | refine xT ?_ (by assumption))))))).mono ?_; rintro e w6 ⟨rfl, hE6⟩
       have hx6 := hid (show Ext g1 w6 from hx.out.trans (show Ext w5 w6 from (by repeat (with_reducible first | assumption | exact Ext.refl _ | refine Ext.drew ?_ | refine Ext.drewN ?_ _ | refine Ext.alloc ?_ _ | refine xS ?_ _ | refine xT ?_ (by assumption)))))
       clear hE6 r1
       go_wp2_with fail
       go_roundw
       case rel => exact ⟨k + 1, by omega, by go_num, hid (hx6.out.trans (by repeat (with_reducible first | assumption | exact Ext.refl _ | refine Ext.drew ?_ | refine Ext.drewN ?_ _ | refine Ext.alloc ?_ _ | refine xS ?_ _ | refine xT ?_ (by assumption))))⟩
       case measure => simp [intOf]; omega
      ·replace hy := hid hy
       go_wp2_with fail
       go_roundw
       case rel => exact ⟨k + 1, by omega, by go_num, hid (hx.out.trans (by repeat (with_reducible first | assumption | exact Ext.refl _ | refine Ext.drew ?_ | refine Ext.drewN ?_ _ | refine Ext.alloc ?_ _ | refine xS ?_ _ | refine xT ?_ (by assumption))))⟩
       case measure => simp [intOf]; omega
     ·have hkm : k = m := by omega
      have hnm : ¬ (m : Int) < (m : Int) := by omega
      rw [hkm]
      obtain ⟨g2, rfl⟩ : ∃ w4 : World, w4 = wr := ⟨_, rfl⟩
      have x := hx.out
      clear hkm hkl hk hx
      replace hca := hid (fun i hi => x.cell (hca.out i hi))
      replace hcr := hid (fun i hi => x.cell (hcr.out i hi))
      replace hck := hid (fun i hi => x.cell (hck.out i hi))
      replace mt0 := hid (x.cell mt0.out)
      replace f0 := hid (x.cell f0.out)
      replace lr := hid (lr.out.ext x)
      replace lk := hid (lk.out.ext x)
      replace bv0 := hid (x.cell bv0.out)
      replace bv1 := hid (x.cell bv1.out)
      replace la := hid (la.out.ext x)
      replace lb := hid (lb.out.ext x)
      replace lc := hid (lc.out.ext x)
      replace X := hid (X.out.trans x)
      clear x
      go_wp2_with fail
      go_loopw [14] (fun i wr => ∃ k : Nat, k ≤ n ∧ i = .int .i64 k ∧ Hid (Ext g2 wr)) (fun i _ => (n - intOf i).toNat)
      case atStart => exact ⟨0, by omega, rfl, hid (Ext.refl _)⟩
      case round =>
       obtain ⟨k, hk, rfl, hx⟩ := hrel
       by_cases hkl : k < n
       ·obtain ⟨w5, rfl⟩ : ∃ w4 : World, w4 = wr := ⟨_, rfl⟩
        have r1 := hx.out.cell (hck.out k hkl)
        have u3 := Go.IntWalk.i64_in ((k : Int) + 1) (by omega)
        have hkl2 : (k : Int) < (n : Int) := by omega
        obtain ⟨y, hy⟩ : ∃ y, nth kl k = y := ⟨_, rfl⟩
        rw [hy] at r1
        by_cases hp : 0 < y
        ·have hp2 := H3.out k (by rw [hy]; exact hp)
         replace hy := hid hy
         go_wp2_with fail
         refine (hp2 _ _ _ (lb.out.ext (hx.out.trans (show Ext w5 _ from (by repeat (with_reducible first | assumption | exact Ext.refl _ | refine Ext.drew ?_ | refine Ext.drewN ?_ _ | refine Ext.alloc ?_ _ | refine xS ?_ _ | refine xT ?_ (by assumption))))))).mono ?_; rintro e w6 ⟨rfl, hE6⟩
         have hx6 := hid (show Ext g2 w6 from hx.out.trans (show Ext w5 w6 from (by repeat (with_reducible first | assumption | exact Ext.refl _ | refine Ext.drew ?_ | refine Ext.drewN ?_ _ | refine Ext.alloc ?_ _ | refine xS ?_ _ | refine xT ?_ (by assumption)))))
         clear hE6 r1
         go_wp2_with fail
         go_roundw
         case rel => exact ⟨k + 1, by omega, by go_num, hid (hx6.out.trans (by repeat (with_reducible first | assumption | exact Ext.refl _ | refine Ext.drew ?_ | refine Ext.drewN ?_ _ | refine Ext.alloc ?_ _ | refine xS ?_ _ | refine xT ?_ (by assumption))))⟩
         case measure => simp [intOf]; omega
        ·replace hy := hid hy
         go_wp2_with fail
         go_roundw
         case rel => exact ⟨k + 1, by omega, by go_num, hid (hx.out.trans (by repeat (with_reducible first | assumption | exact Ext.refl _ | refine Ext.drew ?_ | refine Ext.drewN ?_ _ | refine Ext.alloc ?_ _ | refine xS ?_ _ | refine xT ?_ (by assumption))))⟩
         case measure => simp [intOf]; omega
       ·have hkm : k = n := by omega
        have hnm : ¬ (n : Int) < (n : Int) := by omega
        rw [hkm]
        obtain ⟨g3, rfl⟩ : ∃ w4 : World, w4 = wr := ⟨_, rfl⟩
        have x := hx.out
        clear hkm hkl hk hx
        replace hca := hid (fun i hi => x.cell (hca.out i hi))
        replace hcr := hid (fun i hi => x.cell (hcr.out i hi))
        replace hck := hid (fun i hi => x.cell (hck.out i hi))
        replace mt0 := hid (x.cell mt0.out)
        replace f0 := hid (x.cell f0.out)
        replace lr := hid (lr.out.ext x)
        replace lk := hid (lk.out.ext x)
        replace bv0 := hid (x.cell bv0.out)
        replace bv1 := hid (x.cell bv1.out)
        replace la := hid (la.out.ext x)
        replace lb := hid (lb.out.ext x)
        replace lc := hid (lc.out.ext x)
        replace X := hid (X.out.trans x)
        clear x
        go_wp2_with fail
        have q0 := mt0.out
        have q1 := f0.out
        refine name_act (fun A_ hA_ => ?_)
        obtain ⟨Q2, hQ2⟩ : ∃ Q2 : Exit → Act → World → Prop, Q2 = fun e a' w' => e = .normal ∧ ∃ (ar_23 : Option Addr) (cr_23 : Nat) (ap_23 : Option Addr) (cp_23 : Nat) (as_23 : Option Addr) (cs_23 : Nat) (at_23 : Option Addr) (ct_23 : Nat) (bw : Nat) (v0_ v1_ v2_ v3_ v4_ v5_ v6_ v7_ v8_ v9_ v10_ v11_ v12_ v13_ v17_ v18_ v19_ v20_ v21_ v24_ v25_ : Value), a' = ((((((((((((((((((((((((((A_.put (some 139) (v0_)).put (some 140) (v1_)).put (some 141) (v2_)).put (some 142) (v3_)).put (some 143) (v4_)).put (some 144) (v5_)).put (some 145) (v6_)).put (some 146) (v7_)).put (some 147) (v8_)).put (some 148) (v9_)).put (some 149) (v10_)).put (some 150) (v11_)).put (some 151) (v12_)).put (some 152) (v13_)).put (some 153) (.slice ar_23 n cr_23)).put (some 154) (.agg #[.slice ap_23 u cp_23])).put (some 155) (.tuple #[.agg #[.int .i64 vn, .int .i64 vd], .slice as_23 u cs_23, .slice at_23 n ct_23, .bool true])).put (some 138) (v17_)).put (some 156) (v18_)).put (some 157) (v19_)).put (some 158) (v20_)).put (some 159) (v21_)).put (some 15) (.pointer (some ⟨bw, 0, none⟩))).put (some 16) (v24_)).put (some 17) (v25_)).put (some 6) (.bool true)) ∧ Ext g3 w' ∧ w'.cell? ⟨bw, 0, none⟩ = some (.int .i64 vn) ∧ w'.cell? ⟨bw, 1, none⟩ = some (.int .i64 vd) ∧ w'.frozen? ⟨bw, 0, none⟩ = false ∧ w'.frozen? ⟨bw, 1, none⟩ = false ∧ g3.heap.size ≤ bw := ⟨_, rfl⟩
        have hpan : ∀ c a a' w w', Q2 (.panic c) a w → Q2 (.panic c) a' w' := by rw [hQ2]; rintro c a a' w w' ⟨h, _⟩; cases h
        replace hQ2 := hid hQ2
        refine wp_mono (Q := Q2) ?_ ?_
        ·subst hA_
         refine wp_region_held_drew (S := fun w' => Ext g3 w') (by kernel_rfl) (by repeat (with_reducible first | assumption | exact Ext.refl _ | refine Ext.drew ?_ | refine Ext.drewN ?_ _ | refine Ext.alloc ?_ _ | refine xS ?_ _ | refine xT ?_ (by assumption))) fun hHeld => ?_
         refine name_any (fun W0 hW => ?_)
         have s0 : Ext g3 W0 := by rw [hW]; exact hHeld
         clear hW hHeld
         refine tkA (i := 0) (v := ?_) rfl (fun c a w h => hpan c _ _ _ _ h) (Or.inl ⟨by rfl, ?yl⟩) (by assumption) ?_
         case yl => (intro w hSw; (try dsimp only at hSw); have k_0 := Ext.cell hSw q0; have k_1 := Ext.cell hSw q1; go_simp); with_reducible rfl
         try simp only [sxA, sxB, sxC, Act.put, sxD, sxE, sxF]
         refine tkA (i := 1) (v := ?_) rfl (fun c a w h => hpan c _ _ _ _ h) (Or.inl ⟨by rfl, ?yl⟩) (by assumption) ?_
         case yl => (intro w hSw; (try dsimp only at hSw); have k_0 := Ext.cell hSw q0; have k_1 := Ext.cell hSw q1; go_simp); with_reducible rfl
         try simp only [sxA, sxB, sxC, Act.put, sxD, sxE, sxF]
         refine tkA (i := 2) (v := ?_) rfl (fun c a w h => hpan c _ _ _ _ h) (Or.inl ⟨by rfl, ?yl⟩) (by assumption) ?_
         case yl => (intro w hSw; (try dsimp only at hSw); have k_0 := Ext.cell hSw q0; have k_1 := Ext.cell hSw q1; go_simp); with_reducible rfl
         try simp only [sxA, sxB, sxC, Act.put, sxD, sxE, sxF]
         refine tkA (i := 3) (v := ?_) rfl (fun c a w h => hpan c _ _ _ _ h) (Or.inl ⟨by rfl, ?yl⟩) (by assumption) ?_
         case yl => (intro w hSw; (try dsimp only at hSw); have k_0 := Ext.cell hSw q0; have k_1 := Ext.cell hSw q1; go_simp); with_reducible rfl
         try simp only [sxA, sxB, sxC, Act.put, sxD, sxE, sxF]
         refine tkA (i := 4) (v := ?_) rfl (fun c a w h => hpan c _ _ _ _ h) (Or.inl ⟨by rfl, ?yl⟩) (by assumption) ?_
         case yl => (intro w hSw; (try dsimp only at hSw); have k_0 := Ext.cell hSw q0; have k_1 := Ext.cell hSw q1; go_simp); with_reducible rfl
         try simp only [sxA, sxB, sxC, Act.put, sxD, sxE, sxF]
         refine tkA (i := 5) (v := ?_) rfl (fun c a w h => hpan c _ _ _ _ h) (Or.inl ⟨by rfl, ?yl⟩) (by assumption) ?_
         case yl => (intro w hSw; (try dsimp only at hSw); have k_0 := Ext.cell hSw q0; have k_1 := Ext.cell hSw q1; go_simp); with_reducible rfl
         try simp only [sxA, sxB, sxC, Act.put, sxD, sxE, sxF]
         refine tkA (i := 6) (v := ?_) rfl (fun c a w h => hpan c _ _ _ _ h) (Or.inl ⟨by rfl, ?yl⟩) (by assumption) ?_
         case yl => (intro w hSw; (try dsimp only at hSw); have k_0 := Ext.cell hSw q0; have k_1 := Ext.cell hSw q1; go_simp); with_reducible rfl
         try simp only [sxA, sxB, sxC, Act.put, sxD, sxE, sxF]
         refine tkA (i := 7) (v := ?_) rfl (fun c a w h => hpan c _ _ _ _ h) (Or.inl ⟨by rfl, ?yl⟩) (by assumption) ?_
         case yl => (intro w hSw; (try dsimp only at hSw); have k_0 := Ext.cell hSw q0; have k_1 := Ext.cell hSw q1; go_simp); with_reducible rfl
         try simp only [sxA, sxB, sxC, Act.put, sxD, sxE, sxF]
         refine tkA (i := 8) (v := ?_) rfl (fun c a w h => hpan c _ _ _ _ h) (Or.inl ⟨by rfl, ?yl⟩) (by assumption) ?_
         case yl => (intro w hSw; (try dsimp only at hSw); have k_0 := Ext.cell hSw q0; have k_1 := Ext.cell hSw q1; go_simp); with_reducible rfl
         try simp only [sxA, sxB, sxC, Act.put, sxD, sxE, sxF]
         refine tkA (i := 9) (v := ?_) rfl (fun c a w h => hpan c _ _ _ _ h) (Or.inl ⟨by rfl, ?yl⟩) (by assumption) ?_
         case yl => (intro w hSw; (try dsimp only at hSw); have k_0 := Ext.cell hSw q0; have k_1 := Ext.cell hSw q1; go_simp); with_reducible rfl
         try simp only [sxA, sxB, sxC, Act.put, sxD, sxE, sxF]
         refine tkA (i := 10) (v := ?_) rfl (fun c a w h => hpan c _ _ _ _ h) (Or.inl ⟨by rfl, ?yl⟩) (by assumption) ?_
         case yl => (intro w hSw; (try dsimp only at hSw); have k_0 := Ext.cell hSw q0; have k_1 := Ext.cell hSw q1; go_simp); with_reducible rfl
         try simp only [sxA, sxB, sxC, Act.put, sxD, sxE, sxF]
         refine tkA (i := 11) (v := ?_) rfl (fun c a w h => hpan c _ _ _ _ h) (Or.inl ⟨by rfl, ?yl⟩) (by assumption) ?_
         case yl => (intro w hSw; (try dsimp only at hSw); have k_0 := Ext.cell hSw q0; have k_1 := Ext.cell hSw q1; go_simp); with_reducible rfl
         try simp only [sxA, sxB, sxC, Act.put, sxD, sxE, sxF]
         refine tkA (i := 12) (v := ?_) rfl (fun c a w h => hpan c _ _ _ _ h) (Or.inl ⟨by rfl, ?yl⟩) (by assumption) ?_
         case yl => (intro w hSw; (try dsimp only at hSw); have k_0 := Ext.cell hSw q0; have k_1 := Ext.cell hSw q1; go_simp); with_reducible rfl
         try simp only [sxA, sxB, sxC, Act.put, sxD, sxE, sxF]
         refine tkA (i := 13) (v := ?_) rfl (fun c a w h => hpan c _ _ _ _ h) (Or.inl ⟨by rfl, ?yl⟩) (by assumption) ?_
         case yl => (intro w hSw; (try dsimp only at hSw); have k_0 := Ext.cell hSw q0; have k_1 := Ext.cell hSw q1; go_simp); with_reducible rfl
         try simp only [sxA, sxB, sxC, Act.put, sxD, sxE, sxF]
         refine wpAnyH_ready (rs := [14, 22]) (by kernel_rfl) (by simp) ?_
         refine AllReadyH.cons (o := _) rfl (fun K hK => ?_) ?_
         ·skip
          go_simp
          try rw [sh2, sh4]
          refine (hR2.out _).mono ?_; rintro e W1 ⟨ar_23, cr_23, rfl, _hi23_, e1⟩
          have s1 := s0.trans e1
          have _hi23 := hid _hi23_; clear _hi23_
          refine hK.out _ _ s1 (fun _ => ?_)
          clear hK K
          (try simp only [sxA, sxB, sxC, Act.put, sxD, sxE, sxF])
          refine wpAnyH_ready (rs := [15, 22]) (by kernel_rfl) (by simp) ?_
          refine AllReadyH.cons (o := _) rfl (fun K hK => ?_) ?_
          ·skip
           go_simp
           refine (hP1.out _ _ _ _ _ (hT'.out.ext (X.out.trans s1)) (la.out.ext s1) (_hi23.out.1.ext (Ext.refl W1))).mono ?_; rintro e W2 ⟨ap_23, cp_23, rfl, _hp23_, e2⟩
           have s2 := s1.trans e2
           have _hp23 := hid _hp23_; clear _hp23_
           refine hK.out _ _ s2 (fun _ => ?_)
           clear hK K
           (try simp only [sxA, sxB, sxC, Act.put, sxD, sxE, sxF])
           refine wpAnyH_ready (rs := [16, 22]) (by kernel_rfl) (by simp) ?_
           refine AllReadyH.cons (o := _) rfl (fun K hK => ?_) ?_
           ·skip
            go_simp
            refine (hX1.out _ _ _ (_hp23.out.ext (Ext.refl W2))).mono ?_; rintro e W3 ⟨as_23, cs_23, at_23, ct_23, rfl, _hv23_, _hw23_, e3⟩
            have s3 := s2.trans e3
            have _hv23 := hid _hv23_; clear _hv23_
            have _hw23 := hid _hw23_; clear _hw23_
            refine hK.out _ _ s3 (fun _ => ?_)
            clear hK K
            (try simp only [sxA, sxB, sxC, Act.put, sxD, sxE, sxF])
            refine tkA (i := 17) (v := ?_) rfl (fun c a w h => hpan c _ _ _ _ h) (Or.inl ⟨by rfl, ?yl⟩) (by assumption) ?_
            case yl => (intro w hSw; (try dsimp only at hSw); have k_0 := Ext.cell hSw q0; have k_1 := Ext.cell hSw q1; go_simp); with_reducible rfl
            try simp only [sxA, sxB, sxC, Act.put, sxD, sxE, sxF]
            refine tkA (i := 18) (v := ?_) rfl (fun c a w h => hpan c _ _ _ _ h) (Or.inl ⟨by rfl, ?yl⟩) (by assumption) ?_
            case yl => (intro w hSw; (try dsimp only at hSw); have k_0 := Ext.cell hSw q0; have k_1 := Ext.cell hSw q1; go_simp); with_reducible rfl
            try simp only [sxA, sxB, sxC, Act.put, sxD, sxE, sxF]
            refine tkA (i := 19) (v := ?_) rfl (fun c a w h => hpan c _ _ _ _ h) (Or.inl ⟨by rfl, ?yl⟩) (by assumption) ?_
            case yl => (intro w hSw; (try dsimp only at hSw); have k_0 := Ext.cell hSw q0; have k_1 := Ext.cell hSw q1; go_simp); with_reducible rfl
            try simp only [sxA, sxB, sxC, Act.put, sxD, sxE, sxF]
            refine tkA (i := 20) (v := ?_) rfl (fun c a w h => hpan c _ _ _ _ h) (Or.inl ⟨by rfl, ?yl⟩) (by assumption) ?_
            case yl => (intro w hSw; (try dsimp only at hSw); have k_0 := Ext.cell hSw q0; have k_1 := Ext.cell hSw q1; go_simp); with_reducible rfl
            try simp only [sxA, sxB, sxC, Act.put, sxD, sxE, sxF]
            refine tkA (i := 21) (v := ?_) rfl (fun c a w h => hpan c _ _ _ _ h) (Or.inl ⟨by rfl, ?yl⟩) (by assumption) ?_
            case yl => (intro w hSw; (try dsimp only at hSw); have k_0 := Ext.cell hSw q0; have k_1 := Ext.cell hSw q1; go_simp); with_reducible rfl
            try simp only [sxA, sxB, sxC, Act.put, sxD, sxE, sxF]
            refine wpAnyH_ready (rs := [22]) (by kernel_rfl) (by simp) ?_
            refine AllReadyH.cons (o := _) rfl (fun K hK => ?_) AllReadyH.nil
            go_simp
            refine hK.out _ _ (Ext.alloc s3 _) (fun _ => ?_)
            clear hK K
            (try simp only [sxA, sxB, sxC, Act.put, sxD, sxE, sxF])
            refine name_any (fun W4 hW => ?_)
            have e4 : Ext W3 W4 := by rw [hW]; exact Ext.alloc (Ext.refl _) _
            have s4 := s3.trans e4
            have b22_0 := hid (show W4.cell? ⟨W3.heap.size, 0, none⟩ = some (.int .i64 0) by rw [hW]; simp [go_sem])
            have b22_1 := hid (show W4.cell? ⟨W3.heap.size, 1, none⟩ = some (.int .i64 0) by rw [hW]; simp [go_sem])
            have d22_0 := hid (show W4.frozen? ⟨W3.heap.size, 0, none⟩ = false by rw [hW]; simp [go_sem])
            have d22_1 := hid (show W4.frozen? ⟨W3.heap.size, 1, none⟩ = false by rw [hW]; simp [go_sem])
            have l22 := hid (show W3.heap.size < W4.heap.size by rw [hW]; simp [go_sem])
            clear hW
            refine wpAnyH_ready (rs := [23]) (by kernel_rfl) (by simp) ?_
            refine AllReadyH.cons (o := _) rfl (fun K hK => ?_) AllReadyH.nil
            have f0 := Ext.cell (Ext.refl W4) b22_0.out
            have g0 := (Ext.frozen (Ext.refl W4) (p := ⟨W3.heap.size, 0, none⟩) l22.out).trans d22_0.out
            have f1 := Ext.cell (Ext.refl W4) b22_1.out
            have g1 := (Ext.frozen (Ext.refl W4) (p := ⟨W3.heap.size, 1, none⟩) l22.out).trans d22_1.out
            have l0_ := s3.size
            go_simp
            refine hK.out _ _ (by repeat (with_reducible first | assumption | exact Ext.refl _ | refine Ext.drew ?_ | refine Ext.drewN ?_ _ | refine Ext.alloc ?_ _ | refine xS ?_ _ | refine xT ?_ (by assumption))) (fun _ => ?_)
            clear hK K
            (try simp only [sxA, sxB, sxC, Act.put, sxD, sxE, sxF])
            refine name_any (fun W5 hW => ?_)
            have s5 : Ext g3 W5 := by rw [hW]; exact (by repeat (with_reducible first | assumption | exact Ext.refl _ | refine Ext.drew ?_ | refine Ext.drewN ?_ _ | refine Ext.alloc ?_ _ | refine xS ?_ _ | refine xT ?_ (by assumption)))
            skip
            have c22_0 := hid (show W5.cell? ⟨W3.heap.size, 0, none⟩ = some (.int .i64 vn) by rw [hW]; simp [go_sem, f0, f1])
            have c22_1 := hid (show W5.cell? ⟨W3.heap.size, 1, none⟩ = some (.int .i64 vd) by rw [hW]; simp [go_sem, f0, f1])
            have z22_0 := hid (show W5.frozen? ⟨W3.heap.size, 0, none⟩ = false by rw [hW]; simp [go_sem, World.frozen?_setCell, g0, g1])
            have z22_1 := hid (show W5.frozen? ⟨W3.heap.size, 1, none⟩ = false by rw [hW]; simp [go_sem, World.frozen?_setCell, g0, g1])
            clear hW l0_ f0 g0 f1 g1
            refine tkA (i := 24) (v := ?_) rfl (fun c a w h => hpan c _ _ _ _ h) (Or.inl ⟨by rfl, ?yl⟩) (by assumption) ?_
            case yl => (intro w hSw; (try dsimp only at hSw); have k_0 := Ext.cell hSw q0; have k_1 := Ext.cell hSw q1; go_simp); with_reducible rfl
            try simp only [sxA, sxB, sxC, Act.put, sxD, sxE, sxF]
            refine tkA (i := 25) (v := ?_) rfl (fun c a w h => hpan c _ _ _ _ h) (Or.inl ⟨by rfl, ?yl⟩) (by assumption) ?_
            case yl => (intro w hSw; (try dsimp only at hSw); have k_0 := Ext.cell hSw q0; have k_1 := Ext.cell hSw q1; go_simp); with_reducible rfl
            try simp only [sxA, sxB, sxC, Act.put, sxD, sxE, sxF]
            refine tkA (i := 26) (v := ?_) rfl (fun c a w h => hpan c _ _ _ _ h) (Or.inl ⟨by rfl, ?yl⟩) (by assumption) ?_
            case yl => (intro w hSw; (try dsimp only at hSw); have k_0 := Ext.cell hSw q0; have k_1 := Ext.cell hSw q1; go_simp); with_reducible rfl
            try simp only [sxA, sxB, sxC, Act.put, sxD, sxE, sxF]
            refine wpAnyH_done (by kernel_rfl) ?_ _
            try simp only [sxA, sxB, sxC, Act.put, sxD, sxE, sxF]
            rw [hQ2.out]
            refine ⟨rfl, ar_23, cr_23, ap_23, cp_23, as_23, cs_23, at_23, ct_23, W3.heap.size, ?u1_0_1, ?u1_1_1, ?u1_2_1, ?u1_3_1, ?u1_4_1, ?u1_5_1, ?u1_6_1, ?u1_7_1, ?u1_8_1, ?u1_9_1, ?u1_10_1, ?u1_11_1, ?u1_12_1, ?u1_13_1, ?u1_14_1, ?u1_15_1, ?u1_16_1, ?u1_17_1, ?u1_18_1, ?u1_19_1, ?u1_20_1, ?eq1_1, s5, ((Ext.refl W5).cell c22_0.out), ((Ext.refl W5).cell c22_1.out), (((Ext.refl W5).frozen (cell_lt c22_0.out)).trans z22_0.out), (((Ext.refl W5).frozen (cell_lt c22_1.out)).trans z22_1.out), s3.size⟩
            case eq1_1 => ((try simp only [sxA, sxB, sxC, Act.put, sxD, sxE, sxF]); first | done | with_reducible rfl | rfl)
           refine AllReadyH.cons (o := _) rfl (fun K hK => ?_) ?_
           ·skip
            go_simp
            refine hK.out _ _ (Ext.alloc s2 _) (fun _ => ?_)
            clear hK K
            (try simp only [sxA, sxB, sxC, Act.put, sxD, sxE, sxF])
            refine name_any (fun W3 hW => ?_)
            have e3 : Ext W2 W3 := by rw [hW]; exact Ext.alloc (Ext.refl _) _
            have s3 := s2.trans e3
            have b22_0 := hid (show W3.cell? ⟨W2.heap.size, 0, none⟩ = some (.int .i64 0) by rw [hW]; simp [go_sem])
            have b22_1 := hid (show W3.cell? ⟨W2.heap.size, 1, none⟩ = some (.int .i64 0) by rw [hW]; simp [go_sem])
            have d22_0 := hid (show W3.frozen? ⟨W2.heap.size, 0, none⟩ = false by rw [hW]; simp [go_sem])
            have d22_1 := hid (show W3.frozen? ⟨W2.heap.size, 1, none⟩ = false by rw [hW]; simp [go_sem])
            have l22 := hid (show W2.heap.size < W3.heap.size by rw [hW]; simp [go_sem])
            clear hW
            refine wpAnyH_ready (rs := [16]) (by kernel_rfl) (by simp) ?_
            refine AllReadyH.cons (o := _) rfl (fun K hK => ?_) AllReadyH.nil
            go_simp
            refine (hX1.out _ _ _ (_hp23.out.ext ((Ext.refl W2).trans e3))).mono ?_; rintro e W4 ⟨as_23, cs_23, at_23, ct_23, rfl, _hv23_, _hw23_, e4⟩
            have s4 := s3.trans e4
            have _hv23 := hid _hv23_; clear _hv23_
            have _hw23 := hid _hw23_; clear _hw23_
            refine hK.out _ _ s4 (fun _ => ?_)
            clear hK K
            (try simp only [sxA, sxB, sxC, Act.put, sxD, sxE, sxF])
            refine tkA (i := 17) (v := ?_) rfl (fun c a w h => hpan c _ _ _ _ h) (Or.inl ⟨by rfl, ?yl⟩) (by assumption) ?_
            case yl => (intro w hSw; (try dsimp only at hSw); have k_0 := Ext.cell hSw q0; have k_1 := Ext.cell hSw q1; go_simp); with_reducible rfl
            try simp only [sxA, sxB, sxC, Act.put, sxD, sxE, sxF]
            refine tkA (i := 18) (v := ?_) rfl (fun c a w h => hpan c _ _ _ _ h) (Or.inl ⟨by rfl, ?yl⟩) (by assumption) ?_
            case yl => (intro w hSw; (try dsimp only at hSw); have k_0 := Ext.cell hSw q0; have k_1 := Ext.cell hSw q1; go_simp); with_reducible rfl
            try simp only [sxA, sxB, sxC, Act.put, sxD, sxE, sxF]
            refine tkA (i := 19) (v := ?_) rfl (fun c a w h => hpan c _ _ _ _ h) (Or.inl ⟨by rfl, ?yl⟩) (by assumption) ?_
            case yl => (intro w hSw; (try dsimp only at hSw); have k_0 := Ext.cell hSw q0; have k_1 := Ext.cell hSw q1; go_simp); with_reducible rfl
            try simp only [sxA, sxB, sxC, Act.put, sxD, sxE, sxF]
            refine tkA (i := 20) (v := ?_) rfl (fun c a w h => hpan c _ _ _ _ h) (Or.inl ⟨by rfl, ?yl⟩) (by assumption) ?_
            case yl => (intro w hSw; (try dsimp only at hSw); have k_0 := Ext.cell hSw q0; have k_1 := Ext.cell hSw q1; go_simp); with_reducible rfl
            try simp only [sxA, sxB, sxC, Act.put, sxD, sxE, sxF]
            refine tkA (i := 21) (v := ?_) rfl (fun c a w h => hpan c _ _ _ _ h) (Or.inl ⟨by rfl, ?yl⟩) (by assumption) ?_
            case yl => (intro w hSw; (try dsimp only at hSw); have k_0 := Ext.cell hSw q0; have k_1 := Ext.cell hSw q1; go_simp); with_reducible rfl
            try simp only [sxA, sxB, sxC, Act.put, sxD, sxE, sxF]
            refine wpAnyH_ready (rs := [23]) (by kernel_rfl) (by simp) ?_
            refine AllReadyH.cons (o := _) rfl (fun K hK => ?_) AllReadyH.nil
            have f0 := Ext.cell ((Ext.refl W3).trans e4) b22_0.out
            have g0 := (Ext.frozen ((Ext.refl W3).trans e4) (p := ⟨W2.heap.size, 0, none⟩) l22.out).trans d22_0.out
            have f1 := Ext.cell ((Ext.refl W3).trans e4) b22_1.out
            have g1 := (Ext.frozen ((Ext.refl W3).trans e4) (p := ⟨W2.heap.size, 1, none⟩) l22.out).trans d22_1.out
            have l0_ := s2.size
            go_simp
            refine hK.out _ _ (by repeat (with_reducible first | assumption | exact Ext.refl _ | refine Ext.drew ?_ | refine Ext.drewN ?_ _ | refine Ext.alloc ?_ _ | refine xS ?_ _ | refine xT ?_ (by assumption))) (fun _ => ?_)
            clear hK K
            (try simp only [sxA, sxB, sxC, Act.put, sxD, sxE, sxF])
            refine name_any (fun W5 hW => ?_)
            have s5 : Ext g3 W5 := by rw [hW]; exact (by repeat (with_reducible first | assumption | exact Ext.refl _ | refine Ext.drew ?_ | refine Ext.drewN ?_ _ | refine Ext.alloc ?_ _ | refine xS ?_ _ | refine xT ?_ (by assumption)))
            skip
            have c22_0 := hid (show W5.cell? ⟨W2.heap.size, 0, none⟩ = some (.int .i64 vn) by rw [hW]; simp [go_sem, f0, f1])
            have c22_1 := hid (show W5.cell? ⟨W2.heap.size, 1, none⟩ = some (.int .i64 vd) by rw [hW]; simp [go_sem, f0, f1])
            have z22_0 := hid (show W5.frozen? ⟨W2.heap.size, 0, none⟩ = false by rw [hW]; simp [go_sem, World.frozen?_setCell, g0, g1])
            have z22_1 := hid (show W5.frozen? ⟨W2.heap.size, 1, none⟩ = false by rw [hW]; simp [go_sem, World.frozen?_setCell, g0, g1])
            clear hW l0_ f0 g0 f1 g1
            refine tkA (i := 24) (v := ?_) rfl (fun c a w h => hpan c _ _ _ _ h) (Or.inl ⟨by rfl, ?yl⟩) (by assumption) ?_
            case yl => (intro w hSw; (try dsimp only at hSw); have k_0 := Ext.cell hSw q0; have k_1 := Ext.cell hSw q1; go_simp); with_reducible rfl
            try simp only [sxA, sxB, sxC, Act.put, sxD, sxE, sxF]
            refine tkA (i := 25) (v := ?_) rfl (fun c a w h => hpan c _ _ _ _ h) (Or.inl ⟨by rfl, ?yl⟩) (by assumption) ?_
            case yl => (intro w hSw; (try dsimp only at hSw); have k_0 := Ext.cell hSw q0; have k_1 := Ext.cell hSw q1; go_simp); with_reducible rfl
            try simp only [sxA, sxB, sxC, Act.put, sxD, sxE, sxF]
            refine tkA (i := 26) (v := ?_) rfl (fun c a w h => hpan c _ _ _ _ h) (Or.inl ⟨by rfl, ?yl⟩) (by assumption) ?_
            case yl => (intro w hSw; (try dsimp only at hSw); have k_0 := Ext.cell hSw q0; have k_1 := Ext.cell hSw q1; go_simp); with_reducible rfl
            try simp only [sxA, sxB, sxC, Act.put, sxD, sxE, sxF]
            refine wpAnyH_done (by kernel_rfl) ?_ _
            try simp only [sxA, sxB, sxC, Act.put, sxD, sxE, sxF]
            rw [hQ2.out]
            refine ⟨rfl, ar_23, cr_23, ap_23, cp_23, as_23, cs_23, at_23, ct_23, W2.heap.size, ?u1_0_2, ?u1_1_2, ?u1_2_2, ?u1_3_2, ?u1_4_2, ?u1_5_2, ?u1_6_2, ?u1_7_2, ?u1_8_2, ?u1_9_2, ?u1_10_2, ?u1_11_2, ?u1_12_2, ?u1_13_2, ?u1_14_2, ?u1_15_2, ?u1_16_2, ?u1_17_2, ?u1_18_2, ?u1_19_2, ?u1_20_2, ?eq1_2, s5, ((Ext.refl W5).cell c22_0.out), ((Ext.refl W5).cell c22_1.out), (((Ext.refl W5).frozen (cell_lt c22_0.out)).trans z22_0.out), (((Ext.refl W5).frozen (cell_lt c22_1.out)).trans z22_1.out), s2.size⟩
            case eq1_2 => ((try simp only [sxA, sxB, sxC, Act.put, sxD, sxE, sxF]); first | done | with_reducible rfl | rfl)
           exact AllReadyH.nil
          refine AllReadyH.cons (o := _) rfl (fun K hK => ?_) ?_
          ·skip
           go_simp
           refine hK.out _ _ (Ext.alloc s1 _) (fun _ => ?_)
           clear hK K
           (try simp only [sxA, sxB, sxC, Act.put, sxD, sxE, sxF])
           refine name_any (fun W2 hW => ?_)
           have e2 : Ext W1 W2 := by rw [hW]; exact Ext.alloc (Ext.refl _) _
           have s2 := s1.trans e2
           have b22_0 := hid (show W2.cell? ⟨W1.heap.size, 0, none⟩ = some (.int .i64 0) by rw [hW]; simp [go_sem])
           have b22_1 := hid (show W2.cell? ⟨W1.heap.size, 1, none⟩ = some (.int .i64 0) by rw [hW]; simp [go_sem])
           have d22_0 := hid (show W2.frozen? ⟨W1.heap.size, 0, none⟩ = false by rw [hW]; simp [go_sem])
           have d22_1 := hid (show W2.frozen? ⟨W1.heap.size, 1, none⟩ = false by rw [hW]; simp [go_sem])
           have l22 := hid (show W1.heap.size < W2.heap.size by rw [hW]; simp [go_sem])
           clear hW
           refine wpAnyH_ready (rs := [15]) (by kernel_rfl) (by simp) ?_
           refine AllReadyH.cons (o := _) rfl (fun K hK => ?_) AllReadyH.nil
           go_simp
           refine (hP1.out _ _ _ _ _ (hT'.out.ext (X.out.trans s2)) (la.out.ext s2) (_hi23.out.1.ext ((Ext.refl W1).trans e2))).mono ?_; rintro e W3 ⟨ap_23, cp_23, rfl, _hp23_, e3⟩
           have s3 := s2.trans e3
           have _hp23 := hid _hp23_; clear _hp23_
           refine hK.out _ _ s3 (fun _ => ?_)
           clear hK K
           (try simp only [sxA, sxB, sxC, Act.put, sxD, sxE, sxF])
           refine wpAnyH_ready (rs := [16]) (by kernel_rfl) (by simp) ?_
           refine AllReadyH.cons (o := _) rfl (fun K hK => ?_) AllReadyH.nil
           go_simp
           refine (hX1.out _ _ _ (_hp23.out.ext (Ext.refl W3))).mono ?_; rintro e W4 ⟨as_23, cs_23, at_23, ct_23, rfl, _hv23_, _hw23_, e4⟩
           have s4 := s3.trans e4
           have _hv23 := hid _hv23_; clear _hv23_
           have _hw23 := hid _hw23_; clear _hw23_
           refine hK.out _ _ s4 (fun _ => ?_)
           clear hK K
           (try simp only [sxA, sxB, sxC, Act.put, sxD, sxE, sxF])
           refine tkA (i := 17) (v := ?_) rfl (fun c a w h => hpan c _ _ _ _ h) (Or.inl ⟨by rfl, ?yl⟩) (by assumption) ?_
           case yl => (intro w hSw; (try dsimp only at hSw); have k_0 := Ext.cell hSw q0; have k_1 := Ext.cell hSw q1; go_simp); with_reducible rfl
           try simp only [sxA, sxB, sxC, Act.put, sxD, sxE, sxF]
           refine tkA (i := 18) (v := ?_) rfl (fun c a w h => hpan c _ _ _ _ h) (Or.inl ⟨by rfl, ?yl⟩) (by assumption) ?_
           case yl => (intro w hSw; (try dsimp only at hSw); have k_0 := Ext.cell hSw q0; have k_1 := Ext.cell hSw q1; go_simp); with_reducible rfl
           try simp only [sxA, sxB, sxC, Act.put, sxD, sxE, sxF]
           refine tkA (i := 19) (v := ?_) rfl (fun c a w h => hpan c _ _ _ _ h) (Or.inl ⟨by rfl, ?yl⟩) (by assumption) ?_
           case yl => (intro w hSw; (try dsimp only at hSw); have k_0 := Ext.cell hSw q0; have k_1 := Ext.cell hSw q1; go_simp); with_reducible rfl
           try simp only [sxA, sxB, sxC, Act.put, sxD, sxE, sxF]
           refine tkA (i := 20) (v := ?_) rfl (fun c a w h => hpan c _ _ _ _ h) (Or.inl ⟨by rfl, ?yl⟩) (by assumption) ?_
           case yl => (intro w hSw; (try dsimp only at hSw); have k_0 := Ext.cell hSw q0; have k_1 := Ext.cell hSw q1; go_simp); with_reducible rfl
           try simp only [sxA, sxB, sxC, Act.put, sxD, sxE, sxF]
           refine tkA (i := 21) (v := ?_) rfl (fun c a w h => hpan c _ _ _ _ h) (Or.inl ⟨by rfl, ?yl⟩) (by assumption) ?_
           case yl => (intro w hSw; (try dsimp only at hSw); have k_0 := Ext.cell hSw q0; have k_1 := Ext.cell hSw q1; go_simp); with_reducible rfl
           try simp only [sxA, sxB, sxC, Act.put, sxD, sxE, sxF]
           refine wpAnyH_ready (rs := [23]) (by kernel_rfl) (by simp) ?_
           refine AllReadyH.cons (o := _) rfl (fun K hK => ?_) AllReadyH.nil
           have f0 := Ext.cell (((Ext.refl W2).trans e3).trans e4) b22_0.out
           have g0 := (Ext.frozen (((Ext.refl W2).trans e3).trans e4) (p := ⟨W1.heap.size, 0, none⟩) l22.out).trans d22_0.out
           have f1 := Ext.cell (((Ext.refl W2).trans e3).trans e4) b22_1.out
           have g1 := (Ext.frozen (((Ext.refl W2).trans e3).trans e4) (p := ⟨W1.heap.size, 1, none⟩) l22.out).trans d22_1.out
           have l0_ := s1.size
           go_simp
           refine hK.out _ _ (by repeat (with_reducible first | assumption | exact Ext.refl _ | refine Ext.drew ?_ | refine Ext.drewN ?_ _ | refine Ext.alloc ?_ _ | refine xS ?_ _ | refine xT ?_ (by assumption))) (fun _ => ?_)
           clear hK K
           (try simp only [sxA, sxB, sxC, Act.put, sxD, sxE, sxF])
           refine name_any (fun W5 hW => ?_)
           have s5 : Ext g3 W5 := by rw [hW]; exact (by repeat (with_reducible first | assumption | exact Ext.refl _ | refine Ext.drew ?_ | refine Ext.drewN ?_ _ | refine Ext.alloc ?_ _ | refine xS ?_ _ | refine xT ?_ (by assumption)))
           skip
           have c22_0 := hid (show W5.cell? ⟨W1.heap.size, 0, none⟩ = some (.int .i64 vn) by rw [hW]; simp [go_sem, f0, f1])
           have c22_1 := hid (show W5.cell? ⟨W1.heap.size, 1, none⟩ = some (.int .i64 vd) by rw [hW]; simp [go_sem, f0, f1])
           have z22_0 := hid (show W5.frozen? ⟨W1.heap.size, 0, none⟩ = false by rw [hW]; simp [go_sem, World.frozen?_setCell, g0, g1])
           have z22_1 := hid (show W5.frozen? ⟨W1.heap.size, 1, none⟩ = false by rw [hW]; simp [go_sem, World.frozen?_setCell, g0, g1])
           clear hW l0_ f0 g0 f1 g1
           refine tkA (i := 24) (v := ?_) rfl (fun c a w h => hpan c _ _ _ _ h) (Or.inl ⟨by rfl, ?yl⟩) (by assumption) ?_
           case yl => (intro w hSw; (try dsimp only at hSw); have k_0 := Ext.cell hSw q0; have k_1 := Ext.cell hSw q1; go_simp); with_reducible rfl
           try simp only [sxA, sxB, sxC, Act.put, sxD, sxE, sxF]
           refine tkA (i := 25) (v := ?_) rfl (fun c a w h => hpan c _ _ _ _ h) (Or.inl ⟨by rfl, ?yl⟩) (by assumption) ?_
           case yl => (intro w hSw; (try dsimp only at hSw); have k_0 := Ext.cell hSw q0; have k_1 := Ext.cell hSw q1; go_simp); with_reducible rfl
           try simp only [sxA, sxB, sxC, Act.put, sxD, sxE, sxF]
           refine tkA (i := 26) (v := ?_) rfl (fun c a w h => hpan c _ _ _ _ h) (Or.inl ⟨by rfl, ?yl⟩) (by assumption) ?_
           case yl => (intro w hSw; (try dsimp only at hSw); have k_0 := Ext.cell hSw q0; have k_1 := Ext.cell hSw q1; go_simp); with_reducible rfl
           try simp only [sxA, sxB, sxC, Act.put, sxD, sxE, sxF]
           refine wpAnyH_done (by kernel_rfl) ?_ _
           try simp only [sxA, sxB, sxC, Act.put, sxD, sxE, sxF]
           rw [hQ2.out]
           refine ⟨rfl, ar_23, cr_23, ap_23, cp_23, as_23, cs_23, at_23, ct_23, W1.heap.size, ?u1_0_3, ?u1_1_3, ?u1_2_3, ?u1_3_3, ?u1_4_3, ?u1_5_3, ?u1_6_3, ?u1_7_3, ?u1_8_3, ?u1_9_3, ?u1_10_3, ?u1_11_3, ?u1_12_3, ?u1_13_3, ?u1_14_3, ?u1_15_3, ?u1_16_3, ?u1_17_3, ?u1_18_3, ?u1_19_3, ?u1_20_3, ?eq1_3, s5, ((Ext.refl W5).cell c22_0.out), ((Ext.refl W5).cell c22_1.out), (((Ext.refl W5).frozen (cell_lt c22_0.out)).trans z22_0.out), (((Ext.refl W5).frozen (cell_lt c22_1.out)).trans z22_1.out), s1.size⟩
           case eq1_3 => ((try simp only [sxA, sxB, sxC, Act.put, sxD, sxE, sxF]); first | done | with_reducible rfl | rfl)
          exact AllReadyH.nil
         refine AllReadyH.cons (o := _) rfl (fun K hK => ?_) ?_
         ·skip
          go_simp
          refine hK.out _ _ (Ext.alloc s0 _) (fun _ => ?_)
          clear hK K
          (try simp only [sxA, sxB, sxC, Act.put, sxD, sxE, sxF])
          refine name_any (fun W1 hW => ?_)
          have e1 : Ext W0 W1 := by rw [hW]; exact Ext.alloc (Ext.refl _) _
          have s1 := s0.trans e1
          have b22_0 := hid (show W1.cell? ⟨W0.heap.size, 0, none⟩ = some (.int .i64 0) by rw [hW]; simp [go_sem])
          have b22_1 := hid (show W1.cell? ⟨W0.heap.size, 1, none⟩ = some (.int .i64 0) by rw [hW]; simp [go_sem])
          have d22_0 := hid (show W1.frozen? ⟨W0.heap.size, 0, none⟩ = false by rw [hW]; simp [go_sem])
          have d22_1 := hid (show W1.frozen? ⟨W0.heap.size, 1, none⟩ = false by rw [hW]; simp [go_sem])
          have l22 := hid (show W0.heap.size < W1.heap.size by rw [hW]; simp [go_sem])
          clear hW
          refine wpAnyH_ready (rs := [14]) (by kernel_rfl) (by simp) ?_
          refine AllReadyH.cons (o := _) rfl (fun K hK => ?_) AllReadyH.nil
          go_simp
          try rw [sh2, sh4]
          refine (hR2.out _).mono ?_; rintro e W2 ⟨ar_23, cr_23, rfl, _hi23_, e2⟩
          have s2 := s1.trans e2
          have _hi23 := hid _hi23_; clear _hi23_
          refine hK.out _ _ s2 (fun _ => ?_)
          clear hK K
          (try simp only [sxA, sxB, sxC, Act.put, sxD, sxE, sxF])
          refine wpAnyH_ready (rs := [15]) (by kernel_rfl) (by simp) ?_
          refine AllReadyH.cons (o := _) rfl (fun K hK => ?_) AllReadyH.nil
          go_simp
          refine (hP1.out _ _ _ _ _ (hT'.out.ext (X.out.trans s2)) (la.out.ext s2) (_hi23.out.1.ext (Ext.refl W2))).mono ?_; rintro e W3 ⟨ap_23, cp_23, rfl, _hp23_, e3⟩
          have s3 := s2.trans e3
          have _hp23 := hid _hp23_; clear _hp23_
          refine hK.out _ _ s3 (fun _ => ?_)
          clear hK K
          (try simp only [sxA, sxB, sxC, Act.put, sxD, sxE, sxF])
          refine wpAnyH_ready (rs := [16]) (by kernel_rfl) (by simp) ?_
          refine AllReadyH.cons (o := _) rfl (fun K hK => ?_) AllReadyH.nil
          go_simp
          refine (hX1.out _ _ _ (_hp23.out.ext (Ext.refl W3))).mono ?_; rintro e W4 ⟨as_23, cs_23, at_23, ct_23, rfl, _hv23_, _hw23_, e4⟩
          have s4 := s3.trans e4
          have _hv23 := hid _hv23_; clear _hv23_
          have _hw23 := hid _hw23_; clear _hw23_
          refine hK.out _ _ s4 (fun _ => ?_)
          clear hK K
          (try simp only [sxA, sxB, sxC, Act.put, sxD, sxE, sxF])
          refine tkA (i := 17) (v := ?_) rfl (fun c a w h => hpan c _ _ _ _ h) (Or.inl ⟨by rfl, ?yl⟩) (by assumption) ?_
          case yl => (intro w hSw; (try dsimp only at hSw); have k_0 := Ext.cell hSw q0; have k_1 := Ext.cell hSw q1; go_simp); with_reducible rfl
          try simp only [sxA, sxB, sxC, Act.put, sxD, sxE, sxF]
          refine tkA (i := 18) (v := ?_) rfl (fun c a w h => hpan c _ _ _ _ h) (Or.inl ⟨by rfl, ?yl⟩) (by assumption) ?_
          case yl => (intro w hSw; (try dsimp only at hSw); have k_0 := Ext.cell hSw q0; have k_1 := Ext.cell hSw q1; go_simp); with_reducible rfl
          try simp only [sxA, sxB, sxC, Act.put, sxD, sxE, sxF]
          refine tkA (i := 19) (v := ?_) rfl (fun c a w h => hpan c _ _ _ _ h) (Or.inl ⟨by rfl, ?yl⟩) (by assumption) ?_
          case yl => (intro w hSw; (try dsimp only at hSw); have k_0 := Ext.cell hSw q0; have k_1 := Ext.cell hSw q1; go_simp); with_reducible rfl
          try simp only [sxA, sxB, sxC, Act.put, sxD, sxE, sxF]
          refine tkA (i := 20) (v := ?_) rfl (fun c a w h => hpan c _ _ _ _ h) (Or.inl ⟨by rfl, ?yl⟩) (by assumption) ?_
          case yl => (intro w hSw; (try dsimp only at hSw); have k_0 := Ext.cell hSw q0; have k_1 := Ext.cell hSw q1; go_simp); with_reducible rfl
          try simp only [sxA, sxB, sxC, Act.put, sxD, sxE, sxF]
          refine tkA (i := 21) (v := ?_) rfl (fun c a w h => hpan c _ _ _ _ h) (Or.inl ⟨by rfl, ?yl⟩) (by assumption) ?_
          case yl => (intro w hSw; (try dsimp only at hSw); have k_0 := Ext.cell hSw q0; have k_1 := Ext.cell hSw q1; go_simp); with_reducible rfl
          try simp only [sxA, sxB, sxC, Act.put, sxD, sxE, sxF]
          refine wpAnyH_ready (rs := [23]) (by kernel_rfl) (by simp) ?_
          refine AllReadyH.cons (o := _) rfl (fun K hK => ?_) AllReadyH.nil
          have f0 := Ext.cell ((((Ext.refl W1).trans e2).trans e3).trans e4) b22_0.out
          have g0 := (Ext.frozen ((((Ext.refl W1).trans e2).trans e3).trans e4) (p := ⟨W0.heap.size, 0, none⟩) l22.out).trans d22_0.out
          have f1 := Ext.cell ((((Ext.refl W1).trans e2).trans e3).trans e4) b22_1.out
          have g1 := (Ext.frozen ((((Ext.refl W1).trans e2).trans e3).trans e4) (p := ⟨W0.heap.size, 1, none⟩) l22.out).trans d22_1.out
          have l0_ := s0.size
          go_simp
          refine hK.out _ _ (by repeat (with_reducible first | assumption | exact Ext.refl _ | refine Ext.drew ?_ | refine Ext.drewN ?_ _ | refine Ext.alloc ?_ _ | refine xS ?_ _ | refine xT ?_ (by assumption))) (fun _ => ?_)
          clear hK K
          (try simp only [sxA, sxB, sxC, Act.put, sxD, sxE, sxF])
          refine name_any (fun W5 hW => ?_)
          have s5 : Ext g3 W5 := by rw [hW]; exact (by repeat (with_reducible first | assumption | exact Ext.refl _ | refine Ext.drew ?_ | refine Ext.drewN ?_ _ | refine Ext.alloc ?_ _ | refine xS ?_ _ | refine xT ?_ (by assumption)))
          skip
          have c22_0 := hid (show W5.cell? ⟨W0.heap.size, 0, none⟩ = some (.int .i64 vn) by rw [hW]; simp [go_sem, f0, f1])
          have c22_1 := hid (show W5.cell? ⟨W0.heap.size, 1, none⟩ = some (.int .i64 vd) by rw [hW]; simp [go_sem, f0, f1])
          have z22_0 := hid (show W5.frozen? ⟨W0.heap.size, 0, none⟩ = false by rw [hW]; simp [go_sem, World.frozen?_setCell, g0, g1])
          have z22_1 := hid (show W5.frozen? ⟨W0.heap.size, 1, none⟩ = false by rw [hW]; simp [go_sem, World.frozen?_setCell, g0, g1])
          clear hW l0_ f0 g0 f1 g1
          refine tkA (i := 24) (v := ?_) rfl (fun c a w h => hpan c _ _ _ _ h) (Or.inl ⟨by rfl, ?yl⟩) (by assumption) ?_
          case yl => (intro w hSw; (try dsimp only at hSw); have k_0 := Ext.cell hSw q0; have k_1 := Ext.cell hSw q1; go_simp); with_reducible rfl
          try simp only [sxA, sxB, sxC, Act.put, sxD, sxE, sxF]
          refine tkA (i := 25) (v := ?_) rfl (fun c a w h => hpan c _ _ _ _ h) (Or.inl ⟨by rfl, ?yl⟩) (by assumption) ?_
          case yl => (intro w hSw; (try dsimp only at hSw); have k_0 := Ext.cell hSw q0; have k_1 := Ext.cell hSw q1; go_simp); with_reducible rfl
          try simp only [sxA, sxB, sxC, Act.put, sxD, sxE, sxF]
          refine tkA (i := 26) (v := ?_) rfl (fun c a w h => hpan c _ _ _ _ h) (Or.inl ⟨by rfl, ?yl⟩) (by assumption) ?_
          case yl => (intro w hSw; (try dsimp only at hSw); have k_0 := Ext.cell hSw q0; have k_1 := Ext.cell hSw q1; go_simp); with_reducible rfl
          try simp only [sxA, sxB, sxC, Act.put, sxD, sxE, sxF]
          refine wpAnyH_done (by kernel_rfl) ?_ _
          try simp only [sxA, sxB, sxC, Act.put, sxD, sxE, sxF]
          rw [hQ2.out]
          refine ⟨rfl, ar_23, cr_23, ap_23, cp_23, as_23, cs_23, at_23, ct_23, W0.heap.size, ?u1_0_4, ?u1_1_4, ?u1_2_4, ?u1_3_4, ?u1_4_4, ?u1_5_4, ?u1_6_4, ?u1_7_4, ?u1_8_4, ?u1_9_4, ?u1_10_4, ?u1_11_4, ?u1_12_4, ?u1_13_4, ?u1_14_4, ?u1_15_4, ?u1_16_4, ?u1_17_4, ?u1_18_4, ?u1_19_4, ?u1_20_4, ?eq1_4, s5, ((Ext.refl W5).cell c22_0.out), ((Ext.refl W5).cell c22_1.out), (((Ext.refl W5).frozen (cell_lt c22_0.out)).trans z22_0.out), (((Ext.refl W5).frozen (cell_lt c22_1.out)).trans z22_1.out), s0.size⟩
          case eq1_4 => ((try simp only [sxA, sxB, sxC, Act.put, sxD, sxE, sxF]); first | done | with_reducible rfl | rfl)
         exact AllReadyH.nil
        rw [hQ2.out]
        rintro e a' d8 ⟨rfl, ar_23, cr_23, ap_23, cp_23, as_23, cs_23, at_23, ct_23, bw, v0_, v1_, v2_, v3_, v4_, v5_, v6_, v7_, v8_, v9_, v10_, v11_, v12_, v13_, v17_, v18_, v19_, v20_, v21_, v24_, v25_, rfl, x, c22_0, c22_1, fz22_0, fz22_1, z22⟩
        clear hQ2 hpan; clear Q2
        subst hA_
        simp only [sxA, sxB, sxC, Act.put, sxD, sxE, sxF]
        clear q0 q1
        replace mt0 := hid (x.cell mt0.out)
        replace f0 := hid (x.cell f0.out)
        replace lr := hid (lr.out.ext x)
        replace lk := hid (lk.out.ext x)
        replace bv0 := hid (x.cell bv0.out)
        replace bv1 := hid (x.cell bv1.out)
        replace la := hid (la.out.ext x)
        replace lb := hid (lb.out.ext x)
        replace lc := hid (lc.out.ext x)
        replace X := hid (X.out.trans x)
        clear x
        have bw0 := hid c22_0
        have bw1 := hid c22_1
        clear c22_0 c22_1 fz22_0 fz22_1 z22
        go_wp2_with fail
        have q0 := mt0.out
        have q1 := f0.out
        refine name_act (fun A_ hA_ => ?_)
        obtain ⟨Q2, hQ2⟩ : ∃ Q2 : Exit → Act → World → Prop, Q2 = fun e a' w' => e = .normal ∧ ∃ (ar_24 : Option Addr) (cr_24 : Nat) (ap_24 : Option Addr) (cp_24 : Nat) (as_24 : Option Addr) (cs_24 : Nat) (at_24 : Option Addr) (ct_24 : Nat) (by_ : Nat) (v0_ v1_ v2_ v3_ v4_ v5_ v6_ v7_ v8_ v10_ v13_ v14_ v15_ v16_ v17_ v20_ v21_ : Value), a' = ((((((((((((((((((((((A_.put (some 161) (v0_)).put (some 162) (v1_)).put (some 163) (v2_)).put (some 164) (v3_)).put (some 165) (v4_)).put (some 166) (v5_)).put (some 167) (v6_)).put (some 168) (v7_)).put (some 169) (v8_)).put (some 170) (.slice ar_24 m cr_24)).put (some 171) (v10_)).put (some 172) (.agg #[.slice ap_24 m cp_24])).put (some 173) (.tuple #[.agg #[.int .i64 vn, .int .i64 vd], .slice as_24 m cs_24, .slice at_24 z ct_24, .bool true])).put (some 160) (v13_)).put (some 174) (v14_)).put (some 175) (v15_)).put (some 176) (v16_)).put (some 177) (v17_)).put (some 18) (.pointer (some ⟨by_, 0, none⟩))).put (some 19) (v20_)).put (some 20) (v21_)).put (some 21) (.bool true)) ∧ Ext d8 w' ∧ w'.cell? ⟨by_, 0, none⟩ = some (.int .i64 vn) ∧ w'.cell? ⟨by_, 1, none⟩ = some (.int .i64 vd) ∧ w'.frozen? ⟨by_, 0, none⟩ = false ∧ w'.frozen? ⟨by_, 1, none⟩ = false ∧ d8.heap.size ≤ by_ := ⟨_, rfl⟩
        have hpan : ∀ c a a' w w', Q2 (.panic c) a w → Q2 (.panic c) a' w' := by rw [hQ2]; rintro c a a' w w' ⟨h, _⟩; cases h
        replace hQ2 := hid hQ2
        refine wp_mono (Q := Q2) ?_ ?_
        ·subst hA_
         refine wp_region_held_drew (S := fun w' => Ext d8 w') (by kernel_rfl) (by repeat (with_reducible first | assumption | exact Ext.refl _ | refine Ext.drew ?_ | refine Ext.drewN ?_ _ | refine Ext.alloc ?_ _ | refine xS ?_ _ | refine xT ?_ (by assumption))) fun hHeld => ?_
         refine name_any (fun W0 hW => ?_)
         have s0 : Ext d8 W0 := by rw [hW]; exact hHeld
         clear hW hHeld
         refine tkA (i := 0) (v := ?_) rfl (fun c a w h => hpan c _ _ _ _ h) (Or.inl ⟨by rfl, ?yl⟩) (by assumption) ?_
         case yl => (intro w hSw; (try dsimp only at hSw); have k_0 := Ext.cell hSw q0; have k_1 := Ext.cell hSw q1; go_simp); with_reducible rfl
         try simp only [sxA, sxB, sxC, Act.put, sxD, sxE, sxF]
         refine tkA (i := 1) (v := ?_) rfl (fun c a w h => hpan c _ _ _ _ h) (Or.inl ⟨by rfl, ?yl⟩) (by assumption) ?_
         case yl => (intro w hSw; (try dsimp only at hSw); have k_0 := Ext.cell hSw q0; have k_1 := Ext.cell hSw q1; go_simp); with_reducible rfl
         try simp only [sxA, sxB, sxC, Act.put, sxD, sxE, sxF]
         refine tkA (i := 2) (v := ?_) rfl (fun c a w h => hpan c _ _ _ _ h) (Or.inl ⟨by rfl, ?yl⟩) (by assumption) ?_
         case yl => (intro w hSw; (try dsimp only at hSw); have k_0 := Ext.cell hSw q0; have k_1 := Ext.cell hSw q1; go_simp); with_reducible rfl
         try simp only [sxA, sxB, sxC, Act.put, sxD, sxE, sxF]
         refine tkA (i := 3) (v := ?_) rfl (fun c a w h => hpan c _ _ _ _ h) (Or.inl ⟨by rfl, ?yl⟩) (by assumption) ?_
         case yl => (intro w hSw; (try dsimp only at hSw); have k_0 := Ext.cell hSw q0; have k_1 := Ext.cell hSw q1; go_simp); with_reducible rfl
         try simp only [sxA, sxB, sxC, Act.put, sxD, sxE, sxF]
         refine tkA (i := 4) (v := ?_) rfl (fun c a w h => hpan c _ _ _ _ h) (Or.inl ⟨by rfl, ?yl⟩) (by assumption) ?_
         case yl => (intro w hSw; (try dsimp only at hSw); have k_0 := Ext.cell hSw q0; have k_1 := Ext.cell hSw q1; go_simp); with_reducible rfl
         try simp only [sxA, sxB, sxC, Act.put, sxD, sxE, sxF]
         refine tkA (i := 5) (v := ?_) rfl (fun c a w h => hpan c _ _ _ _ h) (Or.inl ⟨by rfl, ?yl⟩) (by assumption) ?_
         case yl => (intro w hSw; (try dsimp only at hSw); have k_0 := Ext.cell hSw q0; have k_1 := Ext.cell hSw q1; go_simp); with_reducible rfl
         try simp only [sxA, sxB, sxC, Act.put, sxD, sxE, sxF]
         refine tkA (i := 6) (v := ?_) rfl (fun c a w h => hpan c _ _ _ _ h) (Or.inl ⟨by rfl, ?yl⟩) (by assumption) ?_
         case yl => (intro w hSw; (try dsimp only at hSw); have k_0 := Ext.cell hSw q0; have k_1 := Ext.cell hSw q1; go_simp); with_reducible rfl
         try simp only [sxA, sxB, sxC, Act.put, sxD, sxE, sxF]
         refine tkA (i := 7) (v := ?_) rfl (fun c a w h => hpan c _ _ _ _ h) (Or.inl ⟨by rfl, ?yl⟩) (by assumption) ?_
         case yl => (intro w hSw; (try dsimp only at hSw); have k_0 := Ext.cell hSw q0; have k_1 := Ext.cell hSw q1; go_simp); with_reducible rfl
         try simp only [sxA, sxB, sxC, Act.put, sxD, sxE, sxF]
         refine tkA (i := 8) (v := ?_) rfl (fun c a w h => hpan c _ _ _ _ h) (Or.inl ⟨by rfl, ?yl⟩) (by assumption) ?_
         case yl => (intro w hSw; (try dsimp only at hSw); have k_0 := Ext.cell hSw q0; have k_1 := Ext.cell hSw q1; go_simp); with_reducible rfl
         try simp only [sxA, sxB, sxC, Act.put, sxD, sxE, sxF]
         refine tkA (i := 10) (v := ?_) rfl (fun c a w h => hpan c _ _ _ _ h) (Or.inl ⟨by rfl, ?yl⟩) (by assumption) ?_
         case yl => (intro w hSw; (try dsimp only at hSw); have k_0 := Ext.cell hSw q0; have k_1 := Ext.cell hSw q1; go_simp); with_reducible rfl
         try simp only [sxA, sxB, sxC, Act.put, sxD, sxE, sxF]
         refine wpAnyH_ready (rs := [9, 18]) (by kernel_rfl) (by simp) ?_
         refine AllReadyH.cons (o := _) rfl (fun K hK => ?_) ?_
         ·skip
          go_simp
          try rw [sh1, sh3]
          refine (hR1.out _).mono ?_; rintro e W1 ⟨ar_24, cr_24, rfl, _hi24_, e1⟩
          have s1 := s0.trans e1
          have _hi24 := hid _hi24_; clear _hi24_
          refine hK.out _ _ s1 (fun _ => ?_)
          clear hK K
          (try simp only [sxA, sxB, sxC, Act.put, sxD, sxE, sxF])
          refine wpAnyH_ready (rs := [11, 18]) (by kernel_rfl) (by simp) ?_
          refine AllReadyH.cons (o := _) rfl (fun K hK => ?_) ?_
          ·skip
           go_simp
           refine (hP2.out _ _ _ _ _ (hT'.out.ext (X.out.trans s1)) (_hi24.out.1.ext (Ext.refl W1)) (lb.out.ext s1)).mono ?_; rintro e W2 ⟨ap_24, cp_24, rfl, _hp24_, e2⟩
           have s2 := s1.trans e2
           have _hp24 := hid _hp24_; clear _hp24_
           refine hK.out _ _ s2 (fun _ => ?_)
           clear hK K
           (try simp only [sxA, sxB, sxC, Act.put, sxD, sxE, sxF])
           refine wpAnyH_ready (rs := [12, 18]) (by kernel_rfl) (by simp) ?_
           refine AllReadyH.cons (o := _) rfl (fun K hK => ?_) ?_
           ·skip
            go_simp
            refine (hX2.out _ _ _ (_hp24.out.ext (Ext.refl W2))).mono ?_; rintro e W3 ⟨as_24, cs_24, at_24, ct_24, rfl, _hv24_, _hw24_, e3⟩
            have s3 := s2.trans e3
            have _hv24 := hid _hv24_; clear _hv24_
            have _hw24 := hid _hw24_; clear _hw24_
            refine hK.out _ _ s3 (fun _ => ?_)
            clear hK K
            (try simp only [sxA, sxB, sxC, Act.put, sxD, sxE, sxF])
            refine tkA (i := 13) (v := ?_) rfl (fun c a w h => hpan c _ _ _ _ h) (Or.inl ⟨by rfl, ?yl⟩) (by assumption) ?_
            case yl => (intro w hSw; (try dsimp only at hSw); have k_0 := Ext.cell hSw q0; have k_1 := Ext.cell hSw q1; go_simp); with_reducible rfl
            try simp only [sxA, sxB, sxC, Act.put, sxD, sxE, sxF]
            refine tkA (i := 14) (v := ?_) rfl (fun c a w h => hpan c _ _ _ _ h) (Or.inl ⟨by rfl, ?yl⟩) (by assumption) ?_
            case yl => (intro w hSw; (try dsimp only at hSw); have k_0 := Ext.cell hSw q0; have k_1 := Ext.cell hSw q1; go_simp); with_reducible rfl
            try simp only [sxA, sxB, sxC, Act.put, sxD, sxE, sxF]
            refine tkA (i := 15) (v := ?_) rfl (fun c a w h => hpan c _ _ _ _ h) (Or.inl ⟨by rfl, ?yl⟩) (by assumption) ?_
            case yl => (intro w hSw; (try dsimp only at hSw); have k_0 := Ext.cell hSw q0; have k_1 := Ext.cell hSw q1; go_simp); with_reducible rfl
            try simp only [sxA, sxB, sxC, Act.put, sxD, sxE, sxF]
            refine tkA (i := 16) (v := ?_) rfl (fun c a w h => hpan c _ _ _ _ h) (Or.inl ⟨by rfl, ?yl⟩) (by assumption) ?_
            case yl => (intro w hSw; (try dsimp only at hSw); have k_0 := Ext.cell hSw q0; have k_1 := Ext.cell hSw q1; go_simp); with_reducible rfl
            try simp only [sxA, sxB, sxC, Act.put, sxD, sxE, sxF]
            refine tkA (i := 17) (v := ?_) rfl (fun c a w h => hpan c _ _ _ _ h) (Or.inl ⟨by rfl, ?yl⟩) (by assumption) ?_
            case yl => (intro w hSw; (try dsimp only at hSw); have k_0 := Ext.cell hSw q0; have k_1 := Ext.cell hSw q1; go_simp); with_reducible rfl
            try simp only [sxA, sxB, sxC, Act.put, sxD, sxE, sxF]
            refine wpAnyH_ready (rs := [18]) (by kernel_rfl) (by simp) ?_
            refine AllReadyH.cons (o := _) rfl (fun K hK => ?_) AllReadyH.nil
            go_simp
            refine hK.out _ _ (Ext.alloc s3 _) (fun _ => ?_)
            clear hK K
            (try simp only [sxA, sxB, sxC, Act.put, sxD, sxE, sxF])
            refine name_any (fun W4 hW => ?_)
            have e4 : Ext W3 W4 := by rw [hW]; exact Ext.alloc (Ext.refl _) _
            have s4 := s3.trans e4
            have b18_0 := hid (show W4.cell? ⟨W3.heap.size, 0, none⟩ = some (.int .i64 0) by rw [hW]; simp [go_sem])
            have b18_1 := hid (show W4.cell? ⟨W3.heap.size, 1, none⟩ = some (.int .i64 0) by rw [hW]; simp [go_sem])
            have d18_0 := hid (show W4.frozen? ⟨W3.heap.size, 0, none⟩ = false by rw [hW]; simp [go_sem])
            have d18_1 := hid (show W4.frozen? ⟨W3.heap.size, 1, none⟩ = false by rw [hW]; simp [go_sem])
            have l18 := hid (show W3.heap.size < W4.heap.size by rw [hW]; simp [go_sem])
            clear hW
            refine wpAnyH_ready (rs := [19]) (by kernel_rfl) (by simp) ?_
            refine AllReadyH.cons (o := _) rfl (fun K hK => ?_) AllReadyH.nil
            have f0 := Ext.cell (Ext.refl W4) b18_0.out
            have g0 := (Ext.frozen (Ext.refl W4) (p := ⟨W3.heap.size, 0, none⟩) l18.out).trans d18_0.out
            have f1 := Ext.cell (Ext.refl W4) b18_1.out
            have g1 := (Ext.frozen (Ext.refl W4) (p := ⟨W3.heap.size, 1, none⟩) l18.out).trans d18_1.out
            have l0_ := s3.size
            go_simp
            refine hK.out _ _ (by repeat (with_reducible first | assumption | exact Ext.refl _ | refine Ext.drew ?_ | refine Ext.drewN ?_ _ | refine Ext.alloc ?_ _ | refine xS ?_ _ | refine xT ?_ (by assumption))) (fun _ => ?_)
            clear hK K
            (try simp only [sxA, sxB, sxC, Act.put, sxD, sxE, sxF])
            refine name_any (fun W5 hW => ?_)
            have s5 : Ext d8 W5 := by rw [hW]; exact (by repeat (with_reducible first | assumption | exact Ext.refl _ | refine Ext.drew ?_ | refine Ext.drewN ?_ _ | refine Ext.alloc ?_ _ | refine xS ?_ _ | refine xT ?_ (by assumption)))
            skip
            have c18_0 := hid (show W5.cell? ⟨W3.heap.size, 0, none⟩ = some (.int .i64 vn) by rw [hW]; simp [go_sem, f0, f1])
            have c18_1 := hid (show W5.cell? ⟨W3.heap.size, 1, none⟩ = some (.int .i64 vd) by rw [hW]; simp [go_sem, f0, f1])
            have z18_0 := hid (show W5.frozen? ⟨W3.heap.size, 0, none⟩ = false by rw [hW]; simp [go_sem, World.frozen?_setCell, g0, g1])
            have z18_1 := hid (show W5.frozen? ⟨W3.heap.size, 1, none⟩ = false by rw [hW]; simp [go_sem, World.frozen?_setCell, g0, g1])
            clear hW l0_ f0 g0 f1 g1
            refine tkA (i := 20) (v := ?_) rfl (fun c a w h => hpan c _ _ _ _ h) (Or.inl ⟨by rfl, ?yl⟩) (by assumption) ?_
            case yl => (intro w hSw; (try dsimp only at hSw); have k_0 := Ext.cell hSw q0; have k_1 := Ext.cell hSw q1; go_simp); with_reducible rfl
            try simp only [sxA, sxB, sxC, Act.put, sxD, sxE, sxF]
            refine tkA (i := 21) (v := ?_) rfl (fun c a w h => hpan c _ _ _ _ h) (Or.inl ⟨by rfl, ?yl⟩) (by assumption) ?_
            case yl => (intro w hSw; (try dsimp only at hSw); have k_0 := Ext.cell hSw q0; have k_1 := Ext.cell hSw q1; go_simp); with_reducible rfl
            try simp only [sxA, sxB, sxC, Act.put, sxD, sxE, sxF]
            refine tkA (i := 22) (v := ?_) rfl (fun c a w h => hpan c _ _ _ _ h) (Or.inl ⟨by rfl, ?yl⟩) (by assumption) ?_
            case yl => (intro w hSw; (try dsimp only at hSw); have k_0 := Ext.cell hSw q0; have k_1 := Ext.cell hSw q1; go_simp); with_reducible rfl
            try simp only [sxA, sxB, sxC, Act.put, sxD, sxE, sxF]
            refine wpAnyH_done (by kernel_rfl) ?_ _
            try simp only [sxA, sxB, sxC, Act.put, sxD, sxE, sxF]
            rw [hQ2.out]
            refine ⟨rfl, ar_24, cr_24, ap_24, cp_24, as_24, cs_24, at_24, ct_24, W3.heap.size, ?u2_0_1, ?u2_1_1, ?u2_2_1, ?u2_3_1, ?u2_4_1, ?u2_5_1, ?u2_6_1, ?u2_7_1, ?u2_8_1, ?u2_9_1, ?u2_10_1, ?u2_11_1, ?u2_12_1, ?u2_13_1, ?u2_14_1, ?u2_15_1, ?u2_16_1, ?eq2_1, s5, ((Ext.refl W5).cell c18_0.out), ((Ext.refl W5).cell c18_1.out), (((Ext.refl W5).frozen (cell_lt c18_0.out)).trans z18_0.out), (((Ext.refl W5).frozen (cell_lt c18_1.out)).trans z18_1.out), s3.size⟩
            case eq2_1 => ((try simp only [sxA, sxB, sxC, Act.put, sxD, sxE, sxF]); first | done | with_reducible rfl | rfl)
           refine AllReadyH.cons (o := _) rfl (fun K hK => ?_) ?_
           ·skip
            go_simp
            refine hK.out _ _ (Ext.alloc s2 _) (fun _ => ?_)
            clear hK K
            (try simp only [sxA, sxB, sxC, Act.put, sxD, sxE, sxF])
            refine name_any (fun W3 hW => ?_)
            have e3 : Ext W2 W3 := by rw [hW]; exact Ext.alloc (Ext.refl _) _
            have s3 := s2.trans e3
            have b18_0 := hid (show W3.cell? ⟨W2.heap.size, 0, none⟩ = some (.int .i64 0) by rw [hW]; simp [go_sem])
            have b18_1 := hid (show W3.cell? ⟨W2.heap.size, 1, none⟩ = some (.int .i64 0) by rw [hW]; simp [go_sem])
            have d18_0 := hid (show W3.frozen? ⟨W2.heap.size, 0, none⟩ = false by rw [hW]; simp [go_sem])
            have d18_1 := hid (show W3.frozen? ⟨W2.heap.size, 1, none⟩ = false by rw [hW]; simp [go_sem])
            have l18 := hid (show W2.heap.size < W3.heap.size by rw [hW]; simp [go_sem])
            clear hW
            refine wpAnyH_ready (rs := [12]) (by kernel_rfl) (by simp) ?_
            refine AllReadyH.cons (o := _) rfl (fun K hK => ?_) AllReadyH.nil
            go_simp
            refine (hX2.out _ _ _ (_hp24.out.ext ((Ext.refl W2).trans e3))).mono ?_; rintro e W4 ⟨as_24, cs_24, at_24, ct_24, rfl, _hv24_, _hw24_, e4⟩
            have s4 := s3.trans e4
            have _hv24 := hid _hv24_; clear _hv24_
            have _hw24 := hid _hw24_; clear _hw24_
            refine hK.out _ _ s4 (fun _ => ?_)
            clear hK K
            (try simp only [sxA, sxB, sxC, Act.put, sxD, sxE, sxF])
            refine tkA (i := 13) (v := ?_) rfl (fun c a w h => hpan c _ _ _ _ h) (Or.inl ⟨by rfl, ?yl⟩) (by assumption) ?_
            case yl => (intro w hSw; (try dsimp only at hSw); have k_0 := Ext.cell hSw q0; have k_1 := Ext.cell hSw q1; go_simp); with_reducible rfl
            try simp only [sxA, sxB, sxC, Act.put, sxD, sxE, sxF]
            refine tkA (i := 14) (v := ?_) rfl (fun c a w h => hpan c _ _ _ _ h) (Or.inl ⟨by rfl, ?yl⟩) (by assumption) ?_
            case yl => (intro w hSw; (try dsimp only at hSw); have k_0 := Ext.cell hSw q0; have k_1 := Ext.cell hSw q1; go_simp); with_reducible rfl
            try simp only [sxA, sxB, sxC, Act.put, sxD, sxE, sxF]
            refine tkA (i := 15) (v := ?_) rfl (fun c a w h => hpan c _ _ _ _ h) (Or.inl ⟨by rfl, ?yl⟩) (by assumption) ?_
            case yl => (intro w hSw; (try dsimp only at hSw); have k_0 := Ext.cell hSw q0; have k_1 := Ext.cell hSw q1; go_simp); with_reducible rfl
            try simp only [sxA, sxB, sxC, Act.put, sxD, sxE, sxF]
            refine tkA (i := 16) (v := ?_) rfl (fun c a w h => hpan c _ _ _ _ h) (Or.inl ⟨by rfl, ?yl⟩) (by assumption) ?_
            case yl => (intro w hSw; (try dsimp only at hSw); have k_0 := Ext.cell hSw q0; have k_1 := Ext.cell hSw q1; go_simp); with_reducible rfl
            try simp only [sxA, sxB, sxC, Act.put, sxD, sxE, sxF]
            refine tkA (i := 17) (v := ?_) rfl (fun c a w h => hpan c _ _ _ _ h) (Or.inl ⟨by rfl, ?yl⟩) (by assumption) ?_
            case yl => (intro w hSw; (try dsimp only at hSw); have k_0 := Ext.cell hSw q0; have k_1 := Ext.cell hSw q1; go_simp); with_reducible rfl
            try simp only [sxA, sxB, sxC, Act.put, sxD, sxE, sxF]
            refine wpAnyH_ready (rs := [19]) (by kernel_rfl) (by simp) ?_
            refine AllReadyH.cons (o := _) rfl (fun K hK => ?_) AllReadyH.nil
            have f0 := Ext.cell ((Ext.refl W3).trans e4) b18_0.out
            have g0 := (Ext.frozen ((Ext.refl W3).trans e4) (p := ⟨W2.heap.size, 0, none⟩) l18.out).trans d18_0.out
            have f1 := Ext.cell ((Ext.refl W3).trans e4) b18_1.out
            have g1 := (Ext.frozen ((Ext.refl W3).trans e4) (p := ⟨W2.heap.size, 1, none⟩) l18.out).trans d18_1.out
            have l0_ := s2.size
            go_simp
            refine hK.out _ _ (by repeat (with_reducible first | assumption | exact Ext.refl _ | refine Ext.drew ?_ | refine Ext.drewN ?_ _ | refine Ext.alloc ?_ _ | refine xS ?_ _ | refine xT ?_ (by assumption))) (fun _ => ?_)
            clear hK K
            (try simp only [sxA, sxB, sxC, Act.put, sxD, sxE, sxF])
            refine name_any (fun W5 hW => ?_)
            have s5 : Ext d8 W5 := by rw [hW]; exact (by repeat (with_reducible first | assumption | exact Ext.refl _ | refine Ext.drew ?_ | refine Ext.drewN ?_ _ | refine Ext.alloc ?_ _ | refine xS ?_ _ | refine xT ?_ (by assumption)))
            skip
            have c18_0 := hid (show W5.cell? ⟨W2.heap.size, 0, none⟩ = some (.int .i64 vn) by rw [hW]; simp [go_sem, f0, f1])
            have c18_1 := hid (show W5.cell? ⟨W2.heap.size, 1, none⟩ = some (.int .i64 vd) by rw [hW]; simp [go_sem, f0, f1])
            have z18_0 := hid (show W5.frozen? ⟨W2.heap.size, 0, none⟩ = false by rw [hW]; simp [go_sem, World.frozen?_setCell, g0, g1])
            have z18_1 := hid (show W5.frozen? ⟨W2.heap.size, 1, none⟩ = false by rw [hW]; simp [go_sem, World.frozen?_setCell, g0, g1])
            clear hW l0_ f0 g0 f1 g1
            refine tkA (i := 20) (v := ?_) rfl (fun c a w h => hpan c _ _ _ _ h) (Or.inl ⟨by rfl, ?yl⟩) (by assumption) ?_
            case yl => (intro w hSw; (try dsimp only at hSw); have k_0 := Ext.cell hSw q0; have k_1 := Ext.cell hSw q1; go_simp); with_reducible rfl
            try simp only [sxA, sxB, sxC, Act.put, sxD, sxE, sxF]
            refine tkA (i := 21) (v := ?_) rfl (fun c a w h => hpan c _ _ _ _ h) (Or.inl ⟨by rfl, ?yl⟩) (by assumption) ?_
            case yl => (intro w hSw; (try dsimp only at hSw); have k_0 := Ext.cell hSw q0; have k_1 := Ext.cell hSw q1; go_simp); with_reducible rfl
            try simp only [sxA, sxB, sxC, Act.put, sxD, sxE, sxF]
            refine tkA (i := 22) (v := ?_) rfl (fun c a w h => hpan c _ _ _ _ h) (Or.inl ⟨by rfl, ?yl⟩) (by assumption) ?_
            case yl => (intro w hSw; (try dsimp only at hSw); have k_0 := Ext.cell hSw q0; have k_1 := Ext.cell hSw q1; go_simp); with_reducible rfl
            try simp only [sxA, sxB, sxC, Act.put, sxD, sxE, sxF]
            refine wpAnyH_done (by kernel_rfl) ?_ _
            try simp only [sxA, sxB, sxC, Act.put, sxD, sxE, sxF]
            rw [hQ2.out]
            refine ⟨rfl, ar_24, cr_24, ap_24, cp_24, as_24, cs_24, at_24, ct_24, W2.heap.size, ?u2_0_2, ?u2_1_2, ?u2_2_2, ?u2_3_2, ?u2_4_2, ?u2_5_2, ?u2_6_2, ?u2_7_2, ?u2_8_2, ?u2_9_2, ?u2_10_2, ?u2_11_2, ?u2_12_2, ?u2_13_2, ?u2_14_2, ?u2_15_2, ?u2_16_2, ?eq2_2, s5, ((Ext.refl W5).cell c18_0.out), ((Ext.refl W5).cell c18_1.out), (((Ext.refl W5).frozen (cell_lt c18_0.out)).trans z18_0.out), (((Ext.refl W5).frozen (cell_lt c18_1.out)).trans z18_1.out), s2.size⟩
            case eq2_2 => ((try simp only [sxA, sxB, sxC, Act.put, sxD, sxE, sxF]); first | done | with_reducible rfl | rfl)
           exact AllReadyH.nil
          refine AllReadyH.cons (o := _) rfl (fun K hK => ?_) ?_
          ·skip
           go_simp
           refine hK.out _ _ (Ext.alloc s1 _) (fun _ => ?_)
           clear hK K
           (try simp only [sxA, sxB, sxC, Act.put, sxD, sxE, sxF])
           refine name_any (fun W2 hW => ?_)
           have e2 : Ext W1 W2 := by rw [hW]; exact Ext.alloc (Ext.refl _) _
           have s2 := s1.trans e2
           have b18_0 := hid (show W2.cell? ⟨W1.heap.size, 0, none⟩ = some (.int .i64 0) by rw [hW]; simp [go_sem])
           have b18_1 := hid (show W2.cell? ⟨W1.heap.size, 1, none⟩ = some (.int .i64 0) by rw [hW]; simp [go_sem])
           have d18_0 := hid (show W2.frozen? ⟨W1.heap.size, 0, none⟩ = false by rw [hW]; simp [go_sem])
           have d18_1 := hid (show W2.frozen? ⟨W1.heap.size, 1, none⟩ = false by rw [hW]; simp [go_sem])
           have l18 := hid (show W1.heap.size < W2.heap.size by rw [hW]; simp [go_sem])
           clear hW
           refine wpAnyH_ready (rs := [11]) (by kernel_rfl) (by simp) ?_
           refine AllReadyH.cons (o := _) rfl (fun K hK => ?_) AllReadyH.nil
           go_simp
           refine (hP2.out _ _ _ _ _ (hT'.out.ext (X.out.trans s2)) (_hi24.out.1.ext ((Ext.refl W1).trans e2)) (lb.out.ext s2)).mono ?_; rintro e W3 ⟨ap_24, cp_24, rfl, _hp24_, e3⟩
           have s3 := s2.trans e3
           have _hp24 := hid _hp24_; clear _hp24_
           refine hK.out _ _ s3 (fun _ => ?_)
           clear hK K
           (try simp only [sxA, sxB, sxC, Act.put, sxD, sxE, sxF])
           refine wpAnyH_ready (rs := [12]) (by kernel_rfl) (by simp) ?_
           refine AllReadyH.cons (o := _) rfl (fun K hK => ?_) AllReadyH.nil
           go_simp
           refine (hX2.out _ _ _ (_hp24.out.ext (Ext.refl W3))).mono ?_; rintro e W4 ⟨as_24, cs_24, at_24, ct_24, rfl, _hv24_, _hw24_, e4⟩
           have s4 := s3.trans e4
           have _hv24 := hid _hv24_; clear _hv24_
           have _hw24 := hid _hw24_; clear _hw24_
           refine hK.out _ _ s4 (fun _ => ?_)
           clear hK K
           (try simp only [sxA, sxB, sxC, Act.put, sxD, sxE, sxF])
           refine tkA (i := 13) (v := ?_) rfl (fun c a w h => hpan c _ _ _ _ h) (Or.inl ⟨by rfl, ?yl⟩) (by assumption) ?_
           case yl => (intro w hSw; (try dsimp only at hSw); have k_0 := Ext.cell hSw q0; have k_1 := Ext.cell hSw q1; go_simp); with_reducible rfl
           try simp only [sxA, sxB, sxC, Act.put, sxD, sxE, sxF]
           refine tkA (i := 14) (v := ?_) rfl (fun c a w h => hpan c _ _ _ _ h) (Or.inl ⟨by rfl, ?yl⟩) (by assumption) ?_
           case yl => (intro w hSw; (try dsimp only at hSw); have k_0 := Ext.cell hSw q0; have k_1 := Ext.cell hSw q1; go_simp); with_reducible rfl
           try simp only [sxA, sxB, sxC, Act.put, sxD, sxE, sxF]
           refine tkA (i := 15) (v := ?_) rfl (fun c a w h => hpan c _ _ _ _ h) (Or.inl ⟨by rfl, ?yl⟩) (by assumption) ?_
           case yl => (intro w hSw; (try dsimp only at hSw); have k_0 := Ext.cell hSw q0; have k_1 := Ext.cell hSw q1; go_simp); with_reducible rfl
           try simp only [sxA, sxB, sxC, Act.put, sxD, sxE, sxF]
           refine tkA (i := 16) (v := ?_) rfl (fun c a w h => hpan c _ _ _ _ h) (Or.inl ⟨by rfl, ?yl⟩) (by assumption) ?_
           case yl => (intro w hSw; (try dsimp only at hSw); have k_0 := Ext.cell hSw q0; have k_1 := Ext.cell hSw q1; go_simp); with_reducible rfl
           try simp only [sxA, sxB, sxC, Act.put, sxD, sxE, sxF]
           refine tkA (i := 17) (v := ?_) rfl (fun c a w h => hpan c _ _ _ _ h) (Or.inl ⟨by rfl, ?yl⟩) (by assumption) ?_
           case yl => (intro w hSw; (try dsimp only at hSw); have k_0 := Ext.cell hSw q0; have k_1 := Ext.cell hSw q1; go_simp); with_reducible rfl
           try simp only [sxA, sxB, sxC, Act.put, sxD, sxE, sxF]
           refine wpAnyH_ready (rs := [19]) (by kernel_rfl) (by simp) ?_
           refine AllReadyH.cons (o := _) rfl (fun K hK => ?_) AllReadyH.nil
           have f0 := Ext.cell (((Ext.refl W2).trans e3).trans e4) b18_0.out
           have g0 := (Ext.frozen (((Ext.refl W2).trans e3).trans e4) (p := ⟨W1.heap.size, 0, none⟩) l18.out).trans d18_0.out
           have f1 := Ext.cell (((Ext.refl W2).trans e3).trans e4) b18_1.out
           have g1 := (Ext.frozen (((Ext.refl W2).trans e3).trans e4) (p := ⟨W1.heap.size, 1, none⟩) l18.out).trans d18_1.out
           have l0_ := s1.size
           go_simp
           refine hK.out _ _ (by repeat (with_reducible first | assumption | exact Ext.refl _ | refine Ext.drew ?_ | refine Ext.drewN ?_ _ | refine Ext.alloc ?_ _ | refine xS ?_ _ | refine xT ?_ (by assumption))) (fun _ => ?_)
           clear hK K
           (try simp only [sxA, sxB, sxC, Act.put, sxD, sxE, sxF])
           refine name_any (fun W5 hW => ?_)
           have s5 : Ext d8 W5 := by rw [hW]; exact (by repeat (with_reducible first | assumption | exact Ext.refl _ | refine Ext.drew ?_ | refine Ext.drewN ?_ _ | refine Ext.alloc ?_ _ | refine xS ?_ _ | refine xT ?_ (by assumption)))
           skip
           have c18_0 := hid (show W5.cell? ⟨W1.heap.size, 0, none⟩ = some (.int .i64 vn) by rw [hW]; simp [go_sem, f0, f1])
           have c18_1 := hid (show W5.cell? ⟨W1.heap.size, 1, none⟩ = some (.int .i64 vd) by rw [hW]; simp [go_sem, f0, f1])
           have z18_0 := hid (show W5.frozen? ⟨W1.heap.size, 0, none⟩ = false by rw [hW]; simp [go_sem, World.frozen?_setCell, g0, g1])
           have z18_1 := hid (show W5.frozen? ⟨W1.heap.size, 1, none⟩ = false by rw [hW]; simp [go_sem, World.frozen?_setCell, g0, g1])
           clear hW l0_ f0 g0 f1 g1
           refine tkA (i := 20) (v := ?_) rfl (fun c a w h => hpan c _ _ _ _ h) (Or.inl ⟨by rfl, ?yl⟩) (by assumption) ?_
           case yl => (intro w hSw; (try dsimp only at hSw); have k_0 := Ext.cell hSw q0; have k_1 := Ext.cell hSw q1; go_simp); with_reducible rfl
           try simp only [sxA, sxB, sxC, Act.put, sxD, sxE, sxF]
           refine tkA (i := 21) (v := ?_) rfl (fun c a w h => hpan c _ _ _ _ h) (Or.inl ⟨by rfl, ?yl⟩) (by assumption) ?_
           case yl => (intro w hSw; (try dsimp only at hSw); have k_0 := Ext.cell hSw q0; have k_1 := Ext.cell hSw q1; go_simp); with_reducible rfl
           try simp only [sxA, sxB, sxC, Act.put, sxD, sxE, sxF]
           refine tkA (i := 22) (v := ?_) rfl (fun c a w h => hpan c _ _ _ _ h) (Or.inl ⟨by rfl, ?yl⟩) (by assumption) ?_
           case yl => (intro w hSw; (try dsimp only at hSw); have k_0 := Ext.cell hSw q0; have k_1 := Ext.cell hSw q1; go_simp); with_reducible rfl
           try simp only [sxA, sxB, sxC, Act.put, sxD, sxE, sxF]
           refine wpAnyH_done (by kernel_rfl) ?_ _
           try simp only [sxA, sxB, sxC, Act.put, sxD, sxE, sxF]
           rw [hQ2.out]
           refine ⟨rfl, ar_24, cr_24, ap_24, cp_24, as_24, cs_24, at_24, ct_24, W1.heap.size, ?u2_0_3, ?u2_1_3, ?u2_2_3, ?u2_3_3, ?u2_4_3, ?u2_5_3, ?u2_6_3, ?u2_7_3, ?u2_8_3, ?u2_9_3, ?u2_10_3, ?u2_11_3, ?u2_12_3, ?u2_13_3, ?u2_14_3, ?u2_15_3, ?u2_16_3, ?eq2_3, s5, ((Ext.refl W5).cell c18_0.out), ((Ext.refl W5).cell c18_1.out), (((Ext.refl W5).frozen (cell_lt c18_0.out)).trans z18_0.out), (((Ext.refl W5).frozen (cell_lt c18_1.out)).trans z18_1.out), s1.size⟩
           case eq2_3 => ((try simp only [sxA, sxB, sxC, Act.put, sxD, sxE, sxF]); first | done | with_reducible rfl | rfl)
          exact AllReadyH.nil
         refine AllReadyH.cons (o := _) rfl (fun K hK => ?_) ?_
         ·skip
          go_simp
          refine hK.out _ _ (Ext.alloc s0 _) (fun _ => ?_)
          clear hK K
          (try simp only [sxA, sxB, sxC, Act.put, sxD, sxE, sxF])
          refine name_any (fun W1 hW => ?_)
          have e1 : Ext W0 W1 := by rw [hW]; exact Ext.alloc (Ext.refl _) _
          have s1 := s0.trans e1
          have b18_0 := hid (show W1.cell? ⟨W0.heap.size, 0, none⟩ = some (.int .i64 0) by rw [hW]; simp [go_sem])
          have b18_1 := hid (show W1.cell? ⟨W0.heap.size, 1, none⟩ = some (.int .i64 0) by rw [hW]; simp [go_sem])
          have d18_0 := hid (show W1.frozen? ⟨W0.heap.size, 0, none⟩ = false by rw [hW]; simp [go_sem])
          have d18_1 := hid (show W1.frozen? ⟨W0.heap.size, 1, none⟩ = false by rw [hW]; simp [go_sem])
          have l18 := hid (show W0.heap.size < W1.heap.size by rw [hW]; simp [go_sem])
          clear hW
          refine wpAnyH_ready (rs := [9]) (by kernel_rfl) (by simp) ?_
          refine AllReadyH.cons (o := _) rfl (fun K hK => ?_) AllReadyH.nil
          go_simp
          try rw [sh1, sh3]
          refine (hR1.out _).mono ?_; rintro e W2 ⟨ar_24, cr_24, rfl, _hi24_, e2⟩
          have s2 := s1.trans e2
          have _hi24 := hid _hi24_; clear _hi24_
          refine hK.out _ _ s2 (fun _ => ?_)
          clear hK K
          (try simp only [sxA, sxB, sxC, Act.put, sxD, sxE, sxF])
          refine wpAnyH_ready (rs := [11]) (by kernel_rfl) (by simp) ?_
          refine AllReadyH.cons (o := _) rfl (fun K hK => ?_) AllReadyH.nil
          go_simp
          refine (hP2.out _ _ _ _ _ (hT'.out.ext (X.out.trans s2)) (_hi24.out.1.ext (Ext.refl W2)) (lb.out.ext s2)).mono ?_; rintro e W3 ⟨ap_24, cp_24, rfl, _hp24_, e3⟩
          have s3 := s2.trans e3
          have _hp24 := hid _hp24_; clear _hp24_
          refine hK.out _ _ s3 (fun _ => ?_)
          clear hK K
          (try simp only [sxA, sxB, sxC, Act.put, sxD, sxE, sxF])
          refine wpAnyH_ready (rs := [12]) (by kernel_rfl) (by simp) ?_
          refine AllReadyH.cons (o := _) rfl (fun K hK => ?_) AllReadyH.nil
          go_simp
          refine (hX2.out _ _ _ (_hp24.out.ext (Ext.refl W3))).mono ?_; rintro e W4 ⟨as_24, cs_24, at_24, ct_24, rfl, _hv24_, _hw24_, e4⟩
          have s4 := s3.trans e4
          have _hv24 := hid _hv24_; clear _hv24_
          have _hw24 := hid _hw24_; clear _hw24_
          refine hK.out _ _ s4 (fun _ => ?_)
          clear hK K
          (try simp only [sxA, sxB, sxC, Act.put, sxD, sxE, sxF])
          refine tkA (i := 13) (v := ?_) rfl (fun c a w h => hpan c _ _ _ _ h) (Or.inl ⟨by rfl, ?yl⟩) (by assumption) ?_
          case yl => (intro w hSw; (try dsimp only at hSw); have k_0 := Ext.cell hSw q0; have k_1 := Ext.cell hSw q1; go_simp); with_reducible rfl
          try simp only [sxA, sxB, sxC, Act.put, sxD, sxE, sxF]
          refine tkA (i := 14) (v := ?_) rfl (fun c a w h => hpan c _ _ _ _ h) (Or.inl ⟨by rfl, ?yl⟩) (by assumption) ?_
          case yl => (intro w hSw; (try dsimp only at hSw); have k_0 := Ext.cell hSw q0; have k_1 := Ext.cell hSw q1; go_simp); with_reducible rfl
          try simp only [sxA, sxB, sxC, Act.put, sxD, sxE, sxF]
          refine tkA (i := 15) (v := ?_) rfl (fun c a w h => hpan c _ _ _ _ h) (Or.inl ⟨by rfl, ?yl⟩) (by assumption) ?_
          case yl => (intro w hSw; (try dsimp only at hSw); have k_0 := Ext.cell hSw q0; have k_1 := Ext.cell hSw q1; go_simp); with_reducible rfl
          try simp only [sxA, sxB, sxC, Act.put, sxD, sxE, sxF]
          refine tkA (i := 16) (v := ?_) rfl (fun c a w h => hpan c _ _ _ _ h) (Or.inl ⟨by rfl, ?yl⟩) (by assumption) ?_
          case yl => (intro w hSw; (try dsimp only at hSw); have k_0 := Ext.cell hSw q0; have k_1 := Ext.cell hSw q1; go_simp); with_reducible rfl
          try simp only [sxA, sxB, sxC, Act.put, sxD, sxE, sxF]
          refine tkA (i := 17) (v := ?_) rfl (fun c a w h => hpan c _ _ _ _ h) (Or.inl ⟨by rfl, ?yl⟩) (by assumption) ?_
          case yl => (intro w hSw; (try dsimp only at hSw); have k_0 := Ext.cell hSw q0; have k_1 := Ext.cell hSw q1; go_simp); with_reducible rfl
          try simp only [sxA, sxB, sxC, Act.put, sxD, sxE, sxF]
          refine wpAnyH_ready (rs := [19]) (by kernel_rfl) (by simp) ?_
          refine AllReadyH.cons (o := _) rfl (fun K hK => ?_) AllReadyH.nil
          have f0 := Ext.cell ((((Ext.refl W1).trans e2).trans e3).trans e4) b18_0.out
          have g0 := (Ext.frozen ((((Ext.refl W1).trans e2).trans e3).trans e4) (p := ⟨W0.heap.size, 0, none⟩) l18.out).trans d18_0.out
          have f1 := Ext.cell ((((Ext.refl W1).trans e2).trans e3).trans e4) b18_1.out
          have g1 := (Ext.frozen ((((Ext.refl W1).trans e2).trans e3).trans e4) (p := ⟨W0.heap.size, 1, none⟩) l18.out).trans d18_1.out
          have l0_ := s0.size
          go_simp
          refine hK.out _ _ (by repeat (with_reducible first | assumption | exact Ext.refl _ | refine Ext.drew ?_ | refine Ext.drewN ?_ _ | refine Ext.alloc ?_ _ | refine xS ?_ _ | refine xT ?_ (by assumption))) (fun _ => ?_)
          clear hK K
          (try simp only [sxA, sxB, sxC, Act.put, sxD, sxE, sxF])
          refine name_any (fun W5 hW => ?_)
          have s5 : Ext d8 W5 := by rw [hW]; exact (by repeat (with_reducible first | assumption | exact Ext.refl _ | refine Ext.drew ?_ | refine Ext.drewN ?_ _ | refine Ext.alloc ?_ _ | refine xS ?_ _ | refine xT ?_ (by assumption)))
          skip
          have c18_0 := hid (show W5.cell? ⟨W0.heap.size, 0, none⟩ = some (.int .i64 vn) by rw [hW]; simp [go_sem, f0, f1])
          have c18_1 := hid (show W5.cell? ⟨W0.heap.size, 1, none⟩ = some (.int .i64 vd) by rw [hW]; simp [go_sem, f0, f1])
          have z18_0 := hid (show W5.frozen? ⟨W0.heap.size, 0, none⟩ = false by rw [hW]; simp [go_sem, World.frozen?_setCell, g0, g1])
          have z18_1 := hid (show W5.frozen? ⟨W0.heap.size, 1, none⟩ = false by rw [hW]; simp [go_sem, World.frozen?_setCell, g0, g1])
          clear hW l0_ f0 g0 f1 g1
          refine tkA (i := 20) (v := ?_) rfl (fun c a w h => hpan c _ _ _ _ h) (Or.inl ⟨by rfl, ?yl⟩) (by assumption) ?_
          case yl => (intro w hSw; (try dsimp only at hSw); have k_0 := Ext.cell hSw q0; have k_1 := Ext.cell hSw q1; go_simp); with_reducible rfl
          try simp only [sxA, sxB, sxC, Act.put, sxD, sxE, sxF]
          refine tkA (i := 21) (v := ?_) rfl (fun c a w h => hpan c _ _ _ _ h) (Or.inl ⟨by rfl, ?yl⟩) (by assumption) ?_
          case yl => (intro w hSw; (try dsimp only at hSw); have k_0 := Ext.cell hSw q0; have k_1 := Ext.cell hSw q1; go_simp); with_reducible rfl
          try simp only [sxA, sxB, sxC, Act.put, sxD, sxE, sxF]
          refine tkA (i := 22) (v := ?_) rfl (fun c a w h => hpan c _ _ _ _ h) (Or.inl ⟨by rfl, ?yl⟩) (by assumption) ?_
          case yl => (intro w hSw; (try dsimp only at hSw); have k_0 := Ext.cell hSw q0; have k_1 := Ext.cell hSw q1; go_simp); with_reducible rfl
          try simp only [sxA, sxB, sxC, Act.put, sxD, sxE, sxF]
          refine wpAnyH_done (by kernel_rfl) ?_ _
          try simp only [sxA, sxB, sxC, Act.put, sxD, sxE, sxF]
          rw [hQ2.out]
          refine ⟨rfl, ar_24, cr_24, ap_24, cp_24, as_24, cs_24, at_24, ct_24, W0.heap.size, ?u2_0_4, ?u2_1_4, ?u2_2_4, ?u2_3_4, ?u2_4_4, ?u2_5_4, ?u2_6_4, ?u2_7_4, ?u2_8_4, ?u2_9_4, ?u2_10_4, ?u2_11_4, ?u2_12_4, ?u2_13_4, ?u2_14_4, ?u2_15_4, ?u2_16_4, ?eq2_4, s5, ((Ext.refl W5).cell c18_0.out), ((Ext.refl W5).cell c18_1.out), (((Ext.refl W5).frozen (cell_lt c18_0.out)).trans z18_0.out), (((Ext.refl W5).frozen (cell_lt c18_1.out)).trans z18_1.out), s0.size⟩
          case eq2_4 => ((try simp only [sxA, sxB, sxC, Act.put, sxD, sxE, sxF]); first | done | with_reducible rfl | rfl)
         exact AllReadyH.nil
        rw [hQ2.out]
        rintro e a' d9 ⟨rfl, ar_24, cr_24, ap_24, cp_24, as_24, cs_24, at_24, ct_24, by_, v0_, v1_, v2_, v3_, v4_, v5_, v6_, v7_, v8_, v10_, v13_, v14_, v15_, v16_, v17_, v20_, v21_, rfl, x, c18_0, c18_1, fz18_0, fz18_1, z18⟩
        clear hQ2 hpan; clear Q2
        subst hA_
        simp only [sxA, sxB, sxC, Act.put, sxD, sxE, sxF]
        clear q0 q1
        replace mt0 := hid (x.cell mt0.out)
        replace f0 := hid (x.cell f0.out)
        replace lr := hid (lr.out.ext x)
        replace lk := hid (lk.out.ext x)
        replace bv0 := hid (x.cell bv0.out)
        replace bv1 := hid (x.cell bv1.out)
        replace la := hid (la.out.ext x)
        replace lb := hid (lb.out.ext x)
        replace lc := hid (lc.out.ext x)
        replace bw0 := hid (x.cell bw0.out)
        replace bw1 := hid (x.cell bw1.out)
        replace X := hid (X.out.trans x)
        clear x
        have by0 := hid c18_0
        have by1 := hid c18_1
        clear c18_0 c18_1 fz18_0 fz18_1 z18
        have r_bv0 := bv0.out
        have l_bv0 := cell_lt r_bv0
        dsimp only at l_bv0
        have r_bv1 := bv1.out
        have l_bv1 := cell_lt r_bv1
        dsimp only at l_bv1
        have r_bw0 := bw0.out
        have l_bw0 := cell_lt r_bw0
        dsimp only at l_bw0
        have r_bw1 := bw1.out
        have l_bw1 := cell_lt r_bw1
        dsimp only at l_bw1
        have r_by0 := by0.out
        have l_by0 := cell_lt r_by0
        dsimp only at l_by0
        have r_by1 := by1.out
        have l_by1 := cell_lt r_by1
        dsimp only at l_by1
        go_wp2_with fail
        refine (works_any _).mono ?_; rintro e u10 ⟨rfl, hE⟩
        have x : Ext d9 u10 := (by repeat (with_reducible first | assumption | exact Ext.refl _ | refine Ext.drew ?_ | refine Ext.drewN ?_ _ | refine Ext.alloc ?_ _ | refine xS ?_ _ | refine xT ?_ (by assumption)))
        clear r_bv0 l_bv0 r_bv1 l_bv1 r_bw0 l_bw0 r_bw1 l_bw1 r_by0 l_by0 r_by1 l_by1
        replace mt0 := hid (x.cell mt0.out)
        replace f0 := hid (x.cell f0.out)
        replace lr := hid (lr.out.ext x)
        replace lk := hid (lk.out.ext x)
        replace bv0 := hid (x.cell bv0.out)
        replace bv1 := hid (x.cell bv1.out)
        replace la := hid (la.out.ext x)
        replace lb := hid (lb.out.ext x)
        replace lc := hid (lc.out.ext x)
        replace bw0 := hid (x.cell bw0.out)
        replace bw1 := hid (x.cell bw1.out)
        replace by0 := hid (x.cell by0.out)
        replace by1 := hid (x.cell by1.out)
        replace X := hid (X.out.trans x)
        clear x hE
        go_wp2_with fail
        go_ret
        exact ⟨rfl, X.out⟩

end Go.Proofs.Ytommhgcgaclflaa
