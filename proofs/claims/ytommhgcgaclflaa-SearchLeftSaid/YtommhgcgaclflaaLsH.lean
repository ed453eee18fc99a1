/- The law SearchLeft, walked. (Printed by wip/laws.) -/
import Derived.Test.YtommhgcgaclflaaZB7
import Derived.Test.YtommhgcgaclflaaZLeft31
import Derived.Test.YtommhgcgaclflaaZLeft33
import Derived.Test.YtommhgcgaclflaaZLeft32
import Derived.Test.YtommhgcgaclflaaZB12
import Derived.Test.YtommhgcgaclflaaZB15
import Derived.Test.YtommhgcgaclflaaTD
namespace Go.Proofs.Ytommhgcgaclflaa
set_option linter.unusedVariables false
set_option linter.unusedSimpArgs false
set_option linter.unusedSectionVars false
set_option linter.unnecessarySimpa false
open Go Go.RowKit Game
set_option maxRecDepth 100000

set_option maxHeartbeats 8000000 in
theorem searchLeft_any (t : List (List Int)) (q : FitT t) (a : Option Addr) (cap : Nat) (w : World) (hT : Tab w a t) (hl : t.length ≤ 9223372036854775807) (hw : ∀ i, (row t i).length ≤ 9223372036854775807) :
 Calls Try.prog 11 #[(.agg #[.slice a t.length cap])] w fun e w' => e = .returned (.bool true) ∧ Ext w w' := by
 have hT' := hid hT
 have hfi := hid (fun W hW => fineL_any t q a cap W hW hl hw)
 by_cases g : chkT t = 0
 case neg =>
  rw [decide_eq_false g] at hfi
  replace g := hid g
  clear hT hw hl
  go_enter Try.func11, Try.ntmps11
  go_wp2_with fail
  refine (hfi.out _ (hT'.out.ext (by repeat (with_reducible first | assumption | exact Ext.refl _ | refine Ext.drew ?_ | refine Ext.drewN ?_ _ | refine Ext.alloc ?_ _ | refine xS ?_ _ | refine xT ?_ (by assumption))))).mono ?_; rintro e w1 ⟨rfl, hE⟩
  go_wp2_with fail
  refine (works_any _).mono ?_; rintro e w2 ⟨rfl, hE2⟩
  go_wp2_with fail
  go_ret
  exact ⟨rfl, (by repeat (with_reducible first | assumption | exact Ext.refl _ | refine Ext.drew ?_ | refine Ext.drewN ?_ _ | refine Ext.alloc ?_ _ | refine xS ?_ _ | refine xT ?_ (by assumption)))⟩
 case pos =>
  rw [decide_eq_true g] at hfi
  have v := chkT_ok.1 g
  have m1 := v.m1; have m4 := v.m4; have n1 := v.n1; have n4 := v.n4
  have hl1 : t.length ≤ 1000 := by omega
  have hw1 := hw_of v
  obtain ⟨b, off, B, O, CP, rfl, hb, hcc⟩ := hT.full (by omega) v.eq (by omega)
  have r00 := (hcc 0 (by omega)).1
  rw [Nat.add_zero] at r00
  have li := LI.left v 8
  have ls := LS.left t 8
  obtain ⟨a1, a2, a3⟩ := left_again v
  obtain ⟨R, hR⟩ : ∃ x, (leftN t 8).1 = x := ⟨_, rfl⟩
  obtain ⟨C, hC⟩ : ∃ x, (leftN t 8).2 = x := ⟨_, rfl⟩
  have eR : leftR t = nats R := by unfold leftR leftE; rw [if_pos g, hR]
  have eC : leftC t = nats C := by unfold leftC leftE; rw [if_pos g, hC]
  have lp := li.lp
  have lv := li.val
  have lpu := li.pure
  have lrs := ls.rs
  have lcs := ls.cs
  rw [hR] at a1 a2 a3 lp lv lpu lrs
  rw [hC] at a1 a2 a3 lp lv lpu lcs
  have vx := lp.vld
  have gx := chkT_ok.2 vx
  have qx : FitT (ptab t R C) := vld_fit vx
  have lx : (ptab t R C).length = R.length := ptab_len t R C
  have wx := lp.wd
  have xR : (leftR (ptab t R C)).length = R.length := by unfold leftR leftE; rw [if_pos gx, a3, nats_len, List.length_range]
  have xC : (leftC (ptab t R C)).length = C.length := by unfold leftC leftE; rw [if_pos gx, a3, nats_len, List.length_range]
  have r1 := lp.r1; have r4 := lp.r4; have c1 := lp.c1; have c4 := lp.c4
  have lt_ : (turn (ptab t R C)).length = C.length := by rw [turn_len, wx]
  have hlx : (ptab t R C).length ≤ 1000 := by omega
  have hwx := hw_of vx
  have h1 := hid (fun W hW => valueL_any t q g (some ⟨b, off, none⟩) cap W hW)
  have h2 := hid (fun W hW => left_any t q (some ⟨b, off, none⟩) cap W hW hl1 hw1)
  have i1 := hid (fun aa cc W hI => isListL_yes (nats R) (t.length : Int) (fun i hi => by rw [nats_len] at hi; rw [nats_nth]; have := getD_lt lp.rb hi; omega) (fun i hi => by rw [nats_len] at hi; rw [nats_nth, nats_nth]; have := ss_lt lrs (i := i) (j := i + 1) (by omega) hi; omega) (by rw [nats_len]; omega) aa cc W hI)
  have i2 := hid (fun aa cc W hI => isListL_yes (nats C) (wid t : Int) (fun i hi => by rw [nats_len] at hi; rw [nats_nth]; have := getD_lt lp.cb hi; omega) (fun i hi => by rw [nats_len] at hi; rw [nats_nth, nats_nth]; have := ss_lt lcs (i := i) (j := i + 1) (by omega) hi; omega) (by rw [nats_len]; omega) aa cc W hI)
  have hP := hid (fun ar ac cr cc W hW h1 h2 => partR_any t v R C lp.rb lp.cb (by omega) (by omega) (some ⟨b, off, none⟩) cap ar ac cr cc W hW h1 h2)
  have hX := hid (fun aa cc W hW => valueL_any (ptab t R C) qx gx aa cc W hW)
  have h4 := hid (fun aa cc W hW => left_any (ptab t R C) qx aa cc W hW hlx hwx)
  have s1 := hid (fun aa cc W hW => spareR_any (ptab t R C) vx aa cc W hW)
  have tr := hid (fun aa cc W hW => turnedR_any (ptab t R C) vx aa cc W hW)
  have s2 := hid (fun aa cc W hW => spareR_any (turn (ptab t R C)) (turn_vld vx) aa cc W hW)
  rw [a1, lx, if_neg (by omega)] at s1
  rw [a2, lt_, if_neg (by omega)] at s2
  unfold RetLeft at h2 h4
  unfold RetT at hP tr
  rw [eR, eC, nats_len, nats_len, g] at h2
  rw [xR, xC, gx, lx] at h4
  rw [nats_len] at i1 i2
  rw [lx] at hP hX tr
  rw [wx, lv] at hX
  rw [lt_] at tr
  have eS : ∀ w, (Op.equalIn 10000 30 (.agg #[.int .i64 (val t).1, .int .i64 (val t).2]) (.agg #[.int .i64 (val t).1, .int .i64 (val t).2])).run Try.prog w = .ok true w := fun w => by rw [run_eqRatio, decide_eq_true ⟨rfl, rfl⟩]
  obtain ⟨vn, hvn⟩ : ∃ x, (val t).1 = x := ⟨_, rfl⟩
  obtain ⟨vd, hvd⟩ : ∃ x, (val t).2 = x := ⟨_, rfl⟩
  rw [hvn, hvd] at h1 hX eS
  have hpu : (∃ i k : Nat, i < R.length ∧ k < C.length ∧ R.getD i 0 < t.length ∧ C.getD k 0 < wid t ∧ PureB t (R.getD i 0) (C.getD k 0) ∧ PureR (ptab t R C) i k 0) ∨ PureR (ptab t R C) 0 0 19 := by
   by_cases h : ∃ a b : Nat, a < R.length ∧ b < C.length ∧ PureB (ptab t R C) a b ∧ (∀ c d, c < a → d < C.length → ¬ PureB (ptab t R C) c d) ∧ ∀ d, d < b → ¬ PureB (ptab t R C) a d
   ·obtain ⟨i, k, hi, hk, hp, f1, f2⟩ := h
    exact .inl ⟨i, k, hi, hk, getD_lt lp.rb hi, getD_lt lp.cb hk, lpu i k hi hk hp, .inr (.inl ⟨gx, rfl, i, k, rfl, rfl, by rw [lx]; exact hi, by rw [wx]; exact hk, hp, by rw [wx]; exact f1, f2⟩)⟩
   ·refine .inr (.inr (.inr ⟨gx, rfl, rfl, rfl, ?_⟩))
    rw [lx, wx]
    intro c d hc hd hp
    obtain ⟨c0, hc0, ⟨d1, hd1, hp1⟩, hmin⟩ := least_ex (fun c => ∃ d, d < C.length ∧ PureB (ptab t R C) c d) R.length ⟨c, hc, d, hd, hp⟩
    obtain ⟨d0, hd0, hp0, hmin2⟩ := least_ex (fun d => PureB (ptab t R C) c0 d) C.length ⟨d1, hd1, hp1⟩
    exact h ⟨c0, d0, hc0, hd0, hp0, fun c d hc hd hp => hmin c hc ⟨d, hd, hp⟩, fun d hd => hmin2 d hd⟩
  rcases hpu with ⟨i, k, hi, hk, hri, hck, hpb, hpr⟩ | hpr
  case inl =>
   have h5 := hid (fun aa cc W hW => (show Calls Try.prog 31 #[(.agg #[.slice aa (ptab t R C).length cc])] W fun e w' => e = .returned (.tuple #[.int .i64 (i : Int), .int .i64 (k : Int), .int .i64 0]) ∧ Ext W w' from (pure_any (ptab t R C) qx aa cc W hW hlx hwx).mono (by
    rintro e w' ⟨i', k', er, rfl, hp, hE⟩
    obtain ⟨rfl, rfl, rfl⟩ := hp.uniq hpr
    exact ⟨rfl, hE⟩)))
   rw [lx] at h5
   have h6 := hid (fun W hW => (show Calls Try.prog 46 #[(.agg #[.slice (some ⟨b, off, none⟩) t.length cap]), .int .i64 (R.getD i 0 : Nat), .int .i64 (C.getD k 0 : Nat)] W fun e w' => e = .returned (.bool true) ∧ Ext W w' from (isPure_any t v _ cap _ _ hri hck W hW).mono (by
    rintro e w' ⟨bb, rfl, hb, hE⟩
    rw [hb.2 hpb]
    exact ⟨rfl, hE⟩)))
   have hRi := hid (nats_nth R i)
   have hCk := hid (nats_nth C k)
   have lR := hid (nats_len R)
   have lC := hid (nats_len C)
   obtain ⟨xi, hxi⟩ : ∃ x, R.getD i 0 = x := ⟨_, rfl⟩
   obtain ⟨xk, hxk⟩ : ∃ x, C.getD k 0 = x := ⟨_, rfl⟩
   rw [hxi] at h6 hRi
   rw [hxk] at h6 hCk
   obtain ⟨XT, hXT⟩ : ∃ x, ptab t R C = x := ⟨_, rfl⟩
   obtain ⟨L1, hL1⟩ : ∃ x, nats R = x := ⟨_, rfl⟩
   obtain ⟨L2, hL2⟩ : ∃ x, nats C = x := ⟨_, rfl⟩
   obtain ⟨mr, hmr⟩ : ∃ x, R.length = x := ⟨_, rfl⟩
   obtain ⟨nr, hnr⟩ : ∃ x, C.length = x := ⟨_, rfl⟩
   obtain ⟨m, hm⟩ : ∃ x, t.length = x := ⟨_, rfl⟩
   obtain ⟨n, hn⟩ : ∃ x, wid t = x := ⟨_, rfl⟩
   rw [hXT] at hP hX h4 s1 tr s2 h5
   rw [hL1] at h2 i1 hP hRi lR
   rw [hL2] at h2 i2 hP hCk lC
   rw [hmr] at h2 i1 hP hX h4 s1 tr h5 r1 hi lR
   rw [hnr] at h2 i2 hP hX h4 tr s2 c1 hk lC
   rw [hm] at h1 h2 i1 hP hfi h6 ⊢
   rw [hn] at h1 i2 r00
   have hm00 : 0 < m := by omega
   have hm0 : (0 : Int) < (m : Int) := by omega
   have hr1 : ¬ (mr : Int) < 1 := by omega
   have hc1 : ¬ (nr : Int) < 1 := by omega
   have R0 := hid r00
   have hiI : (i : Int) < (mr : Int) := by omega
   have hkI : (k : Int) < (nr : Int) := by omega
   replace hi := hid hi
   replace hk := hid hk
   clear hT hw hl hl1 hw1 hb hcc r00 li ls a1 a2 a3 hR hC eR eC lp lv lpu lrs lcs vx gx qx lx wx xR xC r1 r4 c1 c4 lt_ hlx hwx hvn hvd hpr hXT hL1 hL2 hmr hnr hm hn v g m1 m4 n1 n4 hri hck hpb hxi hxk
   go_enter Try.func11, Try.ntmps11
   go_wp2_with fail
   refine (hfi.out _ (hT'.out.ext (by repeat (with_reducible first | assumption | exact Ext.refl _ | refine Ext.drew ?_ | refine Ext.drewN ?_ _ | refine Ext.alloc ?_ _ | refine xS ?_ _ | refine xT ?_ (by assumption))))).mono ?_; rintro e w1 ⟨rfl, hE⟩
   have mt0 := hid (hE.cell (p := ⟨w.heap.size, 0, none⟩) (v := .slice (some ⟨b, off, none⟩) m cap) (by simp [go_sem]))
   have X := hid (show Ext w w1 from (by repeat (with_reducible first | assumption | exact Ext.refl _ | refine Ext.drew ?_ | refine Ext.drewN ?_ _ | refine Ext.alloc ?_ _ | refine xS ?_ _ | refine xT ?_ (by assumption))))
   clear hE
   generalize w.heap.size = Bt at *
   have f0 := hid (X.out.cell R0.out)
   clear R0
   have r_mt0 := mt0.out
   have l_mt0 := cell_lt r_mt0
   dsimp only at l_mt0
   go_wp2_with fail
   refine (h1.out _ (hT'.out.ext (X.out.trans (show Ext w1 _ from (by repeat (with_reducible first | assumption | exact Ext.refl _ | refine Ext.drew ?_ | refine Ext.drewN ?_ _ | refine Ext.alloc ?_ _ | refine xS ?_ _ | refine xT ?_ (by assumption))))))).mono ?_; rintro e u1 ⟨av, cv_, aw, cw, rfl, lv_, lw_, hE⟩
   have x : Ext w1 u1 := (by repeat (with_reducible first | assumption | exact Ext.refl _ | refine Ext.drew ?_ | refine Ext.drewN ?_ _ | refine Ext.alloc ?_ _ | refine xS ?_ _ | refine xT ?_ (by assumption)))
   clear r_mt0 l_mt0
   replace mt0 := hid (x.cell mt0.out)
   replace f0 := hid (x.cell f0.out)
   replace X := hid (X.out.trans x)
   have lv := hid lv_
   clear lv_
   have lw := hid lw_
   clear lw_
   clear x hE
   clear lv lw
   have r_mt0 := mt0.out
   have l_mt0 := cell_lt r_mt0
   dsimp only at l_mt0
   go_wp2_with fail
   refine name_c (fun v2 hw => ?_)
   have x : Ext u1 v2 := by rw [hw]; exact (by repeat (with_reducible first | assumption | exact Ext.refl _ | refine Ext.drew ?_ | refine Ext.drewN ?_ _ | refine Ext.alloc ?_ _ | refine xS ?_ _ | refine xT ?_ (by assumption)))
   have bv0 := hid (show v2.cell? ⟨u1.heap.size, 0, none⟩ = some (.int .i64 vn) by rw [hw]; simp [go_sem])
   have bv1 := hid (show v2.cell? ⟨u1.heap.size, 1, none⟩ = some (.int .i64 vd) by rw [hw]; simp [go_sem])
   clear r_mt0 l_mt0
   replace mt0 := hid (x.cell mt0.out)
   replace f0 := hid (x.cell f0.out)
   replace X := hid (X.out.trans x)
   clear x hw
   generalize u1.heap.size = Bbv at *
   refine (h2.out _ (hT'.out.ext (X.out.trans (show Ext v2 _ from (by repeat (with_reducible first | assumption | exact Ext.refl _ | refine Ext.drew ?_ | refine Ext.drewN ?_ _ | refine Ext.alloc ?_ _ | refine xS ?_ _ | refine xT ?_ (by assumption))))))).mono ?_; rintro e u3 ⟨p1, d1, p2, d2, rfl, la_, lb_, hE⟩
   have x : Ext v2 u3 := (by repeat (with_reducible first | assumption | exact Ext.refl _ | refine Ext.drew ?_ | refine Ext.drewN ?_ _ | refine Ext.alloc ?_ _ | refine xS ?_ _ | refine xT ?_ (by assumption)))
   replace mt0 := hid (x.cell mt0.out)
   replace f0 := hid (x.cell f0.out)
   replace bv0 := hid (x.cell bv0.out)
   replace bv1 := hid (x.cell bv1.out)
   replace X := hid (X.out.trans x)
   have la := hid la_
   clear la_
   have lb := hid lb_
   clear lb_
   clear x hE
   have r_mt0 := mt0.out
   have l_mt0 := cell_lt r_mt0
   dsimp only at l_mt0
   go_wp2_with fail
   refine (i1.out _ _ _ (la.out.ext (show Ext u3 _ from (by repeat (with_reducible first | assumption | exact Ext.refl _ | refine Ext.drew ?_ | refine Ext.drewN ?_ _ | refine Ext.alloc ?_ _ | refine xS ?_ _ | refine xT ?_ (by assumption)))))).mono ?_; rintro e u4 ⟨rfl, hE⟩
   have x : Ext u3 u4 := (by repeat (with_reducible first | assumption | exact Ext.refl _ | refine Ext.drew ?_ | refine Ext.drewN ?_ _ | refine Ext.alloc ?_ _ | refine xS ?_ _ | refine xT ?_ (by assumption)))
   clear r_mt0 l_mt0
   replace mt0 := hid (x.cell mt0.out)
   replace f0 := hid (x.cell f0.out)
   replace bv0 := hid (x.cell bv0.out)
   replace bv1 := hid (x.cell bv1.out)
   replace la := hid (la.out.ext x)
   replace lb := hid (lb.out.ext x)
   replace X := hid (X.out.trans x)
   clear x hE
   have r_mt0 := mt0.out
   have l_mt0 := cell_lt r_mt0
   dsimp only at l_mt0
   have r_f0 := f0.out
   have l_f0 := cell_lt r_f0
   dsimp only at l_f0
   go_wp2_with fail
   refine (i2.out _ _ _ (lb.out.ext (show Ext u4 _ from (by repeat (with_reducible first | assumption | exact Ext.refl _ | refine Ext.drew ?_ | refine Ext.drewN ?_ _ | refine Ext.alloc ?_ _ | refine xS ?_ _ | refine xT ?_ (by assumption)))))).mono ?_; rintro e u5 ⟨rfl, hE⟩
   have x : Ext u4 u5 := (by repeat (with_reducible first | assumption | exact Ext.refl _ | refine Ext.drew ?_ | refine Ext.drewN ?_ _ | refine Ext.alloc ?_ _ | refine xS ?_ _ | refine xT ?_ (by assumption)))
   clear r_mt0 l_mt0 r_f0 l_f0
   replace mt0 := hid (x.cell mt0.out)
   replace f0 := hid (x.cell f0.out)
   replace bv0 := hid (x.cell bv0.out)
   replace bv1 := hid (x.cell bv1.out)
   replace la := hid (la.out.ext x)
   replace lb := hid (lb.out.ext x)
   replace X := hid (X.out.trans x)
   clear x hE
   have r_mt0 := mt0.out
   have l_mt0 := cell_lt r_mt0
   dsimp only at l_mt0
   go_wp2_with fail
   refine (hP.out _ _ _ _ _ (hT'.out.ext (X.out.trans (show Ext u5 _ from (by repeat (with_reducible first | assumption | exact Ext.refl _ | refine Ext.drew ?_ | refine Ext.drewN ?_ _ | refine Ext.alloc ?_ _ | refine xS ?_ _ | refine xT ?_ (by assumption)))))) (la.out.ext (show Ext u5 _ from (by repeat (with_reducible first | assumption | exact Ext.refl _ | refine Ext.drew ?_ | refine Ext.drewN ?_ _ | refine Ext.alloc ?_ _ | refine xS ?_ _ | refine xT ?_ (by assumption))))) (lb.out.ext (show Ext u5 _ from (by repeat (with_reducible first | assumption | exact Ext.refl _ | refine Ext.drew ?_ | refine Ext.drewN ?_ _ | refine Ext.alloc ?_ _ | refine xS ?_ _ | refine xT ?_ (by assumption)))))).mono ?_; rintro e u6 ⟨ax, cx, rfl, tx_, hE⟩
   have x : Ext u5 u6 := (by repeat (with_reducible first | assumption | exact Ext.refl _ | refine Ext.drew ?_ | refine Ext.drewN ?_ _ | refine Ext.alloc ?_ _ | refine xS ?_ _ | refine xT ?_ (by assumption)))
   clear r_mt0 l_mt0
   replace mt0 := hid (x.cell mt0.out)
   replace f0 := hid (x.cell f0.out)
   replace bv0 := hid (x.cell bv0.out)
   replace bv1 := hid (x.cell bv1.out)
   replace la := hid (la.out.ext x)
   replace lb := hid (lb.out.ext x)
   replace X := hid (X.out.trans x)
   have tx := hid tx_
   clear tx_
   clear x hE
   have r_mt0 := mt0.out
   have l_mt0 := cell_lt r_mt0
   dsimp only at l_mt0
   go_wp2_with fail
   refine name_c (fun v7 hw => ?_)
   have x : Ext u6 v7 := by rw [hw]; exact (by repeat (with_reducible first | assumption | exact Ext.refl _ | refine Ext.drew ?_ | refine Ext.drewN ?_ _ | refine Ext.alloc ?_ _ | refine xS ?_ _ | refine xT ?_ (by assumption)))
   have bt0 := hid (show v7.cell? ⟨u6.heap.size, 0, none⟩ = some (.slice ax mr cx) by rw [hw]; simp [go_sem])
   clear r_mt0 l_mt0
   replace mt0 := hid (x.cell mt0.out)
   replace f0 := hid (x.cell f0.out)
   replace bv0 := hid (x.cell bv0.out)
   replace bv1 := hid (x.cell bv1.out)
   replace la := hid (la.out.ext x)
   replace lb := hid (lb.out.ext x)
   replace tx := hid (tx.out.ext x)
   replace X := hid (X.out.trans x)
   clear x hw
   generalize u6.heap.size = Bbt at *
   refine (hX.out _ _ _ (tx.out.ext (show Ext v7 _ from (by repeat (with_reducible first | assumption | exact Ext.refl _ | refine Ext.drew ?_ | refine Ext.drewN ?_ _ | refine Ext.alloc ?_ _ | refine xS ?_ _ | refine xT ?_ (by assumption)))))).mono ?_; rintro e u8 ⟨a8, c8, a9, c9, rfl, lv_, lw_, hE⟩
   have x : Ext v7 u8 := (by repeat (with_reducible first | assumption | exact Ext.refl _ | refine Ext.drew ?_ | refine Ext.drewN ?_ _ | refine Ext.alloc ?_ _ | refine xS ?_ _ | refine xT ?_ (by assumption)))
   replace mt0 := hid (x.cell mt0.out)
   replace f0 := hid (x.cell f0.out)
   replace bv0 := hid (x.cell bv0.out)
   replace bv1 := hid (x.cell bv1.out)
   replace la := hid (la.out.ext x)
   replace lb := hid (lb.out.ext x)
   replace tx := hid (tx.out.ext x)
   replace bt0 := hid (x.cell bt0.out)
   replace X := hid (X.out.trans x)
   have lv := hid lv_
   clear lv_
   have lw := hid lw_
   clear lw_
   clear x hE
   clear lv lw
   have r_bt0 := bt0.out
   have l_bt0 := cell_lt r_bt0
   dsimp only at l_bt0
   go_wp2_with fail
   refine name_c (fun v9 hw => ?_)
   have x : Ext u8 v9 := by rw [hw]; exact (by repeat (with_reducible first | assumption | exact Ext.refl _ | refine Ext.drew ?_ | refine Ext.drewN ?_ _ | refine Ext.alloc ?_ _ | refine xS ?_ _ | refine xT ?_ (by assumption)))
   have bw0 := hid (show v9.cell? ⟨u8.heap.size, 0, none⟩ = some (.int .i64 vn) by rw [hw]; simp [go_sem])
   have bw1 := hid (show v9.cell? ⟨u8.heap.size, 1, none⟩ = some (.int .i64 vd) by rw [hw]; simp [go_sem])
   clear r_bt0 l_bt0
   replace mt0 := hid (x.cell mt0.out)
   replace f0 := hid (x.cell f0.out)
   replace bv0 := hid (x.cell bv0.out)
   replace bv1 := hid (x.cell bv1.out)
   replace la := hid (la.out.ext x)
   replace lb := hid (lb.out.ext x)
   replace tx := hid (tx.out.ext x)
   replace bt0 := hid (x.cell bt0.out)
   replace X := hid (X.out.trans x)
   clear x hw
   generalize u8.heap.size = Bbw at *
   refine (h4.out _ _ _ (tx.out.ext (show Ext v9 _ from (by repeat (with_reducible first | assumption | exact Ext.refl _ | refine Ext.drew ?_ | refine Ext.drewN ?_ _ | refine Ext.alloc ?_ _ | refine xS ?_ _ | refine xT ?_ (by assumption)))))).mono ?_; rintro e u10 ⟨a6, c6, a7, c7, rfl, lv_, lw_, hE⟩
   have x : Ext v9 u10 := (by repeat (with_reducible first | assumption | exact Ext.refl _ | refine Ext.drew ?_ | refine Ext.drewN ?_ _ | refine Ext.alloc ?_ _ | refine xS ?_ _ | refine xT ?_ (by assumption)))
   replace mt0 := hid (x.cell mt0.out)
   replace f0 := hid (x.cell f0.out)
   replace bv0 := hid (x.cell bv0.out)
   replace bv1 := hid (x.cell bv1.out)
   replace la := hid (la.out.ext x)
   replace lb := hid (lb.out.ext x)
   replace tx := hid (tx.out.ext x)
   replace bt0 := hid (x.cell bt0.out)
   replace bw0 := hid (x.cell bw0.out)
   replace bw1 := hid (x.cell bw1.out)
   replace X := hid (X.out.trans x)
   have lv := hid lv_
   clear lv_
   have lw := hid lw_
   clear lw_
   clear x hE
   clear lv lw
   have r_bt0 := bt0.out
   have l_bt0 := cell_lt r_bt0
   dsimp only at l_bt0
   have r_bv0 := bv0.out
   have l_bv0 := cell_lt r_bv0
   dsimp only at l_bv0
   have r_bv1 := bv1.out
   have l_bv1 := cell_lt r_bv1
   dsimp only at l_bv1
   have r_bw0 := bw0.out
   have l_bw0 := cell_lt r_bw0
   dsimp only at l_bw0
   have r_bw1 := bw1.out
   have l_bw1 := cell_lt r_bw1
   dsimp only at l_bw1
   go_wp2_with fail
   refine (s1.out _ _ _ (tx.out.ext (show Ext u10 _ from (by repeat (with_reducible first | assumption | exact Ext.refl _ | refine Ext.drew ?_ | refine Ext.drewN ?_ _ | refine Ext.alloc ?_ _ | refine xS ?_ _ | refine xT ?_ (by assumption)))))).mono ?_; rintro e u11 ⟨rfl, hE⟩
   have x : Ext u10 u11 := (by repeat (with_reducible first | assumption | exact Ext.refl _ | refine Ext.drew ?_ | refine Ext.drewN ?_ _ | refine Ext.alloc ?_ _ | refine xS ?_ _ | refine xT ?_ (by assumption)))
   clear r_bt0 l_bt0 r_bv0 l_bv0 r_bv1 l_bv1 r_bw0 l_bw0 r_bw1 l_bw1
   replace mt0 := hid (x.cell mt0.out)
   replace f0 := hid (x.cell f0.out)
   replace bv0 := hid (x.cell bv0.out)
   replace bv1 := hid (x.cell bv1.out)
   replace la := hid (la.out.ext x)
   replace lb := hid (lb.out.ext x)
   replace tx := hid (tx.out.ext x)
   replace bt0 := hid (x.cell bt0.out)
   replace bw0 := hid (x.cell bw0.out)
   replace bw1 := hid (x.cell bw1.out)
   replace X := hid (X.out.trans x)
   clear x hE
   have r_bt0 := bt0.out
   have l_bt0 := cell_lt r_bt0
   dsimp only at l_bt0
   go_wp2_with fail
   refine (tr.out _ _ _ (tx.out.ext (show Ext u11 _ from (by repeat (with_reducible first | assumption | exact Ext.refl _ | refine Ext.drew ?_ | refine Ext.drewN ?_ _ | refine Ext.alloc ?_ _ | refine xS ?_ _ | refine xT ?_ (by assumption)))))).mono ?_; rintro e u12 ⟨ay, cy, rfl, ty_, hE⟩
   have x : Ext u11 u12 := (by repeat (with_reducible first | assumption | exact Ext.refl _ | refine Ext.drew ?_ | refine Ext.drewN ?_ _ | refine Ext.alloc ?_ _ | refine xS ?_ _ | refine xT ?_ (by assumption)))
   clear r_bt0 l_bt0
   replace mt0 := hid (x.cell mt0.out)
   replace f0 := hid (x.cell f0.out)
   replace bv0 := hid (x.cell bv0.out)
   replace bv1 := hid (x.cell bv1.out)
   replace la := hid (la.out.ext x)
   replace lb := hid (lb.out.ext x)
   replace tx := hid (tx.out.ext x)
   replace bt0 := hid (x.cell bt0.out)
   replace bw0 := hid (x.cell bw0.out)
   replace bw1 := hid (x.cell bw1.out)
   replace X := hid (X.out.trans x)
   have ty := hid ty_
   clear ty_
   clear x hE
   go_wp2_with fail
   refine (s2.out _ _ _ (ty.out.ext (show Ext u12 _ from (by repeat (with_reducible first | assumption | exact Ext.refl _ | refine Ext.drew ?_ | refine Ext.drewN ?_ _ | refine Ext.alloc ?_ _ | refine xS ?_ _ | refine xT ?_ (by assumption)))))).mono ?_; rintro e u13 ⟨rfl, hE⟩
   have x : Ext u12 u13 := (by repeat (with_reducible first | assumption | exact Ext.refl _ | refine Ext.drew ?_ | refine Ext.drewN ?_ _ | refine Ext.alloc ?_ _ | refine xS ?_ _ | refine xT ?_ (by assumption)))
   replace mt0 := hid (x.cell mt0.out)
   replace f0 := hid (x.cell f0.out)
   replace bv0 := hid (x.cell bv0.out)
   replace bv1 := hid (x.cell bv1.out)
   replace la := hid (la.out.ext x)
   replace lb := hid (lb.out.ext x)
   replace tx := hid (tx.out.ext x)
   replace bt0 := hid (x.cell bt0.out)
   replace bw0 := hid (x.cell bw0.out)
   replace bw1 := hid (x.cell bw1.out)
   replace ty := hid (ty.out.ext x)
   replace X := hid (X.out.trans x)
   clear x hE
   have r_bt0 := bt0.out
   have l_bt0 := cell_lt r_bt0
   dsimp only at l_bt0
   go_wp2_with fail
   refine (h5.out _ _ _ (tx.out.ext (show Ext u13 _ from (by repeat (with_reducible first | assumption | exact Ext.refl _ | refine Ext.drew ?_ | refine Ext.drewN ?_ _ | refine Ext.alloc ?_ _ | refine xS ?_ _ | refine xT ?_ (by assumption)))))).mono ?_; rintro e u14 ⟨rfl, hE⟩
   have x : Ext u13 u14 := (by repeat (with_reducible first | assumption | exact Ext.refl _ | refine Ext.drew ?_ | refine Ext.drewN ?_ _ | refine Ext.alloc ?_ _ | refine xS ?_ _ | refine xT ?_ (by assumption)))
   clear r_bt0 l_bt0
   replace mt0 := hid (x.cell mt0.out)
   replace f0 := hid (x.cell f0.out)
   replace bv0 := hid (x.cell bv0.out)
   replace bv1 := hid (x.cell bv1.out)
   replace la := hid (la.out.ext x)
   replace lb := hid (lb.out.ext x)
   replace tx := hid (tx.out.ext x)
   replace bt0 := hid (x.cell bt0.out)
   replace bw0 := hid (x.cell bw0.out)
   replace bw1 := hid (x.cell bw1.out)
   replace ty := hid (ty.out.ext x)
   replace X := hid (X.out.trans x)
   clear x hE
   go_wp2_with fail
   obtain ⟨y1, z1, rfl, c1_⟩ := la.out i (by rw [lR.out]; exact hi.out)
   obtain ⟨y2, z2, rfl, c2_⟩ := lb.out k (by rw [lC.out]; exact hk.out)
   rw [hRi.out] at c1_
   rw [hCk.out] at c2_
   replace c1_ := hid c1_
   replace c2_ := hid c2_
   have q0 := mt0.out
   have q1 := c1_.out
   have q2 := c2_.out
   refine name_act (fun A_ hA_ => ?_)
   obtain ⟨Q2, hQ2⟩ : ∃ Q2 : Exit → Act → World → Prop, Q2 = fun e a' w' => e = .normal ∧ ∃ (v0_ v1_ v2_ v3_ v4_ v5_ v6_ v7_ v8_ v9_ v10_ v11_ v12_ v13_ v14_ v15_ v16_ v17_ v18_ v19_ v20_ v21_ v22_ v23_ v24_ v25_ v26_ v27_ v29_ v30_ v32_ : Value), a' = ((((((((((((((((((((((((((((((((((A_.put (some 135) (v0_)).put (some 136) (v1_)).put (some 137) (v2_)).put (some 138) (v3_)).put (some 139) (v4_)).put (some 140) (v5_)).put (some 141) (v6_)).put (some 142) (v7_)).put (some 143) (v8_)).put (some 144) (v9_)).put (some 145) (v10_)).put (some 146) (v11_)).put (some 147) (v12_)).put (some 148) (v13_)).put (some 149) (v14_)).put (some 150) (v15_)).put (some 151) (v16_)).put (some 152) (v17_)).put (some 153) (v18_)).put (some 154) (v19_)).put (some 155) (v20_)).put (some 156) (v21_)).put (some 157) (v22_)).put (some 158) (v23_)).put (some 159) (v24_)).put (some 160) (v25_)).put (some 161) (v26_)).put (some 162) (v27_)).put (some 163) (.bool true)).put (some 164) (v29_)).put (some 165) (v30_)).put (some 166) (.bool true)).put (some 167) (v32_)).put (some 2) (.bool true)) ∧ Ext u14 w' := ⟨_, rfl⟩
   have hpan : ∀ c a a' w w', Q2 (.panic c) a w → Q2 (.panic c) a' w' := by rw [hQ2]; rintro c a a' w w' ⟨h, _⟩; cases h
   replace hQ2 := hid hQ2
   refine wp_mono (Q := Q2) ?_ ?_
   ·subst hA_
    refine wp_region_held_drew (S := fun w' => Ext u14 w') (by kernel_rfl) (by repeat (with_reducible first | assumption | exact Ext.refl _ | refine Ext.drew ?_ | refine Ext.drewN ?_ _ | refine Ext.alloc ?_ _ | refine xS ?_ _ | refine xT ?_ (by assumption))) fun hHeld => ?_
    refine name_any (fun W0 hW => ?_)
    have s0 : Ext u14 W0 := by rw [hW]; exact hHeld
    clear hW hHeld
    refine tkA (i := 0) (v := ?_) rfl (fun c a w h => hpan c _ _ _ _ h) (Or.inl ⟨by rfl, ?yl⟩) (by assumption) ?_
    case yl => (intro w hSw; (try dsimp only at hSw); have k_0 := Ext.cell hSw q0; have k_1 := Ext.cell hSw q1; have k_2 := Ext.cell hSw q2; go_simp); with_reducible rfl
    try simp only [sxA, sxB, sxC, Act.put, sxD, sxE, sxF]
    refine tkA (i := 1) (v := ?_) rfl (fun c a w h => hpan c _ _ _ _ h) (Or.inl ⟨by rfl, ?yl⟩) (by assumption) ?_
    case yl => (intro w hSw; (try dsimp only at hSw); have k_0 := Ext.cell hSw q0; have k_1 := Ext.cell hSw q1; have k_2 := Ext.cell hSw q2; go_simp); with_reducible rfl
    try simp only [sxA, sxB, sxC, Act.put, sxD, sxE, sxF]
    refine tkA (i := 2) (v := ?_) rfl (fun c a w h => hpan c _ _ _ _ h) (Or.inl ⟨by rfl, ?yl⟩) (by assumption) ?_
    case yl => (intro w hSw; (try dsimp only at hSw); have k_0 := Ext.cell hSw q0; have k_1 := Ext.cell hSw q1; have k_2 := Ext.cell hSw q2; go_simp); with_reducible rfl
    try simp only [sxA, sxB, sxC, Act.put, sxD, sxE, sxF]
    refine tkA (i := 3) (v := ?_) rfl (fun c a w h => hpan c _ _ _ _ h) (Or.inl ⟨by rfl, ?yl⟩) (by assumption) ?_
    case yl => (intro w hSw; (try dsimp only at hSw); have k_0 := Ext.cell hSw q0; have k_1 := Ext.cell hSw q1; have k_2 := Ext.cell hSw q2; go_simp); with_reducible rfl
    try simp only [sxA, sxB, sxC, Act.put, sxD, sxE, sxF]
    refine tkA (i := 4) (v := ?_) rfl (fun c a w h => hpan c _ _ _ _ h) (Or.inl ⟨by rfl, ?yl⟩) (by assumption) ?_
    case yl => (intro w hSw; (try dsimp only at hSw); have k_0 := Ext.cell hSw q0; have k_1 := Ext.cell hSw q1; have k_2 := Ext.cell hSw q2; go_simp); with_reducible rfl
    try simp only [sxA, sxB, sxC, Act.put, sxD, sxE, sxF]
    refine tkA (i := 5) (v := ?_) rfl (fun c a w h => hpan c _ _ _ _ h) (Or.inl ⟨by rfl, ?yl⟩) (by assumption) ?_
    case yl => (intro w hSw; (try dsimp only at hSw); have k_0 := Ext.cell hSw q0; have k_1 := Ext.cell hSw q1; have k_2 := Ext.cell hSw q2; go_simp); with_reducible rfl
    try simp only [sxA, sxB, sxC, Act.put, sxD, sxE, sxF]
    refine tkA (i := 6) (v := ?_) rfl (fun c a w h => hpan c _ _ _ _ h) (Or.inl ⟨by rfl, ?yl⟩) (by assumption) ?_
    case yl => (intro w hSw; (try dsimp only at hSw); have k_0 := Ext.cell hSw q0; have k_1 := Ext.cell hSw q1; have k_2 := Ext.cell hSw q2; go_simp); with_reducible rfl
    try simp only [sxA, sxB, sxC, Act.put, sxD, sxE, sxF]
    refine tkA (i := 7) (v := ?_) rfl (fun c a w h => hpan c _ _ _ _ h) (Or.inl ⟨by rfl, ?yl⟩) (by assumption) ?_
    case yl => (intro w hSw; (try dsimp only at hSw); have k_0 := Ext.cell hSw q0; have k_1 := Ext.cell hSw q1; have k_2 := Ext.cell hSw q2; go_simp); with_reducible rfl
    try simp only [sxA, sxB, sxC, Act.put, sxD, sxE, sxF]
    refine tkA (i := 8) (v := ?_) rfl (fun c a w h => hpan c _ _ _ _ h) (Or.inl ⟨by rfl, ?yl⟩) (by assumption) ?_
    case yl => (intro w hSw; (try dsimp only at hSw); have k_0 := Ext.cell hSw q0; have k_1 := Ext.cell hSw q1; have k_2 := Ext.cell hSw q2; go_simp); with_reducible rfl
    try simp only [sxA, sxB, sxC, Act.put, sxD, sxE, sxF]
    refine tkA (i := 9) (v := ?_) rfl (fun c a w h => hpan c _ _ _ _ h) (Or.inl ⟨by rfl, ?yl⟩) (by assumption) ?_
    case yl => (intro w hSw; (try dsimp only at hSw); have k_0 := Ext.cell hSw q0; have k_1 := Ext.cell hSw q1; have k_2 := Ext.cell hSw q2; go_simp); with_reducible rfl
    try simp only [sxA, sxB, sxC, Act.put, sxD, sxE, sxF]
    refine tkA (i := 10) (v := ?_) rfl (fun c a w h => hpan c _ _ _ _ h) (Or.inl ⟨by rfl, ?yl⟩) (by assumption) ?_
    case yl => (intro w hSw; (try dsimp only at hSw); have k_0 := Ext.cell hSw q0; have k_1 := Ext.cell hSw q1; have k_2 := Ext.cell hSw q2; go_simp); with_reducible rfl
    try simp only [sxA, sxB, sxC, Act.put, sxD, sxE, sxF]
    refine tkA (i := 11) (v := ?_) rfl (fun c a w h => hpan c _ _ _ _ h) (Or.inl ⟨by rfl, ?yl⟩) (by assumption) ?_
    case yl => (intro w hSw; (try dsimp only at hSw); have k_0 := Ext.cell hSw q0; have k_1 := Ext.cell hSw q1; have k_2 := Ext.cell hSw q2; go_simp); with_reducible rfl
    try simp only [sxA, sxB, sxC, Act.put, sxD, sxE, sxF]
    refine tkA (i := 12) (v := ?_) rfl (fun c a w h => hpan c _ _ _ _ h) (Or.inl ⟨by rfl, ?yl⟩) (by assumption) ?_
    case yl => (intro w hSw; (try dsimp only at hSw); have k_0 := Ext.cell hSw q0; have k_1 := Ext.cell hSw q1; have k_2 := Ext.cell hSw q2; go_simp); with_reducible rfl
    try simp only [sxA, sxB, sxC, Act.put, sxD, sxE, sxF]
    refine tkA (i := 13) (v := ?_) rfl (fun c a w h => hpan c _ _ _ _ h) (Or.inl ⟨by rfl, ?yl⟩) (by assumption) ?_
    case yl => (intro w hSw; (try dsimp only at hSw); have k_0 := Ext.cell hSw q0; have k_1 := Ext.cell hSw q1; have k_2 := Ext.cell hSw q2; go_simp); with_reducible rfl
    try simp only [sxA, sxB, sxC, Act.put, sxD, sxE, sxF]
    refine tkA (i := 14) (v := ?_) rfl (fun c a w h => hpan c _ _ _ _ h) (Or.inl ⟨by rfl, ?yl⟩) (by assumption) ?_
    case yl => (intro w hSw; (try dsimp only at hSw); have k_0 := Ext.cell hSw q0; have k_1 := Ext.cell hSw q1; have k_2 := Ext.cell hSw q2; go_simp); with_reducible rfl
    try simp only [sxA, sxB, sxC, Act.put, sxD, sxE, sxF]
    refine tkA (i := 15) (v := ?_) rfl (fun c a w h => hpan c _ _ _ _ h) (Or.inl ⟨by rfl, ?yl⟩) (by assumption) ?_
    case yl => (intro w hSw; (try dsimp only at hSw); have k_0 := Ext.cell hSw q0; have k_1 := Ext.cell hSw q1; have k_2 := Ext.cell hSw q2; go_simp); with_reducible rfl
    try simp only [sxA, sxB, sxC, Act.put, sxD, sxE, sxF]
    refine tkA (i := 16) (v := ?_) rfl (fun c a w h => hpan c _ _ _ _ h) (Or.inl ⟨by rfl, ?yl⟩) (by assumption) ?_
    case yl => (intro w hSw; (try dsimp only at hSw); have k_0 := Ext.cell hSw q0; have k_1 := Ext.cell hSw q1; have k_2 := Ext.cell hSw q2; go_simp); with_reducible rfl
    try simp only [sxA, sxB, sxC, Act.put, sxD, sxE, sxF]
    refine tkA (i := 17) (v := ?_) rfl (fun c a w h => hpan c _ _ _ _ h) (Or.inl ⟨by rfl, ?yl⟩) (by assumption) ?_
    case yl => (intro w hSw; (try dsimp only at hSw); have k_0 := Ext.cell hSw q0; have k_1 := Ext.cell hSw q1; have k_2 := Ext.cell hSw q2; go_simp); with_reducible rfl
    try simp only [sxA, sxB, sxC, Act.put, sxD, sxE, sxF]
    refine tkA (i := 18) (v := ?_) rfl (fun c a w h => hpan c _ _ _ _ h) (Or.inl ⟨by rfl, ?yl⟩) (by assumption) ?_
    case yl => (intro w hSw; (try dsimp only at hSw); have k_0 := Ext.cell hSw q0; have k_1 := Ext.cell hSw q1; have k_2 := Ext.cell hSw q2; go_simp); with_reducible rfl
    try simp only [sxA, sxB, sxC, Act.put, sxD, sxE, sxF]
    refine tkA (i := 19) (v := ?_) rfl (fun c a w h => hpan c _ _ _ _ h) (Or.inl ⟨by rfl, ?yl⟩) (by assumption) ?_
    case yl => (intro w hSw; (try dsimp only at hSw); have k_0 := Ext.cell hSw q0; have k_1 := Ext.cell hSw q1; have k_2 := Ext.cell hSw q2; go_simp); with_reducible rfl
    try simp only [sxA, sxB, sxC, Act.put, sxD, sxE, sxF]
    refine tkA (i := 20) (v := ?_) rfl (fun c a w h => hpan c _ _ _ _ h) (Or.inl ⟨by rfl, ?yl⟩) (by assumption) ?_
    case yl => (intro w hSw; (try dsimp only at hSw); have k_0 := Ext.cell hSw q0; have k_1 := Ext.cell hSw q1; have k_2 := Ext.cell hSw q2; go_simp); with_reducible rfl
    try simp only [sxA, sxB, sxC, Act.put, sxD, sxE, sxF]
    refine tkA (i := 21) (v := ?_) rfl (fun c a w h => hpan c _ _ _ _ h) (Or.inl ⟨by rfl, ?yl⟩) (by assumption) ?_
    case yl => (intro w hSw; (try dsimp only at hSw); have k_0 := Ext.cell hSw q0; have k_1 := Ext.cell hSw q1; have k_2 := Ext.cell hSw q2; go_simp); with_reducible rfl
    try simp only [sxA, sxB, sxC, Act.put, sxD, sxE, sxF]
    refine tkA (i := 22) (v := ?_) rfl (fun c a w h => hpan c _ _ _ _ h) (Or.inl ⟨by rfl, ?yl⟩) (by assumption) ?_
    case yl => (intro w hSw; (try dsimp only at hSw); have k_0 := Ext.cell hSw q0; have k_1 := Ext.cell hSw q1; have k_2 := Ext.cell hSw q2; go_simp); with_reducible rfl
    try simp only [sxA, sxB, sxC, Act.put, sxD, sxE, sxF]
    refine tkA (i := 23) (v := ?_) rfl (fun c a w h => hpan c _ _ _ _ h) (Or.inl ⟨by rfl, ?yl⟩) (by assumption) ?_
    case yl => (intro w hSw; (try dsimp only at hSw); have k_0 := Ext.cell hSw q0; have k_1 := Ext.cell hSw q1; have k_2 := Ext.cell hSw q2; go_simp); with_reducible rfl
    try simp only [sxA, sxB, sxC, Act.put, sxD, sxE, sxF]
    refine tkA (i := 24) (v := ?_) rfl (fun c a w h => hpan c _ _ _ _ h) (Or.inl ⟨by rfl, ?yl⟩) (by assumption) ?_
    case yl => (intro w hSw; (try dsimp only at hSw); have k_0 := Ext.cell hSw q0; have k_1 := Ext.cell hSw q1; have k_2 := Ext.cell hSw q2; go_simp); with_reducible rfl
    try simp only [sxA, sxB, sxC, Act.put, sxD, sxE, sxF]
    refine tkA (i := 25) (v := ?_) rfl (fun c a w h => hpan c _ _ _ _ h) (Or.inl ⟨by rfl, ?yl⟩) (by assumption) ?_
    case yl => (intro w hSw; (try dsimp only at hSw); have k_0 := Ext.cell hSw q0; have k_1 := Ext.cell hSw q1; have k_2 := Ext.cell hSw q2; go_simp); with_reducible rfl
    try simp only [sxA, sxB, sxC, Act.put, sxD, sxE, sxF]
    refine tkA (i := 26) (v := ?_) rfl (fun c a w h => hpan c _ _ _ _ h) (Or.inl ⟨by rfl, ?yl⟩) (by assumption) ?_
    case yl => (intro w hSw; (try dsimp only at hSw); have k_0 := Ext.cell hSw q0; have k_1 := Ext.cell hSw q1; have k_2 := Ext.cell hSw q2; go_simp); with_reducible rfl
    try simp only [sxA, sxB, sxC, Act.put, sxD, sxE, sxF]
    refine tkA (i := 27) (v := ?_) rfl (fun c a w h => hpan c _ _ _ _ h) (Or.inl ⟨by rfl, ?yl⟩) (by assumption) ?_
    case yl => (intro w hSw; (try dsimp only at hSw); have k_0 := Ext.cell hSw q0; have k_1 := Ext.cell hSw q1; have k_2 := Ext.cell hSw q2; go_simp); with_reducible rfl
    try simp only [sxA, sxB, sxC, Act.put, sxD, sxE, sxF]
    refine wpAnyH_ready (rs := [28]) (by kernel_rfl) (by simp) ?_
    refine AllReadyH.cons (o := _) rfl (fun K hK => ?_) AllReadyH.nil
    go_simp
    refine (h6.out _ (hT'.out.ext (X.out.trans s0))).mono ?_; rintro e W1 ⟨rfl, e1⟩
    have s1 := s0.trans e1
    refine hK.out _ _ s1 (fun _ => ?_)
    clear hK K
    (try simp only [sxA, sxB, sxC, Act.put, sxD, sxE, sxF])
    refine tkA (i := 29) (v := ?_) rfl (fun c a w h => hpan c _ _ _ _ h) (Or.inl ⟨by rfl, ?yl⟩) (by assumption) ?_
    case yl => (intro w hSw; (try dsimp only at hSw); have k_0 := Ext.cell hSw q0; have k_1 := Ext.cell hSw q1; have k_2 := Ext.cell hSw q2; go_simp); with_reducible rfl
    try simp only [sxA, sxB, sxC, Act.put, sxD, sxE, sxF]
    refine tkA (i := 30) (v := ?_) rfl (fun c a w h => hpan c _ _ _ _ h) (Or.inl ⟨by rfl, ?yl⟩) (by assumption) ?_
    case yl => (intro w hSw; (try dsimp only at hSw); have k_0 := Ext.cell hSw q0; have k_1 := Ext.cell hSw q1; have k_2 := Ext.cell hSw q2; go_simp); with_reducible rfl
    try simp only [sxA, sxB, sxC, Act.put, sxD, sxE, sxF]
    refine wpAnyH_ready (rs := [31]) (by kernel_rfl) (by simp) ?_
    refine AllReadyH.cons (o := _) rfl (fun K hK => ?_) AllReadyH.nil
    go_simp
    refine (works_any _).mono ?_; rintro e W2 ⟨rfl, e2⟩
    have s2 := s1.trans e2
    refine hK.out _ _ s2 (fun _ => ?_)
    clear hK K
    (try simp only [sxA, sxB, sxC, Act.put, sxD, sxE, sxF])
    refine tkA (i := 32) (v := ?_) rfl (fun c a w h => hpan c _ _ _ _ h) (Or.inl ⟨by rfl, ?yl⟩) (by assumption) ?_
    case yl => (intro w hSw; (try dsimp only at hSw); have k_0 := Ext.cell hSw q0; have k_1 := Ext.cell hSw q1; have k_2 := Ext.cell hSw q2; go_simp); with_reducible rfl
    try simp only [sxA, sxB, sxC, Act.put, sxD, sxE, sxF]
    refine tkA (i := 33) (v := ?_) rfl (fun c a w h => hpan c _ _ _ _ h) (Or.inl ⟨by rfl, ?yl⟩) (by assumption) ?_
    case yl => (intro w hSw; (try dsimp only at hSw); have k_0 := Ext.cell hSw q0; have k_1 := Ext.cell hSw q1; have k_2 := Ext.cell hSw q2; go_simp); with_reducible rfl
    try simp only [sxA, sxB, sxC, Act.put, sxD, sxE, sxF]
    refine wpAnyH_done (by kernel_rfl) ?_ _
    try simp only [sxA, sxB, sxC, Act.put, sxD, sxE, sxF]
    rw [hQ2.out]
    refine ⟨rfl, ?u1_0_1, ?u1_1_1, ?u1_2_1, ?u1_3_1, ?u1_4_1, ?u1_5_1, ?u1_6_1, ?u1_7_1, ?u1_8_1, ?u1_9_1, ?u1_10_1, ?u1_11_1, ?u1_12_1, ?u1_13_1, ?u1_14_1, ?u1_15_1, ?u1_16_1, ?u1_17_1, ?u1_18_1, ?u1_19_1, ?u1_20_1, ?u1_21_1, ?u1_22_1, ?u1_23_1, ?u1_24_1, ?u1_25_1, ?u1_26_1, ?u1_27_1, ?u1_28_1, ?u1_29_1, ?u1_30_1, ?eq1_1, s2⟩
    case eq1_1 => ((try simp only [sxA, sxB, sxC, Act.put, sxD, sxE, sxF]); first | done | with_reducible rfl | rfl)
   rw [hQ2.out]
   rintro e a' d15 ⟨rfl, v0_, v1_, v2_, v3_, v4_, v5_, v6_, v7_, v8_, v9_, v10_, v11_, v12_, v13_, v14_, v15_, v16_, v17_, v18_, v19_, v20_, v21_, v22_, v23_, v24_, v25_, v26_, v27_, v29_, v30_, v32_, rfl, x⟩
   clear hQ2 hpan; clear Q2
   subst hA_
   simp only [sxA, sxB, sxC, Act.put, sxD, sxE, sxF]
   clear q0 q1 q2
   replace mt0 := hid (x.cell mt0.out)
   replace f0 := hid (x.cell f0.out)
   replace bv0 := hid (x.cell bv0.out)
   replace bv1 := hid (x.cell bv1.out)
   replace la := hid (la.out.ext x)
   replace lb := hid (lb.out.ext x)
   replace tx := hid (tx.out.ext x)
   replace bt0 := hid (x.cell bt0.out)
   replace bw0 := hid (x.cell bw0.out)
   replace bw1 := hid (x.cell bw1.out)
   replace ty := hid (ty.out.ext x)
   replace c1_ := hid (x.cell c1_.out)
   replace c2_ := hid (x.cell c2_.out)
   replace X := hid (X.out.trans x)
   clear x
   go_wp2_with fail
   go_ret
   exact ⟨rfl, X.out⟩
  case inr =>
   have h5 := hid (fun aa cc W hW => (show Calls Try.prog 31 #[(.agg #[.slice aa (ptab t R C).length cc])] W fun e w' => e = .returned (.tuple #[.int .i64 0, .int .i64 0, .int .i64 19]) ∧ Ext W w' from (pure_any (ptab t R C) qx aa cc W hW hlx hwx).mono (by
    rintro e w' ⟨i', k', er, rfl, hp, hE⟩
    obtain ⟨rfl, rfl, rfl⟩ := hp.uniq hpr
    exact ⟨rfl, hE⟩)))
   rw [lx] at h5
   obtain ⟨XT, hXT⟩ : ∃ x, ptab t R C = x := ⟨_, rfl⟩
   obtain ⟨L1, hL1⟩ : ∃ x, nats R = x := ⟨_, rfl⟩
   obtain ⟨L2, hL2⟩ : ∃ x, nats C = x := ⟨_, rfl⟩
   obtain ⟨mr, hmr⟩ : ∃ x, R.length = x := ⟨_, rfl⟩
   obtain ⟨nr, hnr⟩ : ∃ x, C.length = x := ⟨_, rfl⟩
   obtain ⟨m, hm⟩ : ∃ x, t.length = x := ⟨_, rfl⟩
   obtain ⟨n, hn⟩ : ∃ x, wid t = x := ⟨_, rfl⟩
   rw [hXT] at hP hX h4 s1 tr s2 h5
   rw [hL1] at h2 i1 hP
   rw [hL2] at h2 i2 hP
   rw [hmr] at h2 i1 hP hX h4 s1 tr h5 r1
   rw [hnr] at h2 i2 hP hX h4 tr s2 c1
   rw [hm] at h1 h2 i1 hP hfi ⊢
   rw [hn] at h1 i2 r00
   have hm00 : 0 < m := by omega
   have hm0 : (0 : Int) < (m : Int) := by omega
   have hr1 : ¬ (mr : Int) < 1 := by omega
   have hc1 : ¬ (nr : Int) < 1 := by omega
   have R0 := hid r00
   clear hT hw hl hl1 hw1 hb hcc r00 li ls a1 a2 a3 hR hC eR eC lp lv lpu lrs lcs vx gx qx lx wx xR xC r1 r4 c1 c4 lt_ hlx hwx hvn hvd hpr hXT hL1 hL2 hmr hnr hm hn v g m1 m4 n1 n4
   go_enter Try.func11, Try.ntmps11
   go_wp2_with fail
   refine (hfi.out _ (hT'.out.ext (by repeat (with_reducible first | assumption | exact Ext.refl _ | refine Ext.drew ?_ | refine Ext.drewN ?_ _ | refine Ext.alloc ?_ _ | refine xS ?_ _ | refine xT ?_ (by assumption))))).mono ?_; rintro e w1 ⟨rfl, hE⟩
   have mt0 := hid (hE.cell (p := ⟨w.heap.size, 0, none⟩) (v := .slice (some ⟨b, off, none⟩) m cap) (by simp [go_sem]))
   have X := hid (show Ext w w1 from (by repeat (with_reducible first | assumption | exact Ext.refl _ | refine Ext.drew ?_ | refine Ext.drewN ?_ _ | refine Ext.alloc ?_ _ | refine xS ?_ _ | refine xT ?_ (by assumption))))
   clear hE
   generalize w.heap.size = Bt at *
   have f0 := hid (X.out.cell R0.out)
   clear R0
   have r_mt0 := mt0.out
   have l_mt0 := cell_lt r_mt0
   dsimp only at l_mt0
   go_wp2_with fail
   refine (h1.out _ (hT'.out.ext (X.out.trans (show Ext w1 _ from (by repeat (with_reducible first | assumption | exact Ext.refl _ | refine Ext.drew ?_ | refine Ext.drewN ?_ _ | refine Ext.alloc ?_ _ | refine xS ?_ _ | refine xT ?_ (by assumption))))))).mono ?_; rintro e u1 ⟨av, cv_, aw, cw, rfl, lv_, lw_, hE⟩
   have x : Ext w1 u1 := (by repeat (with_reducible first | assumption | exact Ext.refl _ | refine Ext.drew ?_ | refine Ext.drewN ?_ _ | refine Ext.alloc ?_ _ | refine xS ?_ _ | refine xT ?_ (by assumption)))
   clear r_mt0 l_mt0
   replace mt0 := hid (x.cell mt0.out)
   replace f0 := hid (x.cell f0.out)
   replace X := hid (X.out.trans x)
   have lv := hid lv_
   clear lv_
   have lw := hid lw_
   clear lw_
   clear x hE
   clear lv lw
   have r_mt0 := mt0.out
   have l_mt0 := cell_lt r_mt0
   dsimp only at l_mt0
   go_wp2_with fail
   refine name_c (fun v2 hw => ?_)
   have x : Ext u1 v2 := by rw [hw]; exact (by repeat (with_reducible first | assumption | exact Ext.refl _ | refine Ext.drew ?_ | refine Ext.drewN ?_ _ | refine Ext.alloc ?_ _ | refine xS ?_ _ | refine xT ?_ (by assumption)))
   have bv0 := hid (show v2.cell? ⟨u1.heap.size, 0, none⟩ = some (.int .i64 vn) by rw [hw]; simp [go_sem])
   have bv1 := hid (show v2.cell? ⟨u1.heap.size, 1, none⟩ = some (.int .i64 vd) by rw [hw]; simp [go_sem])
   clear r_mt0 l_mt0
   replace mt0 := hid (x.cell mt0.out)
   replace f0 := hid (x.cell f0.out)
   replace X := hid (X.out.trans x)
   clear x hw
   generalize u1.heap.size = Bbv at *
   refine (h2.out _ (hT'.out.ext (X.out.trans (show Ext v2 _ from (by repeat (with_reducible first | assumption | exact Ext.refl _ | refine Ext.drew ?_ | refine Ext.drewN ?_ _ | refine Ext.alloc ?_ _ | refine xS ?_ _ | refine xT ?_ (by assumption))))))).mono ?_; rintro e u3 ⟨p1, d1, p2, d2, rfl, la_, lb_, hE⟩
   have x : Ext v2 u3 := (by repeat (with_reducible first | assumption | exact Ext.refl _ | refine Ext.drew ?_ | refine Ext.drewN ?_ _ | refine Ext.alloc ?_ _ | refine xS ?_ _ | refine xT ?_ (by assumption)))
   replace mt0 := hid (x.cell mt0.out)
   replace f0 := hid (x.cell f0.out)
   replace bv0 := hid (x.cell bv0.out)
   replace bv1 := hid (x.cell bv1.out)
   replace X := hid (X.out.trans x)
   have la := hid la_
   clear la_
   have lb := hid lb_
   clear lb_
   clear x hE
   have r_mt0 := mt0.out
   have l_mt0 := cell_lt r_mt0
   dsimp only at l_mt0
   go_wp2_with fail
   refine (i1.out _ _ _ (la.out.ext (show Ext u3 _ from (by repeat (with_reducible first | assumption | exact Ext.refl _ | refine Ext.drew ?_ | refine Ext.drewN ?_ _ | refine Ext.alloc ?_ _ | refine xS ?_ _ | refine xT ?_ (by assumption)))))).mono ?_; rintro e u4 ⟨rfl, hE⟩
   have x : Ext u3 u4 := (by repeat (with_reducible first | assumption | exact Ext.refl _ | refine Ext.drew ?_ | refine Ext.drewN ?_ _ | refine Ext.alloc ?_ _ | refine xS ?_ _ | refine xT ?_ (by assumption)))
   clear r_mt0 l_mt0
   replace mt0 := hid (x.cell mt0.out)
   replace f0 := hid (x.cell f0.out)
   replace bv0 := hid (x.cell bv0.out)
   replace bv1 := hid (x.cell bv1.out)
   replace la := hid (la.out.ext x)
   replace lb := hid (lb.out.ext x)
   replace X := hid (X.out.trans x)
   clear x hE
   have r_mt0 := mt0.out
   have l_mt0 := cell_lt r_mt0
   dsimp only at l_mt0
   have r_f0 := f0.out
   have l_f0 := cell_lt r_f0
   dsimp only at l_f0
   go_wp2_with fail
   refine (i2.out _ _ _ (lb.out.ext (show Ext u4 _ from (by repeat (with_reducible first | assumption | exact Ext.refl _ | refine Ext.drew ?_ | refine Ext.drewN ?_ _ | refine Ext.alloc ?_ _ | refine xS ?_ _ | refine xT ?_ (by assumption)))))).mono ?_; rintro e u5 ⟨rfl, hE⟩
   have x : Ext u4 u5 := (by repeat (with_reducible first | assumption | exact Ext.refl _ | refine Ext.drew ?_ | refine Ext.drewN ?_ _ | refine Ext.alloc ?_ _ | refine xS ?_ _ | refine xT ?_ (by assumption)))
   clear r_mt0 l_mt0 r_f0 l_f0
   replace mt0 := hid (x.cell mt0.out)
   replace f0 := hid (x.cell f0.out)
   replace bv0 := hid (x.cell bv0.out)
   replace bv1 := hid (x.cell bv1.out)
   replace la := hid (la.out.ext x)
   replace lb := hid (lb.out.ext x)
   replace X := hid (X.out.trans x)
   clear x hE
   have r_mt0 := mt0.out
   have l_mt0 := cell_lt r_mt0
   dsimp only at l_mt0
   go_wp2_with fail
   refine (hP.out _ _ _ _ _ (hT'.out.ext (X.out.trans (show Ext u5 _ from (by repeat (with_reducible first | assumption | exact Ext.refl _ | refine Ext.drew ?_ | refine Ext.drewN ?_ _ | refine Ext.alloc ?_ _ | refine xS ?_ _ | refine xT ?_ (by assumption)))))) (la.out.ext (show Ext u5 _ from (by repeat (with_reducible first | assumption | exact Ext.refl _ | refine Ext.drew ?_ | refine Ext.drewN ?_ _ | refine Ext.alloc ?_ _ | refine xS ?_ _ | refine xT ?_ (by assumption))))) (lb.out.ext (show Ext u5 _ from (by repeat (with_reducible first | assumption | exact Ext.refl _ | refine Ext.drew ?_ | refine Ext.drewN ?_ _ | refine Ext.alloc ?_ _ | refine xS ?_ _ | refine xT ?_ (by assumption)))))).mono ?_; rintro e u6 ⟨ax, cx, rfl, tx_, hE⟩
   have x : Ext u5 u6 := (by repeat (with_reducible first | assumption | exact Ext.refl _ | refine Ext.drew ?_ | refine Ext.drewN ?_ _ | refine Ext.alloc ?_ _ | refine xS ?_ _ | refine xT ?_ (by assumption)))
   clear r_mt0 l_mt0
   replace mt0 := hid (x.cell mt0.out)
   replace f0 := hid (x.cell f0.out)
   replace bv0 := hid (x.cell bv0.out)
   replace bv1 := hid (x.cell bv1.out)
   replace la := hid (la.out.ext x)
   replace lb := hid (lb.out.ext x)
   replace X := hid (X.out.trans x)
   have tx := hid tx_
   clear tx_
   clear x hE
   have r_mt0 := mt0.out
   have l_mt0 := cell_lt r_mt0
   dsimp only at l_mt0
   go_wp2_with fail
   refine name_c (fun v7 hw => ?_)
   have x : Ext u6 v7 := by rw [hw]; exact (by repeat (with_reducible first | assumption | exact Ext.refl _ | refine Ext.drew ?_ | refine Ext.drewN ?_ _ | refine Ext.alloc ?_ _ | refine xS ?_ _ | refine xT ?_ (by assumption)))
   have bt0 := hid (show v7.cell? ⟨u6.heap.size, 0, none⟩ = some (.slice ax mr cx) by rw [hw]; simp [go_sem])
   clear r_mt0 l_mt0
   replace mt0 := hid (x.cell mt0.out)
   replace f0 := hid (x.cell f0.out)
   replace bv0 := hid (x.cell bv0.out)
   replace bv1 := hid (x.cell bv1.out)
   replace la := hid (la.out.ext x)
   replace lb := hid (lb.out.ext x)
   replace tx := hid (tx.out.ext x)
   replace X := hid (X.out.trans x)
   clear x hw
   generalize u6.heap.size = Bbt at *
   refine (hX.out _ _ _ (tx.out.ext (show Ext v7 _ from (by repeat (with_reducible first | assumption | exact Ext.refl _ | refine Ext.drew ?_ | refine Ext.drewN ?_ _ | refine Ext.alloc ?_ _ | refine xS ?_ _ | refine xT ?_ (by assumption)))))).mono ?_; rintro e u8 ⟨a8, c8, a9, c9, rfl, lv_, lw_, hE⟩
   have x : Ext v7 u8 := (by repeat (with_reducible first | assumption | exact Ext.refl _ | refine Ext.drew ?_ | refine Ext.drewN ?_ _ | refine Ext.alloc ?_ _ | refine xS ?_ _ | refine xT ?_ (by assumption)))
   replace mt0 := hid (x.cell mt0.out)
   replace f0 := hid (x.cell f0.out)
   replace bv0 := hid (x.cell bv0.out)
   replace bv1 := hid (x.cell bv1.out)
   replace la := hid (la.out.ext x)
   replace lb := hid (lb.out.ext x)
   replace tx := hid (tx.out.ext x)
   replace bt0 := hid (x.cell bt0.out)
   replace X := hid (X.out.trans x)
   have lv := hid lv_
   clear lv_
   have lw := hid lw_
   clear lw_
   clear x hE
   clear lv lw
   have r_bt0 := bt0.out
   have l_bt0 := cell_lt r_bt0
   dsimp only at l_bt0
   go_wp2_with fail
   refine name_c (fun v9 hw => ?_)
   have x : Ext u8 v9 := by rw [hw]; exact (by repeat (with_reducible first | assumption | exact Ext.refl _ | refine Ext.drew ?_ | refine Ext.drewN ?_ _ | refine Ext.alloc ?_ _ | refine xS ?_ _ | refine xT ?_ (by assumption)))
   have bw0 := hid (show v9.cell? ⟨u8.heap.size, 0, none⟩ = some (.int .i64 vn) by rw [hw]; simp [go_sem])
   have bw1 := hid (show v9.cell? ⟨u8.heap.size, 1, none⟩ = some (.int .i64 vd) by rw [hw]; simp [go_sem])
   clear r_bt0 l_bt0
   replace mt0 := hid (x.cell mt0.out)
   replace f0 := hid (x.cell f0.out)
   replace bv0 := hid (x.cell bv0.out)
   replace bv1 := hid (x.cell bv1.out)
   replace la := hid (la.out.ext x)
   replace lb := hid (lb.out.ext x)
   replace tx := hid (tx.out.ext x)
   replace bt0 := hid (x.cell bt0.out)
   replace X := hid (X.out.trans x)
   clear x hw
   generalize u8.heap.size = Bbw at *
   refine (h4.out _ _ _ (tx.out.ext (show Ext v9 _ from (by repeat (with_reducible first | assumption | exact Ext.refl _ | refine Ext.drew ?_ | refine Ext.drewN ?_ _ | refine Ext.alloc ?_ _ | refine xS ?_ _ | refine xT ?_ (by assumption)))))).mono ?_; rintro e u10 ⟨a6, c6, a7, c7, rfl, lv_, lw_, hE⟩
   have x : Ext v9 u10 := (by repeat (with_reducible first | assumption | exact Ext.refl _ | refine Ext.drew ?_ | refine Ext.drewN ?_ _ | refine Ext.alloc ?_ _ | refine xS ?_ _ | refine xT ?_ (by assumption)))
   replace mt0 := hid (x.cell mt0.out)
   replace f0 := hid (x.cell f0.out)
   replace bv0 := hid (x.cell bv0.out)
   replace bv1 := hid (x.cell bv1.out)
   replace la := hid (la.out.ext x)
   replace lb := hid (lb.out.ext x)
   replace tx := hid (tx.out.ext x)
   replace bt0 := hid (x.cell bt0.out)
   replace bw0 := hid (x.cell bw0.out)
   replace bw1 := hid (x.cell bw1.out)
   replace X := hid (X.out.trans x)
   have lv := hid lv_
   clear lv_
   have lw := hid lw_
   clear lw_
   clear x hE
   clear lv lw
   have r_bt0 := bt0.out
   have l_bt0 := cell_lt r_bt0
   dsimp only at l_bt0
   have r_bv0 := bv0.out
   have l_bv0 := cell_lt r_bv0
   dsimp only at l_bv0
   have r_bv1 := bv1.out
   have l_bv1 := cell_lt r_bv1
   dsimp only at l_bv1
   have r_bw0 := bw0.out
   have l_bw0 := cell_lt r_bw0
   dsimp only at l_bw0
   have r_bw1 := bw1.out
   have l_bw1 := cell_lt r_bw1
   dsimp only at l_bw1
   go_wp2_with fail
   refine (s1.out _ _ _ (tx.out.ext (show Ext u10 _ from (by repeat (with_reducible first | assumption | exact Ext.refl _ | refine Ext.drew ?_ | refine Ext.drewN ?_ _ | refine Ext.alloc ?_ _ | refine xS ?_ _ | refine xT ?_ (by assumption)))))).mono ?_; rintro e u11 ⟨rfl, hE⟩
   have x : Ext u10 u11 := (by repeat (with_reducible first | assumption | exact Ext.refl _ | refine Ext.drew ?_ | refine Ext.drewN ?_ _ | refine Ext.alloc ?_ _ | refine xS ?_ _ | refine xT ?_ (by assumption)))
   clear r_bt0 l_bt0 r_bv0 l_bv0 r_bv1 l_bv1 r_bw0 l_bw0 r_bw1 l_bw1
   replace mt0 := hid (x.cell mt0.out)
   replace f0 := hid (x.cell f0.out)
   replace bv0 := hid (x.cell bv0.out)
   replace bv1 := hid (x.cell bv1.out)
   replace la := hid (la.out.ext x)
   replace lb := hid (lb.out.ext x)
   replace tx := hid (tx.out.ext x)
   replace bt0 := hid (x.cell bt0.out)
   replace bw0 := hid (x.cell bw0.out)
   replace bw1 := hid (x.cell bw1.out)
   replace X := hid (X.out.trans x)
   clear x hE
   have r_bt0 := bt0.out
   have l_bt0 := cell_lt r_bt0
   dsimp only at l_bt0
   go_wp2_with fail
   refine (tr.out _ _ _ (tx.out.ext (show Ext u11 _ from (by repeat (with_reducible first | assumption | exact Ext.refl _ | refine Ext.drew ?_ | refine Ext.drewN ?_ _ | refine Ext.alloc ?_ _ | refine xS ?_ _ | refine xT ?_ (by assumption)))))).mono ?_; rintro e u12 ⟨ay, cy, rfl, ty_, hE⟩
   have x : Ext u11 u12 := (by repeat (with_reducible first | assumption | exact Ext.refl _ | refine Ext.drew ?_ | refine Ext.drewN ?_ _ | refine Ext.alloc ?_ _ | refine xS ?_ _ | refine xT ?_ (by assumption)))
   clear r_bt0 l_bt0
   replace mt0 := hid (x.cell mt0.out)
   replace f0 := hid (x.cell f0.out)
   replace bv0 := hid (x.cell bv0.out)
   replace bv1 := hid (x.cell bv1.out)
   replace la := hid (la.out.ext x)
   replace lb := hid (lb.out.ext x)
   replace tx := hid (tx.out.ext x)
   replace bt0 := hid (x.cell bt0.out)
   replace bw0 := hid (x.cell bw0.out)
   replace bw1 := hid (x.cell bw1.out)
   replace X := hid (X.out.trans x)
   have ty := hid ty_
   clear ty_
   clear x hE
   go_wp2_with fail
   refine (s2.out _ _ _ (ty.out.ext (show Ext u12 _ from (by repeat (with_reducible first | assumption | exact Ext.refl _ | refine Ext.drew ?_ | refine Ext.drewN ?_ _ | refine Ext.alloc ?_ _ | refine xS ?_ _ | refine xT ?_ (by assumption)))))).mono ?_; rintro e u13 ⟨rfl, hE⟩
   have x : Ext u12 u13 := (by repeat (with_reducible first | assumption | exact Ext.refl _ | refine Ext.drew ?_ | refine Ext.drewN ?_ _ | refine Ext.alloc ?_ _ | refine xS ?_ _ | refine xT ?_ (by assumption)))
   replace mt0 := hid (x.cell mt0.out)
   replace f0 := hid (x.cell f0.out)
   replace bv0 := hid (x.cell bv0.out)
   replace bv1 := hid (x.cell bv1.out)
   replace la := hid (la.out.ext x)
   replace lb := hid (lb.out.ext x)
   replace tx := hid (tx.out.ext x)
   replace bt0 := hid (x.cell bt0.out)
   replace bw0 := hid (x.cell bw0.out)
   replace bw1 := hid (x.cell bw1.out)
   replace ty := hid (ty.out.ext x)
   replace X := hid (X.out.trans x)
   clear x hE
   have r_bt0 := bt0.out
   have l_bt0 := cell_lt r_bt0
   dsimp only at l_bt0
   go_wp2_with fail
   refine (h5.out _ _ _ (tx.out.ext (show Ext u13 _ from (by repeat (with_reducible first | assumption | exact Ext.refl _ | refine Ext.drew ?_ | refine Ext.drewN ?_ _ | refine Ext.alloc ?_ _ | refine xS ?_ _ | refine xT ?_ (by assumption)))))).mono ?_; rintro e u14 ⟨rfl, hE⟩
   have x : Ext u13 u14 := (by repeat (with_reducible first | assumption | exact Ext.refl _ | refine Ext.drew ?_ | refine Ext.drewN ?_ _ | refine Ext.alloc ?_ _ | refine xS ?_ _ | refine xT ?_ (by assumption)))
   clear r_bt0 l_bt0
   replace mt0 := hid (x.cell mt0.out)
   replace f0 := hid (x.cell f0.out)
   replace bv0 := hid (x.cell bv0.out)
   replace bv1 := hid (x.cell bv1.out)
   replace la := hid (la.out.ext x)
   replace lb := hid (lb.out.ext x)
   replace tx := hid (tx.out.ext x)
   replace bt0 := hid (x.cell bt0.out)
   replace bw0 := hid (x.cell bw0.out)
   replace bw1 := hid (x.cell bw1.out)
   replace ty := hid (ty.out.ext x)
   replace X := hid (X.out.trans x)
   clear x hE
   go_wp2_with fail
   refine (works_any _).mono ?_; rintro e u15 ⟨rfl, hE⟩
   have x : Ext u14 u15 := (by repeat (with_reducible first | assumption | exact Ext.refl _ | refine Ext.drew ?_ | refine Ext.drewN ?_ _ | refine Ext.alloc ?_ _ | refine xS ?_ _ | refine xT ?_ (by assumption)))
   replace mt0 := hid (x.cell mt0.out)
   replace f0 := hid (x.cell f0.out)
   replace bv0 := hid (x.cell bv0.out)
   replace bv1 := hid (x.cell bv1.out)
   replace la := hid (la.out.ext x)
   replace lb := hid (lb.out.ext x)
   replace tx := hid (tx.out.ext x)
   replace bt0 := hid (x.cell bt0.out)
   replace bw0 := hid (x.cell bw0.out)
   replace bw1 := hid (x.cell bw1.out)
   replace ty := hid (ty.out.ext x)
   replace X := hid (X.out.trans x)
   clear x hE
   go_wp2_with fail
   go_ret
   exact ⟨rfl, X.out⟩

end Go.Proofs.Ytommhgcgaclflaa
