/- The law SearchTurned, walked. (Printed by wip/laws.) -/
import Derived.Test.YtommhgcgaclflaaZB7
import Derived.Test.YtommhgcgaclflaaZTurned32
import Derived.Test.YtommhgcgaclflaaZTurned36
import Derived.Test.YtommhgcgaclflaaYt
import Derived.Test.YtommhgcgaclflaaMvw
import Derived.Test.YtommhgcgaclflaaZB12
import Derived.Test.YtommhgcgaclflaaZTurned35
import Derived.Test.YtommhgcgaclflaaBox
import Derived.Test.YtommhgcgaclflaaZB17
import Derived.Test.YtommhgcgaclflaaTD
namespace Go.Proofs.Ytommhgcgaclflaa
set_option linter.unusedVariables false
set_option linter.unusedSimpArgs false
set_option linter.unusedSectionVars false
set_option linter.unnecessarySimpa false
open Go Go.RowKit Game
set_option maxRecDepth 100000

set_option maxHeartbeats 40000000 in
theorem searchTurned_any (t : List (List Int)) (q : FitT t) (a : Option Addr) (cap : Nat) (dv rv : Int) (w : World) (hT : Tab w a t) (hl : t.length ≤ 9223372036854775807) (hw : ∀ i, (row t i).length ≤ 9223372036854775807) (hdv : 0 ≤ dv ∧ dv ≤ 255) (hrv : 0 ≤ rv ∧ rv ≤ 255) :
 Calls Try.prog 13 #[(.agg #[.slice a t.length cap]), .int .u8 dv, .int .u8 rv] w fun e w' => e = .returned (.bool true) ∧ Ext w w' := by
 have hT' := hid hT
 have hfi := hid (fun W hW => fineL_any t q a cap W hW hl hw)
 by_cases g : chkT t = 0
 case neg =>
  rw [decide_eq_false g] at hfi
  replace g := hid g
  clear hT hw hl
  go_enter Try.func13, Try.ntmps13
  go_wp2_with fail
  refine (hfi.out _ (hT'.out.ext (by repeat (with_reducible first | assumption | exact Ext.refl _ | refine Ext.drew ?_ | refine Ext.drewN ?_ _ | refine Ext.alloc ?_ _ | refine xS ?_ _ | refine xT ?_ (by assumption))))).mono ?_; rintro e w1 ⟨rfl, hE⟩
  go_wp2_with fail
  refine (works_any _).mono ?_; rintro e w2 ⟨rfl, hE2⟩
  go_wp2_with fail
  go_ret
  exact ⟨rfl, (by repeat (with_reducible first | assumption | exact Ext.refl _ | refine Ext.drew ?_ | refine Ext.drewN ?_ _ | refine Ext.alloc ?_ _ | refine xS ?_ _ | refine xT ?_ (by assumption)))⟩
 case pos =>
  rw [decide_eq_true g] at hfi
  have v := chkT_ok.1 g
  have v2 := turn_vld v
  have g2 := chkT_ok.2 v2
  have q2 : FitT (turn t) := vld_fit v2
  have m1 := v.m1; have m4 := v.m4; have n1 := v.n1; have n4 := v.n4
  have hl1 : t.length ≤ 1000 := by omega
  have hw1 := hw_of v
  have hw2 := hw_of v2
  have tl : (turn t).length = wid t := turn_len t
  have tw : wid (turn t) = t.length := turn_wid (by omega)
  have tt := turn_turn v
  obtain ⟨b, off, B, O, CP, rfl, hb, hcc⟩ := hT.full (by omega) v.eq (by omega)
  obtain ⟨c, hc, hcm⟩ := mod_natT hdv.1 (m := t.length) (by omega)
  obtain ⟨d, hd, hdn⟩ := mod_natT hrv.1 (m := wid t) (by omega)
  have kd := Go.IntWalk.i64_in dv (by omega)
  have kr := Go.IntWalk.i64_in rv (by omega)
  have kc := Go.IntWalk.i64_in (c : Int) (by omega)
  have ke := Go.IntWalk.i64_in (d : Int) (by omega)
  have vy := rotT_vld v c d
  have gy := chkT_ok.2 vy
  have qy : FitT (rotT t c d) := vld_fit vy
  have ly := rotT_len t c d
  have wy := rotT_wid v c d
  have r00 := (hcc 0 (by omega)).1
  rw [Nat.add_zero] at r00
  have b1 := (bestL_vld v).len
  have b2 := (bestL_vld v2).len
  rw [tl] at b2
  obtain ⟨c1, c2, c3⟩ := best_prf g2
  have hv2 := val_turn v
  have hvy := rotT_val v hcm hdn
  rw [tt, hv2] at c2 c3
  rw [tt] at c1
  dsimp only at c2 c3
  have u1 := us_ne v
  have k1 := us_ne v2
  have lL1 := nats_len (usL t)
  have lL2 := nats_len (usL (turn t))
  have e3 : usedR (turn t) = nats (usL (turn t)) := by unfold usedR; rw [if_pos g2, us_nats]
  have e4 : usedC (turn t) = nats (usL t) := by unfold usedC; rw [if_pos g2, tt, us_nats]
  have mu1 := moved_used v hcm hdn
  have mu2 := moved_used v2 (c := d) (d := c) (by rw [tl]; exact hdn) (by rw [tw]; exact hcm)
  rw [tl, ← rotT_turn v c d] at mu2
  have e5 : usedR (rotT t c d) = bitsTo (usedB (rotT t c d)) 4 := if_pos gy
  have e6 : usedC (rotT t c d) = bitsTo (usedB (turn (rotT t c d))) 4 := if_pos gy
  have u4 : (usL t).length ≤ 4 := lst_len4 _
  have k4 : (usL (turn t)).length ≤ 4 := lst_len4 _
  have l5 : (bitsTo (usedB (rotT t c d)) 4).length ≤ 4 := bitsTo_len _ 4
  have l6 : (bitsTo (usedB (turn (rotT t c d))) 4).length ≤ 4 := bitsTo_len _ 4
  obtain ⟨y1, y2, y3, y4, -, -⟩ := val_small v
  have h1 := hid (fun W hW => valueL_any t q g (some ⟨b, off, none⟩) cap W hW)
  have hTr := hid (fun W hW => turnedR_any t v (some ⟨b, off, none⟩) cap W hW)
  have hX := hid (fun aa cc W hW => valueL_any (turn t) q2 g2 aa cc W hW)
  have hU := hid (fun W hW => usedF_any t g (some ⟨b, off, none⟩) cap W hW)
  have hV := hid (fun aa cc W hW => usedP_any (turn t) q2 aa cc W hW (by omega) hw2)
  have I1 := hid (fun a b ca cb W hA hB => ints_any (nats (usL t)) (nats (usL t)) (by rw [nats_len]; omega) (by rw [nats_len]; omega) a b ca cb W hA hB)
  have I2 := hid (fun a b ca cb W hA hB => ints_any (nats (usL (turn t))) (nats (usL (turn t))) (by rw [nats_len]; omega) (by rw [nats_len]; omega) a b ca cb W hA hB)
  have hC := hid (fun aa cc bb cb dd cd W hW hK hL => checkProof_any (turn t) q2 aa cc (bestL (turn t)) (best_i64 v2) (by omega) bb cb (bestL t) (best_i64 v) (by omega) dd cd W hW (by omega) hw2 hK hL)
  have hY := hid (fun aa cc W hW => valueL_any (rotT t c d) qy gy aa cc W hW)
  have hZ := hid (fun aa cc W hW => usedP_any (rotT t c d) qy aa cc W hW (by omega) (hw_of vy))
  have M1 := hid (fun aa cc W hI => movedL_any (usL t) c t.length m1 m4 hcm (fun x hx => ((us_mem v).1 hx).1) u4 aa cc W hI)
  have M2 := hid (fun aa cc W hI => movedL_any (usL (turn t)) d (wid t) n1 n4 hdn (fun x hx => by have := ((us_mem v2).1 hx).1; rwa [tl] at this) k4 aa cc W hI)
  have I5 := hid (fun a b ca cb W hA hB => ints_any (bitsTo (usedB (rotT t c d)) 4) (bitsTo (usedB (rotT t c d)) 4) (by omega) (by omega) a b ca cb W hA hB)
  have I6 := hid (fun a b ca cb W hA hB => ints_any (bitsTo (usedB (turn (rotT t c d))) 4) (bitsTo (usedB (turn (rotT t c d))) 4) (by omega) (by omega) a b ca cb W hA hB)
  unfold RetL2 at hV hZ
  unfold RetT at hTr
  unfold RetI at M1 M2
  rw [us_nats, us_nats, nats_len, nats_len] at hU
  rw [e3, e4, nats_len, nats_len, g2, tl] at hV
  rw [e5, e6, gy, ly] at hZ
  rw [tl] at hTr hC
  rw [tl, tw, hv2] at hX
  rw [ly, wy, hvy] at hY
  rw [b1, b2, c1, c2, c3] at hC
  rw [nats_len, decide_eq_true rfl] at I1 I2
  rw [decide_eq_true rfl] at I5 I6
  unfold usL at M1 M2
  rw [mu1] at M1
  rw [mu2] at M2
  have hzn := Go.IntWalk.i64_in (-(val t).1) (by omega)
  have eS : ∀ w, (Op.equalIn 10000 30 (.agg #[.int .i64 (-(val t).1), .int .i64 (val t).2]) (.agg #[.int .i64 (-(val t).1), .int .i64 (val t).2])).run Try.prog w = .ok true w := fun w => by rw [run_eqRatio, decide_eq_true ⟨rfl, rfl⟩]
  have eT : ∀ w, (Op.equalIn 10000 30 (.agg #[.int .i64 (val t).1, .int .i64 (val t).2]) (.agg #[.int .i64 (val t).1, .int .i64 (val t).2])).run Try.prog w = .ok true w := fun w => by rw [run_eqRatio, decide_eq_true ⟨rfl, rfl⟩]
  obtain ⟨vn, hvn⟩ : ∃ x, (val t).1 = x := ⟨_, rfl⟩
  obtain ⟨vd, hvd⟩ : ∃ x, (val t).2 = x := ⟨_, rfl⟩
  dsimp only at hX
  rw [hvn, hvd] at h1 hX hC hY eS eT
  rw [hvn] at hzn
  have hrl := hid (fun i (hi : i < t.length) => (hcc i hi).1)
  have hel := hid (fun i (hi : i < t.length) k (hk : k < wid t) => (hcc i hi).2.2 k hk)
  have hp0 := hid (fun i => prF_zero t i d)
  have hps := hid (fun i j (hj : j < wid t) => prF_step v (i := i) hdn hj)
  have hpe := hid (fun k j (hk : k < t.length) (hj : j < wid t) => prF_end v (d := d) hcm hk hj)
  have hys := hid (fun (W : World) (B0 G : Nat) (Bf : Nat → Nat) (k : Nat) (h : YN W B0 G Bf t c d k) (hk : k < t.length) (nb : Nat) (hn : nb ≠ G) (hb : B0 ≤ nb) he => YN.step v hcm h hk hn hb he)
  have hyt := hid (fun (W : World) (B0 G : Nat) (Bf : Nat → Nat) (h : YN W B0 G Bf t c d t.length) => YN.tab v h)
  have hyc := hid (fun (W : World) (B0 G : Nat) (Bf : Nat → Nat) (k : Nat) (h : YN W B0 G Bf t c d k) => And.intro h.cc h.ff)
  have hyn := hid (fun (W : World) (B0 G : Nat) (h : ∀ p, p < t.length → W.cell? ⟨G, p, none⟩ = some (.slice none 0 0) ∧ W.frozen? ⟨G, p, none⟩ = false) (hg : B0 ≤ G) => (show YN W B0 G (fun _ => 0) t c d 0 from ⟨fun p hp => by rw [if_neg (by omega)]; exact (h p hp).1, fun p hp => (h p hp).2, fun p hp hk => absurd hk (by omega), fun p hp hk => absurd hk (by omega), hg⟩))
  obtain ⟨L1, hL1⟩ : ∃ x, nats (usL t) = x := ⟨_, rfl⟩
  obtain ⟨L2, hL2⟩ : ∃ x, nats (usL (turn t)) = x := ⟨_, rfl⟩
  obtain ⟨L5, hL5⟩ : ∃ x, bitsTo (usedB (rotT t c d)) 4 = x := ⟨_, rfl⟩
  obtain ⟨L6, hL6⟩ : ∃ x, bitsTo (usedB (turn (rotT t c d))) 4 = x := ⟨_, rfl⟩
  have hL1' : nats (lst (usedB t)) = L1 := hL1
  have hL2' : nats (lst (usedB (turn t))) = L2 := hL2
  rw [hL1] at hU hV I1 lL1
  rw [hL2] at hU hV I2 lL2
  rw [hL1'] at M1
  rw [hL2'] at M2
  rw [hL5] at hZ I5 M1
  rw [hL6] at hZ I6 M2
  obtain ⟨u, hu⟩ : ∃ x, (usL t).length = x := ⟨_, rfl⟩
  obtain ⟨z, hz⟩ : ∃ x, (usL (turn t)).length = x := ⟨_, rfl⟩
  have hu' : (lst (usedB t)).length = u := hu
  have hz' : (lst (usedB (turn t))).length = z := hz
  rw [hu] at hU hV I1 lL1 u1
  rw [hz] at hU hV I2 lL2 k1
  rw [hu'] at M1
  rw [hz'] at M2
  obtain ⟨s5, hs5⟩ : ∃ x, L5.length = x := ⟨_, rfl⟩
  obtain ⟨s6, hs6⟩ : ∃ x, L6.length = x := ⟨_, rfl⟩
  rw [hs5] at hZ I5 M1
  rw [hs6] at hZ I6 M2
  obtain ⟨YY, hYY⟩ : ∃ x, rotT t c d = x := ⟨_, rfl⟩
  obtain ⟨TT, hTT⟩ : ∃ x, turn t = x := ⟨_, rfl⟩
  rw [hYY] at hY hZ hyt hpe hys
  rw [hTT] at hTr hX hV hC h1
  obtain ⟨rl, hrl2⟩ : ∃ x, bestL t = x := ⟨_, rfl⟩
  obtain ⟨kl, hkl2⟩ : ∃ x, bestL TT = x := ⟨_, rfl⟩
  rw [hrl2] at h1 hC
  rw [hkl2] at h1 hC
  obtain ⟨E, hE_⟩ : ∃ x, ent t = x := ⟨_, rfl⟩
  rw [hE_] at hel hps
  obtain ⟨PR, hPR⟩ : ∃ x, (fun i j => prF t i d j) = x := ⟨_, rfl⟩
  have hPR2 : ∀ i j, prF t i d j = PR i j := fun i j => congrFun (congrFun hPR i) j
  replace hp0 := hid (fun i => by have h := hp0.out i; rw [hPR2] at h; exact h)
  replace hps := hid (fun i j hj => by have h := hps.out i j hj; rw [hPR2, hPR2] at h; exact h)
  replace hpe := hid (fun k j hk hj => by have h := hpe.out k j hk hj; rw [hPR2] at h; exact h)
  obtain ⟨m, hm⟩ : ∃ x, t.length = x := ⟨_, rfl⟩
  obtain ⟨n, hn⟩ : ∃ x, wid t = x := ⟨_, rfl⟩
  rw [hm] at h1 hTr hU hC hfi m1 m4 hc hcm hX hY hZ M1 hrl hel hpe hys hyt hyn hyc ⊢
  rw [hn] at h1 hTr hX hV hC hY M2 hd hdn r00 n1 n4 hrl hel hp0 hps hpe hys hyc
  have hm0 : (0 : Int) < (m : Int) := by omega
  have hm00 : 0 < m := by omega
  have hn0 : (0 : Int) < (n : Int) := by omega
  have hn00 : 0 < n := by omega
  have hm9 : ¬ m = 0 := by omega
  have hn9 : ¬ n = 0 := by omega
  have hmz : ((m : Int) == 0) = false := by simp; omega
  have hnz : ((n : Int) == 0) = false := by simp; omega
  have R0 := hid r00
  replace lL1 := hid lL1
  replace lL2 := hid lL2
  clear hT hw hl hl1 hw1 hw2 tl tw tt hb hcc r00 b1 b2 c1 c2 c3 hv2 hvy e3 e4 e5 e6 mu1 mu2 u4 k4 l5 l6 y1 y2 y3 y4 vy gy qy ly wy hvn hvd hL1 hL2 hL5 hL6 hL1' hL2' hu hz hu' hz' hs5 hs6 hYY hTT hrl2 hkl2 hE_ hPR hPR2 hm hn v v2 g g2 q2 hdv hrv
  go_enter Try.func13, Try.ntmps13
  go_wp2_with fail
  refine (hfi.out _ (hT'.out.ext (by repeat (with_reducible first | assumption | exact Ext.refl _ | refine Ext.drew ?_ | refine Ext.drewN ?_ _ | refine Ext.alloc ?_ _ | refine xS ?_ _ | refine xT ?_ (by assumption))))).mono ?_; rintro e w1 ⟨rfl, hE⟩
  have mt0 := hid (hE.cell (p := ⟨w.heap.size, 0, none⟩) (v := .slice (some ⟨b, off, none⟩) m cap) (by simp [go_sem]))
  have X := hid (show Ext w w1 from (by repeat (with_reducible first | assumption | exact Ext.refl _ | refine Ext.drew ?_ | refine Ext.drewN ?_ _ | refine Ext.alloc ?_ _ | refine xS ?_ _ | refine xT ?_ (by assumption))))
  clear hE
  generalize w.heap.size = Bt at *
  have f0 := hid (X.out.cell R0.out)
  clear R0
  have r_mt0 := mt0.out
  have l_mt0 := cell_lt r_mt0
  dsimp only at l_mt0
  go_wp2_with fail
  have q0 := mt0.out
  have q1 := f0.out
  refine name_act (fun A_ hA_ => ?_)
  obtain ⟨Q2, hQ2⟩ : ∃ Q2 : Exit → Act → World → Prop, Q2 = fun e a' w' => e = .normal ∧ ∃ (v0_ v1_ v2_ v3_ v4_ v5_ v6_ v7_ : Value), a' = ((((((((((A_.put (some 34) (v0_)).put (some 35) (v1_)).put (some 36) (v2_)).put (some 37) (v3_)).put (some 38) (v4_)).put (some 39) (v5_)).put (some 40) (v6_)).put (some 41) (v7_)).put (some 7) (.int .i64 m)).put (some 8) (.int .i64 n)) ∧ Ext w1 w' := ⟨_, rfl⟩
  have hpan : ∀ c a a' w w', Q2 (.panic c) a w → Q2 (.panic c) a' w' := by rw [hQ2]; rintro c a a' w w' ⟨h, _⟩; cases h
  replace hQ2 := hid hQ2
  refine wp_mono (Q := Q2) ?_ ?_
  ·subst hA_
   refine wp_region_held_drew (S := fun w' => Ext w1 w') (by kernel_rfl) (by repeat (with_reducible first | assumption | exact Ext.refl _ | refine Ext.drew ?_ | refine Ext.drewN ?_ _ | refine Ext.alloc ?_ _ | refine xS ?_ _ | refine xT ?_ (by assumption))) fun hHeld => ?_
   refine name_any (fun W0 hW => ?_)
   have s0 : Ext w1 W0 := by rw [hW]; exact hHeld
   clear hW hHeld
   refine tkA (i := 0) (v := ?_) rfl (fun c a w h => hpan c _ _ _ _ h) (Or.inl ⟨by rfl, ?yl⟩) (by assumption) ?_
   case yl => (intro w hSw; (try dsimp only at hSw); have k_0 := Ext.cell hSw q0; have k_1 := Ext.cell hSw q1; go_simp); with_reducible rfl
   try simp only [sxA, sxB, sxC, Act.put, sxD, sxE, sxF]
   refine tkA (i := 1) (v := ?_) rfl (fun c a w h => hpan c _ _ _ _ h) (Or.inl ⟨by rfl, ?yl⟩) (by assumption) ?_
   case yl => (intro w hSw; (try dsimp only at hSw); have k_0 := Ext.cell hSw q0; have k_1 := Ext.cell hSw q1; go_simp); with_reducible rfl
   try simp only [sxA, sxB, sxC, Act.put, sxD, sxE, sxF]
   refine tkA (i := 2) (v := ?_) rfl (fun c a w h => hpan c _ _ _ _ h) (Or.inl ⟨by rfl, ?yl⟩) (by assumption) ?_
   case yl => (intro w hSw; (try dsimp only at hSw); have k_0 := Ext.cell hSw q0; have k_1 := Ext.cell hSw q1; go_simp); with_reducible rfl
   try simp only [sxA, sxB, sxC, Act.put, sxD, sxE, sxF]
   refine tkA (i := 3) (v := ?_) rfl (fun c a w h => hpan c _ _ _ _ h) (Or.inl ⟨by rfl, ?yl⟩) (by assumption) ?_
   case yl => (intro w hSw; (try dsimp only at hSw); have k_0 := Ext.cell hSw q0; have k_1 := Ext.cell hSw q1; go_simp); with_reducible rfl
   try simp only [sxA, sxB, sxC, Act.put, sxD, sxE, sxF]
   refine tkA (i := 4) (v := ?_) rfl (fun c a w h => hpan c _ _ _ _ h) (Or.inl ⟨by rfl, ?yl⟩) (by assumption) ?_
   case yl => (intro w hSw; (try dsimp only at hSw); have k_0 := Ext.cell hSw q0; have k_1 := Ext.cell hSw q1; go_simp); with_reducible rfl
   try simp only [sxA, sxB, sxC, Act.put, sxD, sxE, sxF]
   refine tkA (i := 5) (v := ?_) rfl (fun c a w h => hpan c _ _ _ _ h) (Or.inl ⟨by rfl, ?yl⟩) (by assumption) ?_
   case yl => (intro w hSw; (try dsimp only at hSw); have k_0 := Ext.cell hSw q0; have k_1 := Ext.cell hSw q1; go_simp); with_reducible rfl
   try simp only [sxA, sxB, sxC, Act.put, sxD, sxE, sxF]
   refine tkA (i := 6) (v := ?_) rfl (fun c a w h => hpan c _ _ _ _ h) (Or.inl ⟨by rfl, ?yl⟩) (by assumption) ?_
   case yl => (intro w hSw; (try dsimp only at hSw); have k_0 := Ext.cell hSw q0; have k_1 := Ext.cell hSw q1; go_simp); with_reducible rfl
   try simp only [sxA, sxB, sxC, Act.put, sxD, sxE, sxF]
   refine tkA (i := 7) (v := ?_) rfl (fun c a w h => hpan c _ _ _ _ h) (Or.inl ⟨by rfl, ?yl⟩) (by assumption) ?_
   case yl => (intro w hSw; (try dsimp only at hSw); have k_0 := Ext.cell hSw q0; have k_1 := Ext.cell hSw q1; go_simp); with_reducible rfl
   try simp only [sxA, sxB, sxC, Act.put, sxD, sxE, sxF]
   refine tkA (i := 8) (v := ?_) rfl (fun c a w h => hpan c _ _ _ _ h) (Or.inl ⟨by rfl, ?yl⟩) (by assumption) ?_
   case yl => (intro w hSw; (try dsimp only at hSw); have k_0 := Ext.cell hSw q0; have k_1 := Ext.cell hSw q1; go_simp); with_reducible rfl
   try simp only [sxA, sxB, sxC, Act.put, sxD, sxE, sxF]
   refine tkA (i := 9) (v := ?_) rfl (fun c a w h => hpan c _ _ _ _ h) (Or.inl ⟨by rfl, ?yl⟩) (by assumption) ?_
   case yl => (intro w hSw; (try dsimp only at hSw); have k_0 := Ext.cell hSw q0; have k_1 := Ext.cell hSw q1; go_simp); with_reducible rfl
   try simp only [sxA, sxB, sxC, Act.put, sxD, sxE, sxF]
   refine wpAnyH_done (by kernel_rfl) ?_ _
   try simp only [sxA, sxB, sxC, Act.put, sxD, sxE, sxF]
   rw [hQ2.out]
   refine ⟨rfl, ?u1_0_1, ?u1_1_1, ?u1_2_1, ?u1_3_1, ?u1_4_1, ?u1_5_1, ?u1_6_1, ?u1_7_1, ?eq1_1, s0⟩
   case eq1_1 => ((try simp only [sxA, sxB, sxC, Act.put, sxD, sxE, sxF]); first | done | with_reducible rfl | rfl)
  rw [hQ2.out]
  rintro e a' d1 ⟨rfl, v0_, v1_, v2_, v3_, v4_, v5_, v6_, v7_, rfl, x⟩
  clear hQ2 hpan; clear Q2
  subst hA_
  simp only [sxA, sxB, sxC, Act.put, sxD, sxE, sxF]
  clear q0 q1
  replace mt0 := hid (x.cell mt0.out)
  replace f0 := hid (x.cell f0.out)
  replace X := hid (X.out.trans x)
  clear x
  have r_mt0 := mt0.out
  have l_mt0 := cell_lt r_mt0
  dsimp only at l_mt0
  go_wp2_with fail
  refine (h1.out _ (hT'.out.ext (X.out.trans (show Ext d1 _ from (by repeat (with_reducible first | assumption | exact Ext.refl _ | refine Ext.drew ?_ | refine Ext.drewN ?_ _ | refine Ext.alloc ?_ _ | refine xS ?_ _ | refine xT ?_ (by assumption))))))).mono ?_; rintro e u2 ⟨ar, cr, ak, ck, rfl, lr_, lk_, hE⟩
  have x : Ext d1 u2 := (by repeat (with_reducible first | assumption | exact Ext.refl _ | refine Ext.drew ?_ | refine Ext.drewN ?_ _ | refine Ext.alloc ?_ _ | refine xS ?_ _ | refine xT ?_ (by assumption)))
  clear r_mt0 l_mt0
  replace mt0 := hid (x.cell mt0.out)
  replace f0 := hid (x.cell f0.out)
  replace X := hid (X.out.trans x)
  have lr := hid lr_
  clear lr_
  have lk := hid lk_
  clear lk_
  clear x hE
  have r_mt0 := mt0.out
  have l_mt0 := cell_lt r_mt0
  dsimp only at l_mt0
  go_wp2_with fail
  refine name_c (fun v3 hw => ?_)
  have x : Ext u2 v3 := by rw [hw]; exact (by repeat (with_reducible first | assumption | exact Ext.refl _ | refine Ext.drew ?_ | refine Ext.drewN ?_ _ | refine Ext.alloc ?_ _ | refine xS ?_ _ | refine xT ?_ (by assumption)))
  have bv0 := hid (show v3.cell? ⟨u2.heap.size, 0, none⟩ = some (.int .i64 vn) by rw [hw]; simp [go_sem])
  have bv1 := hid (show v3.cell? ⟨u2.heap.size, 1, none⟩ = some (.int .i64 vd) by rw [hw]; simp [go_sem])
  clear r_mt0 l_mt0
  replace mt0 := hid (x.cell mt0.out)
  replace f0 := hid (x.cell f0.out)
  replace lr := hid (lr.out.ext x)
  replace lk := hid (lk.out.ext x)
  replace X := hid (X.out.trans x)
  clear x hw
  generalize u2.heap.size = Bbv at *
  refine (hTr.out _ (hT'.out.ext (X.out.trans (show Ext v3 _ from (by repeat (with_reducible first | assumption | exact Ext.refl _ | refine Ext.drew ?_ | refine Ext.drewN ?_ _ | refine Ext.alloc ?_ _ | refine xS ?_ _ | refine xT ?_ (by assumption))))))).mono ?_; rintro e u4 ⟨ax, cx, rfl, tx_, hE⟩
  have x : Ext v3 u4 := (by repeat (with_reducible first | assumption | exact Ext.refl _ | refine Ext.drew ?_ | refine Ext.drewN ?_ _ | refine Ext.alloc ?_ _ | refine xS ?_ _ | refine xT ?_ (by assumption)))
  replace mt0 := hid (x.cell mt0.out)
  replace f0 := hid (x.cell f0.out)
  replace lr := hid (lr.out.ext x)
  replace lk := hid (lk.out.ext x)
  replace bv0 := hid (x.cell bv0.out)
  replace bv1 := hid (x.cell bv1.out)
  replace X := hid (X.out.trans x)
  have tx := hid tx_
  clear tx_
  clear x hE
  go_wp2_with fail
  refine name_c (fun v5 hw => ?_)
  have x : Ext u4 v5 := by rw [hw]; exact (by repeat (with_reducible first | assumption | exact Ext.refl _ | refine Ext.drew ?_ | refine Ext.drewN ?_ _ | refine Ext.alloc ?_ _ | refine xS ?_ _ | refine xT ?_ (by assumption)))
  have bt0 := hid (show v5.cell? ⟨u4.heap.size, 0, none⟩ = some (.slice ax n cx) by rw [hw]; simp [go_sem])
  replace mt0 := hid (x.cell mt0.out)
  replace f0 := hid (x.cell f0.out)
  replace lr := hid (lr.out.ext x)
  replace lk := hid (lk.out.ext x)
  replace bv0 := hid (x.cell bv0.out)
  replace bv1 := hid (x.cell bv1.out)
  replace tx := hid (tx.out.ext x)
  replace X := hid (X.out.trans x)
  clear x hw
  generalize u4.heap.size = Bbt at *
  refine (hX.out _ _ _ (tx.out.ext (show Ext v5 _ from (by repeat (with_reducible first | assumption | exact Ext.refl _ | refine Ext.drew ?_ | refine Ext.drewN ?_ _ | refine Ext.alloc ?_ _ | refine xS ?_ _ | refine xT ?_ (by assumption)))))).mono ?_; rintro e u6 ⟨a8, c8, a9, c9, rfl, lv_, lw_, hE⟩
  have x : Ext v5 u6 := (by repeat (with_reducible first | assumption | exact Ext.refl _ | refine Ext.drew ?_ | refine Ext.drewN ?_ _ | refine Ext.alloc ?_ _ | refine xS ?_ _ | refine xT ?_ (by assumption)))
  replace mt0 := hid (x.cell mt0.out)
  replace f0 := hid (x.cell f0.out)
  replace lr := hid (lr.out.ext x)
  replace lk := hid (lk.out.ext x)
  replace bv0 := hid (x.cell bv0.out)
  replace bv1 := hid (x.cell bv1.out)
  replace tx := hid (tx.out.ext x)
  replace bt0 := hid (x.cell bt0.out)
  replace X := hid (X.out.trans x)
  have lv := hid lv_
  clear lv_
  have lw := hid lw_
  clear lw_
  clear x hE
  clear lv lw
  have r_mt0 := mt0.out
  have l_mt0 := cell_lt r_mt0
  dsimp only at l_mt0
  go_wp2_with fail
  have hBv0 := hid (show Bbv < u6.heap.size from cell_lt bv0.out)
  have hwB := hid (show w.heap.size ≤ u6.heap.size from X.out.size)
  refine name_c (fun v7 hw => ?_)
  have x : Ext u6 v7 := by rw [hw]; exact (by repeat (with_reducible first | assumption | exact Ext.refl _ | refine Ext.drew ?_ | refine Ext.drewN ?_ _ | refine Ext.alloc ?_ _ | refine xS ?_ _ | refine xT ?_ (by assumption)))
  have bw0 := hid (show v7.cell? ⟨u6.heap.size, 0, none⟩ = some (.int .i64 (-vn)) by rw [hw]; simp [go_sem])
  have bw1 := hid (show v7.cell? ⟨u6.heap.size, 1, none⟩ = some (.int .i64 vd) by rw [hw]; simp [go_sem])
  have bx := hid (show Bx2 v7 u6.heap.size ((-vn)) (vd) from ⟨by rw [hw]; simp [go_sem], by rw [hw]; simp [go_sem], by rw [hw]; simp [go_sem], by rw [hw]; simp [go_sem]⟩)
  clear r_mt0 l_mt0
  replace mt0 := hid (x.cell mt0.out)
  replace f0 := hid (x.cell f0.out)
  replace lr := hid (lr.out.ext x)
  replace lk := hid (lk.out.ext x)
  replace bv0 := hid (x.cell bv0.out)
  replace bv1 := hid (x.cell bv1.out)
  replace tx := hid (tx.out.ext x)
  replace bt0 := hid (x.cell bt0.out)
  replace X := hid (X.out.trans x)
  clear x hw
  generalize u6.heap.size = Bbw at *
  have hBwb := hid (show Bbw < v7.heap.size from cell_lt bw0.out)
  have hBvw := hid (show Bbv < Bbw from hBv0.out)
  clear hBv0
  refine (hU.out _ (hT'.out.ext (X.out.trans (show Ext v7 _ from (by repeat (with_reducible first | assumption | exact Ext.refl _ | refine Ext.drew ?_ | refine Ext.drewN ?_ _ | refine Ext.alloc ?_ _ | refine xS ?_ _ | refine xT ?_ (by assumption))))))).mono ?_; rintro e u8 ⟨a1, c1, a2, c2, rfl, la_, lb_, hE⟩
  have x : Ext v7 u8 := (by repeat (with_reducible first | assumption | exact Ext.refl _ | refine Ext.drew ?_ | refine Ext.drewN ?_ _ | refine Ext.alloc ?_ _ | refine xS ?_ _ | refine xT ?_ (by assumption)))
  replace mt0 := hid (x.cell mt0.out)
  replace f0 := hid (x.cell f0.out)
  replace lr := hid (lr.out.ext x)
  replace lk := hid (lk.out.ext x)
  replace bv0 := hid (x.cell bv0.out)
  replace bv1 := hid (x.cell bv1.out)
  replace tx := hid (tx.out.ext x)
  replace bt0 := hid (x.cell bt0.out)
  replace bx := hid (bx.out.ext x)
  replace bw0 := hid (x.cell bw0.out)
  replace bw1 := hid (x.cell bw1.out)
  replace X := hid (X.out.trans x)
  have la := hid la_
  clear la_
  have lb := hid lb_
  clear lb_
  clear x hE
  have r_bt0 := bt0.out
  have l_bt0 := cell_lt r_bt0
  dsimp only at l_bt0
  go_wp2_with fail
  refine (hV.out _ _ _ (tx.out.ext (show Ext u8 _ from (by repeat (with_reducible first | assumption | exact Ext.refl _ | refine Ext.drew ?_ | refine Ext.drewN ?_ _ | refine Ext.alloc ?_ _ | refine xS ?_ _ | refine xT ?_ (by assumption)))))).mono ?_; rintro e u9 ⟨a3, c3, a4, c4, rfl, lc_, ld_, hE⟩
  have x : Ext u8 u9 := (by repeat (with_reducible first | assumption | exact Ext.refl _ | refine Ext.drew ?_ | refine Ext.drewN ?_ _ | refine Ext.alloc ?_ _ | refine xS ?_ _ | refine xT ?_ (by assumption)))
  clear r_bt0 l_bt0
  replace mt0 := hid (x.cell mt0.out)
  replace f0 := hid (x.cell f0.out)
  replace lr := hid (lr.out.ext x)
  replace lk := hid (lk.out.ext x)
  replace bv0 := hid (x.cell bv0.out)
  replace bv1 := hid (x.cell bv1.out)
  replace tx := hid (tx.out.ext x)
  replace bt0 := hid (x.cell bt0.out)
  replace bx := hid (bx.out.ext x)
  replace bw0 := hid (x.cell bw0.out)
  replace bw1 := hid (x.cell bw1.out)
  replace la := hid (la.out.ext x)
  replace lb := hid (lb.out.ext x)
  replace X := hid (X.out.trans x)
  have lc := hid lc_
  clear lc_
  have ld := hid ld_
  clear ld_
  clear x hE
  go_wp2_with fail
  have q0 := bw0.out
  have q1 := bw1.out
  have q2 := bv0.out
  have q3 := bv1.out
  refine name_act (fun A_ hA_ => ?_)
  obtain ⟨Q2, hQ2⟩ : ∃ Q2 : Exit → Act → World → Prop, Q2 = fun e a' w' => e = .normal ∧ ∃ (v0_ v1_ v2_ v3_ v4_ v5_ v6_ v7_ v8_ v9_ v10_ v11_ v12_ v14_ v15_ v16_ v17_ v18_ v19_ v20_ v21_ v22_ v23_ v24_ v25_ v26_ v28_ v29_ v30_ v31_ v32_ v34_ : Value), a' = ((((((((((((((((((((((((((((((((((((A_.put (some 70) (v0_)).put (some 71) (v1_)).put (some 72) (v2_)).put (some 73) (v3_)).put (some 74) (v4_)).put (some 75) (v5_)).put (some 76) (v6_)).put (some 77) (v7_)).put (some 78) (v8_)).put (some 79) (v9_)).put (some 80) (v10_)).put (some 81) (v11_)).put (some 82) (v12_)).put (some 83) (.agg #[.int .i64 (-vn), .int .i64 vd])).put (some 84) (v14_)).put (some 85) (v15_)).put (some 86) (v16_)).put (some 87) (v17_)).put (some 88) (v18_)).put (some 89) (v19_)).put (some 90) (v20_)).put (some 91) (v21_)).put (some 92) (v22_)).put (some 93) (v23_)).put (some 94) (v24_)).put (some 95) (v25_)).put (some 96) (v26_)).put (some 97) (.bool true)).put (some 98) (v28_)).put (some 99) (v29_)).put (some 100) (v30_)).put (some 101) (v31_)).put (some 102) (v32_)).put (some 103) (.bool true)).put (some 104) (v34_)).put (some 105) (.bool false)) ∧ Ext u9 w' := ⟨_, rfl⟩
  have hpan : ∀ c a a' w w', Q2 (.panic c) a w → Q2 (.panic c) a' w' := by rw [hQ2]; rintro c a a' w w' ⟨h, _⟩; cases h
  replace hQ2 := hid hQ2
  refine wp_mono (Q := Q2) ?_ ?_
  ·subst hA_
   refine wp_region_held_drew (S := fun w' => Ext u9 w') (by kernel_rfl) (by repeat (with_reducible first | assumption | exact Ext.refl _ | refine Ext.drew ?_ | refine Ext.drewN ?_ _ | refine Ext.alloc ?_ _ | refine xS ?_ _ | refine xT ?_ (by assumption))) fun hHeld => ?_
   refine name_any (fun W0 hW => ?_)
   have s0 : Ext u9 W0 := by rw [hW]; exact hHeld
   clear hW hHeld
   refine tkA (i := 0) (v := ?_) rfl (fun c a w h => hpan c _ _ _ _ h) (Or.inl ⟨by rfl, ?yl⟩) (by assumption) ?_
   case yl => (intro w hSw; (try dsimp only at hSw); have k_0 := Ext.cell hSw q0; have k_1 := Ext.cell hSw q1; have k_2 := Ext.cell hSw q2; have k_3 := Ext.cell hSw q3; go_simp); with_reducible rfl
   try simp only [sxA, sxB, sxC, Act.put, sxD, sxE, sxF]
   refine tkA (i := 1) (v := ?_) rfl (fun c a w h => hpan c _ _ _ _ h) (Or.inl ⟨by rfl, ?yl⟩) (by assumption) ?_
   case yl => (intro w hSw; (try dsimp only at hSw); have k_0 := Ext.cell hSw q0; have k_1 := Ext.cell hSw q1; have k_2 := Ext.cell hSw q2; have k_3 := Ext.cell hSw q3; go_simp); with_reducible rfl
   try simp only [sxA, sxB, sxC, Act.put, sxD, sxE, sxF]
   refine tkA (i := 2) (v := ?_) rfl (fun c a w h => hpan c _ _ _ _ h) (Or.inl ⟨by rfl, ?yl⟩) (by assumption) ?_
   case yl => (intro w hSw; (try dsimp only at hSw); have k_0 := Ext.cell hSw q0; have k_1 := Ext.cell hSw q1; have k_2 := Ext.cell hSw q2; have k_3 := Ext.cell hSw q3; go_simp); with_reducible rfl
   try simp only [sxA, sxB, sxC, Act.put, sxD, sxE, sxF]
   refine tkA (i := 3) (v := ?_) rfl (fun c a w h => hpan c _ _ _ _ h) (Or.inl ⟨by rfl, ?yl⟩) (by assumption) ?_
   case yl => (intro w hSw; (try dsimp only at hSw); have k_0 := Ext.cell hSw q0; have k_1 := Ext.cell hSw q1; have k_2 := Ext.cell hSw q2; have k_3 := Ext.cell hSw q3; go_simp); with_reducible rfl
   try simp only [sxA, sxB, sxC, Act.put, sxD, sxE, sxF]
   refine tkA (i := 4) (v := ?_) rfl (fun c a w h => hpan c _ _ _ _ h) (Or.inl ⟨by rfl, ?yl⟩) (by assumption) ?_
   case yl => (intro w hSw; (try dsimp only at hSw); have k_0 := Ext.cell hSw q0; have k_1 := Ext.cell hSw q1; have k_2 := Ext.cell hSw q2; have k_3 := Ext.cell hSw q3; go_simp); with_reducible rfl
   try simp only [sxA, sxB, sxC, Act.put, sxD, sxE, sxF]
   refine tkA (i := 5) (v := ?_) rfl (fun c a w h => hpan c _ _ _ _ h) (Or.inl ⟨by rfl, ?yl⟩) (by assumption) ?_
   case yl => (intro w hSw; (try dsimp only at hSw); have k_0 := Ext.cell hSw q0; have k_1 := Ext.cell hSw q1; have k_2 := Ext.cell hSw q2; have k_3 := Ext.cell hSw q3; go_simp); with_reducible rfl
   try simp only [sxA, sxB, sxC, Act.put, sxD, sxE, sxF]
   refine tkA (i := 6) (v := ?_) rfl (fun c a w h => hpan c _ _ _ _ h) (Or.inl ⟨by rfl, ?yl⟩) (by assumption) ?_
   case yl => (intro w hSw; (try dsimp only at hSw); have k_0 := Ext.cell hSw q0; have k_1 := Ext.cell hSw q1; have k_2 := Ext.cell hSw q2; have k_3 := Ext.cell hSw q3; go_simp); with_reducible rfl
   try simp only [sxA, sxB, sxC, Act.put, sxD, sxE, sxF]
   refine tkA (i := 7) (v := ?_) rfl (fun c a w h => hpan c _ _ _ _ h) (Or.inl ⟨by rfl, ?yl⟩) (by assumption) ?_
   case yl => (intro w hSw; (try dsimp only at hSw); have k_0 := Ext.cell hSw q0; have k_1 := Ext.cell hSw q1; have k_2 := Ext.cell hSw q2; have k_3 := Ext.cell hSw q3; go_simp); with_reducible rfl
   try simp only [sxA, sxB, sxC, Act.put, sxD, sxE, sxF]
   refine tkA (i := 8) (v := ?_) rfl (fun c a w h => hpan c _ _ _ _ h) (Or.inl ⟨by rfl, ?yl⟩) (by assumption) ?_
   case yl => (intro w hSw; (try dsimp only at hSw); have k_0 := Ext.cell hSw q0; have k_1 := Ext.cell hSw q1; have k_2 := Ext.cell hSw q2; have k_3 := Ext.cell hSw q3; go_simp); with_reducible rfl
   try simp only [sxA, sxB, sxC, Act.put, sxD, sxE, sxF]
   refine tkA (i := 9) (v := ?_) rfl (fun c a w h => hpan c _ _ _ _ h) (Or.inl ⟨by rfl, ?yl⟩) (by assumption) ?_
   case yl => (intro w hSw; (try dsimp only at hSw); have k_0 := Ext.cell hSw q0; have k_1 := Ext.cell hSw q1; have k_2 := Ext.cell hSw q2; have k_3 := Ext.cell hSw q3; go_simp); with_reducible rfl
   try simp only [sxA, sxB, sxC, Act.put, sxD, sxE, sxF]
   refine tkA (i := 10) (v := ?_) rfl (fun c a w h => hpan c _ _ _ _ h) (Or.inl ⟨by rfl, ?yl⟩) (by assumption) ?_
   case yl => (intro w hSw; (try dsimp only at hSw); have k_0 := Ext.cell hSw q0; have k_1 := Ext.cell hSw q1; have k_2 := Ext.cell hSw q2; have k_3 := Ext.cell hSw q3; go_simp); with_reducible rfl
   try simp only [sxA, sxB, sxC, Act.put, sxD, sxE, sxF]
   refine tkA (i := 11) (v := ?_) rfl (fun c a w h => hpan c _ _ _ _ h) (Or.inl ⟨by rfl, ?yl⟩) (by assumption) ?_
   case yl => (intro w hSw; (try dsimp only at hSw); have k_0 := Ext.cell hSw q0; have k_1 := Ext.cell hSw q1; have k_2 := Ext.cell hSw q2; have k_3 := Ext.cell hSw q3; go_simp); with_reducible rfl
   try simp only [sxA, sxB, sxC, Act.put, sxD, sxE, sxF]
   refine tkA (i := 12) (v := ?_) rfl (fun c a w h => hpan c _ _ _ _ h) (Or.inl ⟨by rfl, ?yl⟩) (by assumption) ?_
   case yl => (intro w hSw; (try dsimp only at hSw); have k_0 := Ext.cell hSw q0; have k_1 := Ext.cell hSw q1; have k_2 := Ext.cell hSw q2; have k_3 := Ext.cell hSw q3; go_simp); with_reducible rfl
   try simp only [sxA, sxB, sxC, Act.put, sxD, sxE, sxF]
   refine wpAnyH_ready (rs := [13]) (by kernel_rfl) (by simp) ?_
   refine AllReadyH.cons (o := _) rfl (fun K hK => ?_) AllReadyH.nil
   go_simp
   refine (byL_any _ _ _).mono ?_; rintro e W1 ⟨rfl, e1⟩
   have s1 := s0.trans e1
   refine hK.out _ _ s1 (fun _ => ?_)
   clear hK K
   (try simp only [sxA, sxB, sxC, Act.put, sxD, sxE, sxF])
   refine tkA (i := 14) (v := ?_) rfl (fun c a w h => hpan c _ _ _ _ h) (Or.inl ⟨by rfl, ?yl⟩) (by assumption) ?_
   case yl => (intro w hSw; (try dsimp only at hSw); have k_0 := Ext.cell hSw q0; have k_1 := Ext.cell hSw q1; have k_2 := Ext.cell hSw q2; have k_3 := Ext.cell hSw q3; go_simp); with_reducible rfl
   try simp only [sxA, sxB, sxC, Act.put, sxD, sxE, sxF]
   refine tkA (i := 15) (v := ?_) rfl (fun c a w h => hpan c _ _ _ _ h) (Or.inl ⟨by rfl, ?yl⟩) (by assumption) ?_
   case yl => (intro w hSw; (try dsimp only at hSw); have k_0 := Ext.cell hSw q0; have k_1 := Ext.cell hSw q1; have k_2 := Ext.cell hSw q2; have k_3 := Ext.cell hSw q3; go_simp); with_reducible rfl
   try simp only [sxA, sxB, sxC, Act.put, sxD, sxE, sxF]
   refine tkA (i := 16) (v := ?_) rfl (fun c a w h => hpan c _ _ _ _ h) (Or.inl ⟨by rfl, ?yl⟩) (by assumption) ?_
   case yl => (intro w hSw; (try dsimp only at hSw); have k_0 := Ext.cell hSw q0; have k_1 := Ext.cell hSw q1; have k_2 := Ext.cell hSw q2; have k_3 := Ext.cell hSw q3; go_simp); with_reducible rfl
   try simp only [sxA, sxB, sxC, Act.put, sxD, sxE, sxF]
   refine tkA (i := 17) (v := ?_) rfl (fun c a w h => hpan c _ _ _ _ h) (Or.inl ⟨by rfl, ?yl⟩) (by assumption) ?_
   case yl => (intro w hSw; (try dsimp only at hSw); have k_0 := Ext.cell hSw q0; have k_1 := Ext.cell hSw q1; have k_2 := Ext.cell hSw q2; have k_3 := Ext.cell hSw q3; go_simp); with_reducible rfl
   try simp only [sxA, sxB, sxC, Act.put, sxD, sxE, sxF]
   refine tkA (i := 18) (v := ?_) rfl (fun c a w h => hpan c _ _ _ _ h) (Or.inl ⟨by rfl, ?yl⟩) (by assumption) ?_
   case yl => (intro w hSw; (try dsimp only at hSw); have k_0 := Ext.cell hSw q0; have k_1 := Ext.cell hSw q1; have k_2 := Ext.cell hSw q2; have k_3 := Ext.cell hSw q3; go_simp); with_reducible rfl
   try simp only [sxA, sxB, sxC, Act.put, sxD, sxE, sxF]
   refine tkA (i := 19) (v := ?_) rfl (fun c a w h => hpan c _ _ _ _ h) (Or.inl ⟨by rfl, ?yl⟩) (by assumption) ?_
   case yl => (intro w hSw; (try dsimp only at hSw); have k_0 := Ext.cell hSw q0; have k_1 := Ext.cell hSw q1; have k_2 := Ext.cell hSw q2; have k_3 := Ext.cell hSw q3; go_simp); with_reducible rfl
   try simp only [sxA, sxB, sxC, Act.put, sxD, sxE, sxF]
   refine tkA (i := 20) (v := ?_) rfl (fun c a w h => hpan c _ _ _ _ h) (Or.inl ⟨by rfl, ?yl⟩) (by assumption) ?_
   case yl => (intro w hSw; (try dsimp only at hSw); have k_0 := Ext.cell hSw q0; have k_1 := Ext.cell hSw q1; have k_2 := Ext.cell hSw q2; have k_3 := Ext.cell hSw q3; go_simp); with_reducible rfl
   try simp only [sxA, sxB, sxC, Act.put, sxD, sxE, sxF]
   refine tkA (i := 21) (v := ?_) rfl (fun c a w h => hpan c _ _ _ _ h) (Or.inl ⟨by rfl, ?yl⟩) (by assumption) ?_
   case yl => (intro w hSw; (try dsimp only at hSw); have k_0 := Ext.cell hSw q0; have k_1 := Ext.cell hSw q1; have k_2 := Ext.cell hSw q2; have k_3 := Ext.cell hSw q3; go_simp); with_reducible rfl
   try simp only [sxA, sxB, sxC, Act.put, sxD, sxE, sxF]
   refine tkA (i := 22) (v := ?_) rfl (fun c a w h => hpan c _ _ _ _ h) (Or.inl ⟨by rfl, ?yl⟩) (by assumption) ?_
   case yl => (intro w hSw; (try dsimp only at hSw); have k_0 := Ext.cell hSw q0; have k_1 := Ext.cell hSw q1; have k_2 := Ext.cell hSw q2; have k_3 := Ext.cell hSw q3; go_simp); with_reducible rfl
   try simp only [sxA, sxB, sxC, Act.put, sxD, sxE, sxF]
   refine tkA (i := 23) (v := ?_) rfl (fun c a w h => hpan c _ _ _ _ h) (Or.inl ⟨by rfl, ?yl⟩) (by assumption) ?_
   case yl => (intro w hSw; (try dsimp only at hSw); have k_0 := Ext.cell hSw q0; have k_1 := Ext.cell hSw q1; have k_2 := Ext.cell hSw q2; have k_3 := Ext.cell hSw q3; go_simp); with_reducible rfl
   try simp only [sxA, sxB, sxC, Act.put, sxD, sxE, sxF]
   refine tkA (i := 24) (v := ?_) rfl (fun c a w h => hpan c _ _ _ _ h) (Or.inl ⟨by rfl, ?yl⟩) (by assumption) ?_
   case yl => (intro w hSw; (try dsimp only at hSw); have k_0 := Ext.cell hSw q0; have k_1 := Ext.cell hSw q1; have k_2 := Ext.cell hSw q2; have k_3 := Ext.cell hSw q3; go_simp); with_reducible rfl
   try simp only [sxA, sxB, sxC, Act.put, sxD, sxE, sxF]
   refine tkA (i := 25) (v := ?_) rfl (fun c a w h => hpan c _ _ _ _ h) (Or.inl ⟨by rfl, ?yl⟩) (by assumption) ?_
   case yl => (intro w hSw; (try dsimp only at hSw); have k_0 := Ext.cell hSw q0; have k_1 := Ext.cell hSw q1; have k_2 := Ext.cell hSw q2; have k_3 := Ext.cell hSw q3; go_simp); with_reducible rfl
   try simp only [sxA, sxB, sxC, Act.put, sxD, sxE, sxF]
   refine tkA (i := 26) (v := ?_) rfl (fun c a w h => hpan c _ _ _ _ h) (Or.inl ⟨by rfl, ?yl⟩) (by assumption) ?_
   case yl => (intro w hSw; (try dsimp only at hSw); have k_0 := Ext.cell hSw q0; have k_1 := Ext.cell hSw q1; have k_2 := Ext.cell hSw q2; have k_3 := Ext.cell hSw q3; go_simp); with_reducible rfl
   try simp only [sxA, sxB, sxC, Act.put, sxD, sxE, sxF]
   refine wpAnyH_ready (rs := [27]) (by kernel_rfl) (by simp) ?_
   refine AllReadyH.cons (o := _) rfl (fun K hK => ?_) AllReadyH.nil
   go_simp
   refine (I1.out _ _ _ _ _ (la.out.ints.ext s1) (ld.out.ext s1)).mono ?_; rintro e W2 ⟨rfl, e2⟩
   have s2 := s1.trans e2
   refine hK.out _ _ s2 (fun _ => ?_)
   clear hK K
   (try simp only [sxA, sxB, sxC, Act.put, sxD, sxE, sxF])
   refine tkA (i := 28) (v := ?_) rfl (fun c a w h => hpan c _ _ _ _ h) (Or.inl ⟨by rfl, ?yl⟩) (by assumption) ?_
   case yl => (intro w hSw; (try dsimp only at hSw); have k_0 := Ext.cell hSw q0; have k_1 := Ext.cell hSw q1; have k_2 := Ext.cell hSw q2; have k_3 := Ext.cell hSw q3; go_simp); with_reducible rfl
   try simp only [sxA, sxB, sxC, Act.put, sxD, sxE, sxF]
   refine tkA (i := 29) (v := ?_) rfl (fun c a w h => hpan c _ _ _ _ h) (Or.inl ⟨by rfl, ?yl⟩) (by assumption) ?_
   case yl => (intro w hSw; (try dsimp only at hSw); have k_0 := Ext.cell hSw q0; have k_1 := Ext.cell hSw q1; have k_2 := Ext.cell hSw q2; have k_3 := Ext.cell hSw q3; go_simp); with_reducible rfl
   try simp only [sxA, sxB, sxC, Act.put, sxD, sxE, sxF]
   refine tkA (i := 30) (v := ?_) rfl (fun c a w h => hpan c _ _ _ _ h) (Or.inl ⟨by rfl, ?yl⟩) (by assumption) ?_
   case yl => (intro w hSw; (try dsimp only at hSw); have k_0 := Ext.cell hSw q0; have k_1 := Ext.cell hSw q1; have k_2 := Ext.cell hSw q2; have k_3 := Ext.cell hSw q3; go_simp); with_reducible rfl
   try simp only [sxA, sxB, sxC, Act.put, sxD, sxE, sxF]
   refine tkA (i := 31) (v := ?_) rfl (fun c a w h => hpan c _ _ _ _ h) (Or.inl ⟨by rfl, ?yl⟩) (by assumption) ?_
   case yl => (intro w hSw; (try dsimp only at hSw); have k_0 := Ext.cell hSw q0; have k_1 := Ext.cell hSw q1; have k_2 := Ext.cell hSw q2; have k_3 := Ext.cell hSw q3; go_simp); with_reducible rfl
   try simp only [sxA, sxB, sxC, Act.put, sxD, sxE, sxF]
   refine tkA (i := 32) (v := ?_) rfl (fun c a w h => hpan c _ _ _ _ h) (Or.inl ⟨by rfl, ?yl⟩) (by assumption) ?_
   case yl => (intro w hSw; (try dsimp only at hSw); have k_0 := Ext.cell hSw q0; have k_1 := Ext.cell hSw q1; have k_2 := Ext.cell hSw q2; have k_3 := Ext.cell hSw q3; go_simp); with_reducible rfl
   try simp only [sxA, sxB, sxC, Act.put, sxD, sxE, sxF]
   refine wpAnyH_ready (rs := [33]) (by kernel_rfl) (by simp) ?_
   refine AllReadyH.cons (o := _) rfl (fun K hK => ?_) AllReadyH.nil
   go_simp
   refine (I2.out _ _ _ _ _ (lb.out.ints.ext s2) (lc.out.ext s2)).mono ?_; rintro e W3 ⟨rfl, e3⟩
   have s3 := s2.trans e3
   refine hK.out _ _ s3 (fun _ => ?_)
   clear hK K
   (try simp only [sxA, sxB, sxC, Act.put, sxD, sxE, sxF])
   refine tkA (i := 34) (v := ?_) rfl (fun c a w h => hpan c _ _ _ _ h) (Or.inl ⟨by rfl, ?yl⟩) (by assumption) ?_
   case yl => (intro w hSw; (try dsimp only at hSw); have k_0 := Ext.cell hSw q0; have k_1 := Ext.cell hSw q1; have k_2 := Ext.cell hSw q2; have k_3 := Ext.cell hSw q3; go_simp); with_reducible rfl
   try simp only [sxA, sxB, sxC, Act.put, sxD, sxE, sxF]
   refine tkA (i := 35) (v := ?_) rfl (fun c a w h => hpan c _ _ _ _ h) (Or.inl ⟨by rfl, ?yl⟩) (by assumption) ?_
   case yl => (intro w hSw; (try dsimp only at hSw); have k_0 := Ext.cell hSw q0; have k_1 := Ext.cell hSw q1; have k_2 := Ext.cell hSw q2; have k_3 := Ext.cell hSw q3; go_simp); with_reducible rfl
   try simp only [sxA, sxB, sxC, Act.put, sxD, sxE, sxF]
   refine wpAnyH_done (by kernel_rfl) ?_ _
   try simp only [sxA, sxB, sxC, Act.put, sxD, sxE, sxF]
   rw [hQ2.out]
   refine ⟨rfl, ?u2_0_1, ?u2_1_1, ?u2_2_1, ?u2_3_1, ?u2_4_1, ?u2_5_1, ?u2_6_1, ?u2_7_1, ?u2_8_1, ?u2_9_1, ?u2_10_1, ?u2_11_1, ?u2_12_1, ?u2_13_1, ?u2_14_1, ?u2_15_1, ?u2_16_1, ?u2_17_1, ?u2_18_1, ?u2_19_1, ?u2_20_1, ?u2_21_1, ?u2_22_1, ?u2_23_1, ?u2_24_1, ?u2_25_1, ?u2_26_1, ?u2_27_1, ?u2_28_1, ?u2_29_1, ?u2_30_1, ?u2_31_1, ?eq2_1, s3⟩
   case eq2_1 => ((try simp only [sxA, sxB, sxC, Act.put, sxD, sxE, sxF]); first | done | with_reducible rfl | rfl)
  rw [hQ2.out]
  rintro e a' d10 ⟨rfl, v0_, v1_, v2_, v3_, v4_, v5_, v6_, v7_, v8_, v9_, v10_, v11_, v12_, v14_, v15_, v16_, v17_, v18_, v19_, v20_, v21_, v22_, v23_, v24_, v25_, v26_, v28_, v29_, v30_, v31_, v32_, v34_, rfl, x⟩
  clear hQ2 hpan; clear Q2
  subst hA_
  simp only [sxA, sxB, sxC, Act.put, sxD, sxE, sxF]
  clear q0 q1 q2 q3
  replace mt0 := hid (x.cell mt0.out)
  replace f0 := hid (x.cell f0.out)
  replace lr := hid (lr.out.ext x)
  replace lk := hid (lk.out.ext x)
  replace bv0 := hid (x.cell bv0.out)
  replace bv1 := hid (x.cell bv1.out)
  replace tx := hid (tx.out.ext x)
  replace bt0 := hid (x.cell bt0.out)
  replace bx := hid (bx.out.ext x)
  replace bw0 := hid (x.cell bw0.out)
  replace bw1 := hid (x.cell bw1.out)
  replace la := hid (la.out.ext x)
  replace lb := hid (lb.out.ext x)
  replace lc := hid (lc.out.ext x)
  replace ld := hid (ld.out.ext x)
  replace X := hid (X.out.trans x)
  clear x
  clear lc ld
  have r_bt0 := bt0.out
  have l_bt0 := cell_lt r_bt0
  dsimp only at l_bt0
  go_wp2_with fail
  refine (hC.out _ _ _ _ _ _ _ (tx.out.ext (show Ext d10 _ from (by repeat (with_reducible first | assumption | exact Ext.refl _ | refine Ext.drew ?_ | refine Ext.drewN ?_ _ | refine Ext.alloc ?_ _ | refine xS ?_ _ | refine xT ?_ (by assumption))))) (lk.out.ext (show Ext d10 _ from (by repeat (with_reducible first | assumption | exact Ext.refl _ | refine Ext.drew ?_ | refine Ext.drewN ?_ _ | refine Ext.alloc ?_ _ | refine xS ?_ _ | refine xT ?_ (by assumption))))) (lr.out.ext (show Ext d10 _ from (by repeat (with_reducible first | assumption | exact Ext.refl _ | refine Ext.drew ?_ | refine Ext.drewN ?_ _ | refine Ext.alloc ?_ _ | refine xS ?_ _ | refine xT ?_ (by assumption)))))).mono ?_; rintro e u11 ⟨rfl, hE⟩
  have x : Ext d10 u11 := (by repeat (with_reducible first | assumption | exact Ext.refl _ | refine Ext.drew ?_ | refine Ext.drewN ?_ _ | refine Ext.alloc ?_ _ | refine xS ?_ _ | refine xT ?_ (by assumption)))
  clear r_bt0 l_bt0
  replace mt0 := hid (x.cell mt0.out)
  replace f0 := hid (x.cell f0.out)
  replace lr := hid (lr.out.ext x)
  replace lk := hid (lk.out.ext x)
  replace bv0 := hid (x.cell bv0.out)
  replace bv1 := hid (x.cell bv1.out)
  replace tx := hid (tx.out.ext x)
  replace bt0 := hid (x.cell bt0.out)
  replace bx := hid (bx.out.ext x)
  replace bw0 := hid (x.cell bw0.out)
  replace bw1 := hid (x.cell bw1.out)
  replace la := hid (la.out.ext x)
  replace lb := hid (lb.out.ext x)
  replace X := hid (X.out.trans x)
  clear x hE
  clear lk lr
  have r_bw0 := bw0.out
  have l_bw0 := cell_lt r_bw0
  dsimp only at l_bw0
  have r_bw1 := bw1.out
  have l_bw1 := cell_lt r_bw1
  dsimp only at l_bw1
  go_wp2_with (at_make; refine make_nils rfl _ _ 22 rfl 25 Try.underlying22 elemRow m rfl rfl (by omega) ?_)
  intro w8 hnil hE8 hl8
  have x : Ext u11 w8 := (by repeat (with_reducible first | assumption | exact Ext.refl _ | refine Ext.drew ?_ | refine Ext.drewN ?_ _ | refine Ext.alloc ?_ _ | refine xS ?_ _ | refine xT ?_ (by assumption)))
  clear r_bw0 l_bw0 r_bw1 l_bw1
  obtain ⟨G, hG⟩ : ∃ G, u11.heap.size + 1 = G := ⟨_, rfl⟩
  rw [hG] at hnil hl8 ⊢
  have hGB := hid (show u11.heap.size ≤ G by omega)
  have xB := hid x
  have hBwB := hid (show Bbw < u11.heap.size from cell_lt bw0.out)
  have hy0 := hid (hyn.out w8 G G hnil (Nat.le_refl _))
  replace hG := hid hG
  clear hnil x hE8
  go_wp2_with fail
  refine name_wp (fun v9 hw9 => ?_)
  have y9 : Ext w8 v9 := by rw [hw9]; exact (by repeat (with_reducible first | assumption | exact Ext.refl _ | refine Ext.drew ?_ | refine Ext.drewN ?_ _ | refine Ext.alloc ?_ _ | refine xS ?_ _ | refine xT ?_ (by assumption)))
  have bz0 := hid (show v9.cell? ⟨w8.heap.size, 0, none⟩ = some (.slice (some ⟨G, 0, none⟩) m m) by rw [hw9]; simp [go_sem])
  replace hy0 := hid (hy0.out.ext y9)
  replace xB := hid (xB.out.trans y9)
  clear hw9 y9
  generalize w8.heap.size = Bz at *
  replace hl8 := hid hl8
  go_loopw [27] (fun i wr => ∃ (k : Nat) (Bf : Nat → Nat), k ≤ m ∧ i = .int .i64 k ∧ Hid (YN wr G G Bf t c d k) ∧ Hid (wr.cell? ⟨Bz, 0, none⟩ = some (.slice (some ⟨G, 0, none⟩) m m)) ∧ Hid (Ext u11 wr)) (fun i _ => (m - intOf i).toNat)
  case atStart => exact ⟨0, fun _ => 0, by omega, rfl, hy0, bz0, xB⟩
  case round =>
   obtain ⟨k, Bf, hk, rfl, hyk, hbz, hx⟩ := hrel
   by_cases hkl : k < m
   ·obtain ⟨w5, rfl⟩ : ∃ w4 : World, w4 = wr := ⟨_, rfl⟩
    have hpm : (k + c) % m < m := Nat.mod_lt _ (by omega)
    have e1 := mod_sum k c m
    have hst := hid (fun W h nb hn hb he => hys.out W G G Bf k h hkl nb hn hb he)
    have hpe2 := hid (fun j hj => hpe.out k j hkl hj)
    obtain ⟨p0, hp⟩ : ∃ x, (k + c) % m = x := ⟨_, rfl⟩
    rw [hp] at hpm e1 hst hpe2
    replace hp := hid hp
    have z1 := Go.IntWalk.i64_in ((k : Int) + (c : Int)) (by omega)
    have z2 := Go.IntWalk.i64_in (p0 : Int) (by omega)
    have z3 := Go.IntWalk.i64_in ((k : Int) + 1) (by omega)
    have hkI : (k : Int) < (m : Int) := by omega
    have hpI : (p0 : Int) < (m : Int) := by omega
    have hG5 : G < w5.heap.size := cell_lt ((hyc.out _ _ _ _ _ hyk.out).1 0 hm00)
    go_wp2_with (at_make; refine make_ints rfl _ _ 25 rfl 2 Try.underlying25 elemI64 n rfl rfl (by omega) ?_)
    intro w6 ho hE6
    have x6 := hid (show Ext w5 w6 from (by repeat (with_reducible first | assumption | exact Ext.refl _ | refine Ext.drew ?_ | refine Ext.drewN ?_ _ | refine Ext.alloc ?_ _ | refine xS ?_ _ | refine xT ?_ (by assumption))))
    have ho2 := hid (show OwnI w6 w5.heap.size 2 (.slice (some ⟨w5.heap.size, 0, none⟩) n n) (mkL n (PR k 0)) from by rw [← hp0.out k]; exact ho)
    have hsz6 := hid (rfl : w5.heap.size = w5.heap.size)
    clear ho hE6
    obtain ⟨nb, hnb⟩ : ∃ B, w5.heap.size = B := ⟨_, rfl⟩
    rw [hnb] at ho2 hG5 ⊢
    have hnb5 : w5.heap.size ≤ nb := by omega
    replace hnb := hid hnb
    clear hsz6
    go_wp2_with fail
    go_loopw [29] (fun i wr => ∃ j : Nat, j ≤ n ∧ i = .int .i64 j ∧ Hid (OwnI wr nb 2 (.slice (some ⟨nb, 0, none⟩) n n) (mkL n (PR k j))) ∧ Hid (Ext w5 wr)) (fun i _ => (n - intOf i).toNat)
    case atStart => exact ⟨0, by omega, rfl, ho2, x6⟩
    case round =>
     obtain ⟨j, hj, rfl, hoj, hxj⟩ := hrel
     by_cases hjl : j < n
     ·obtain ⟨w7, rfl⟩ : ∃ w4 : World, w4 = wr := ⟨_, rfl⟩
      have xw := hid (hx.out.trans hxj.out)
      have tc := xw.out.cell mt0.out
      have r0 := (X.out.trans xw.out).cell (hrl.out k hkl)
      have r1 := (X.out.trans xw.out).cell (hel.out k hkl j hjl)
      have hjm : (j + d) % n < n := Nat.mod_lt _ (by omega)
      have e2 := mod_sum j d n
      have hsp := hid (hps.out k j hjl)
      obtain ⟨pj, hpj⟩ : ∃ x, (j + d) % n = x := ⟨_, rfl⟩
      rw [hpj] at hjm e2 hsp
      replace hpj := hid hpj
      have z4 := Go.IntWalk.i64_in ((j : Int) + (d : Int)) (by omega)
      have z5 := Go.IntWalk.i64_in (pj : Int) (by omega)
      have z6 := Go.IntWalk.i64_in ((j : Int) + 1) (by omega)
      obtain ⟨q2_, q3_, -, q4_⟩ := hoj.out.facts (j := pj) (by rw [mkL_len]; exact hjm)
      obtain ⟨x, hx0⟩ : ∃ x, E k j = x := ⟨_, rfl⟩
      rw [hx0] at r1 hsp
      replace hx0 := hid hx0
      have hown := hid (show OwnI (w7.drew.setCell ⟨nb, pj, none⟩ (.int .i64 x)) nb 2 (.slice (some ⟨nb, 0, none⟩) n n) (mkL n (PR k (j + 1))) from by
       have h1 := hoj.out.ext (show Ext w7 w7.drew from (by repeat (with_reducible first | assumption | exact Ext.refl _ | refine Ext.drew ?_ | refine Ext.drewN ?_ _ | refine Ext.alloc ?_ _ | refine xS ?_ _ | refine xT ?_ (by assumption))))
       have h2 := OwnI.set (b := nb) (cap := n) (l := mkL n (PR k j)) (w := w7.drew) (e := 2) (base := nb) (by rw [mkL_len]; exact h1) (i := pj) x
       rw [hsp.out, mkL_len] at h2
       exact h2)
      have hjI : (j : Int) < (n : Int) := by omega
      have hpjI : (pj : Int) < (n : Int) := by omega
      have x57 := hxj.out
      go_wp2_with fail
      go_still_tail 18, (by kernel_rfl)
      change wpList _ _ _ _ _ w7.drew
      go_wp2_with fail
      go_roundw
      case rel => exact ⟨j + 1, by omega, by go_num, hown, hid (by repeat (with_reducible first | assumption | exact Ext.refl _ | refine Ext.drew ?_ | refine Ext.drewN ?_ _ | refine Ext.alloc ?_ _ | refine xS ?_ _ | refine xT ?_ (by assumption)))⟩
      case measure => simp [intOf]; omega
     ·have hjn : j = n := by omega
      have hnn : ¬ (n : Int) < (n : Int) := by omega
      rw [hjn] at hoj
      rw [hjn]
      obtain ⟨w7, rfl⟩ : ∃ w4 : World, w4 = wr := ⟨_, rfl⟩
      have hy7 := hid (hyk.out.ext hxj.out)
      have x57 := hxj.out
      have tz := hxj.out.cell hbz.out
      have cG := (hyc.out _ _ _ _ _ hy7.out).1 p0 hpm
      have fG := (hyc.out _ _ _ _ _ hy7.out).2 p0 hpm
      have hfin := hid (hst.out w7.drew (hy7.out.ext (show Ext w7 w7.drew from (by repeat (with_reducible first | assumption | exact Ext.refl _ | refine Ext.drew ?_ | refine Ext.drewN ?_ _ | refine Ext.alloc ?_ _ | refine xS ?_ _ | refine xT ?_ (by assumption))))) nb (by omega) (by omega) (fun j hj => by
       have h1 := (hoj.out.facts (j := j) (by rw [mkL_len]; exact hj)).1
       rw [hpe2.out j hj] at h1
       exact (show Ext w7 w7.drew from (by repeat (with_reducible first | assumption | exact Ext.refl _ | refine Ext.drew ?_ | refine Ext.drewN ?_ _ | refine Ext.alloc ?_ _ | refine xS ?_ _ | refine xT ?_ (by assumption)))).cell h1))
      have hne : Bz ≠ G := by have := hl8.out; omega
      have xw : Ext u11 w7 := hx.out.trans hxj.out
      have hGB2 := hGB.out
      obtain ⟨cv, hcv⟩ : ∃ x, (if (p0 + (m - c)) % m < k then Value.slice (some ⟨Bf p0, 0, none⟩) n n else Value.slice none 0 0) = x := ⟨_, rfl⟩
      rw [hcv] at cG
      replace hcv := hid hcv
      clear hjn hjl hj
      go_wp2_with fail
      go_still_tail 12, (by kernel_rfl)
      change wpList _ _ _ _ _ w7.drew
      go_wp2_with fail
      go_roundw
      case rel => exact ⟨k + 1, _, by omega, by go_num, hfin, hid (by change (w7.setCell ⟨G, p0, none⟩ (.slice (some ⟨nb, 0, none⟩) n n)).cell? ⟨Bz, 0, none⟩ = _; rw [World.cell?_setCell_far _ _ _ _ (Ne.symm hne)]; exact tz), hid (by repeat (with_reducible first | assumption | exact Ext.refl _ | refine Ext.drew ?_ | refine Ext.drewN ?_ _ | refine Ext.alloc ?_ _ | refine xS ?_ _ | refine xT ?_ (by assumption)))⟩
      case measure => simp [intOf]; omega
   ·have hkm : k = m := by omega
    have hnm : ¬ (m : Int) < (m : Int) := by omega
    rw [hkm] at hyk
    rw [hkm]
    obtain ⟨wq, rfl⟩ : ∃ w4 : World, w4 = wr := ⟨_, rfl⟩
    have x := hx.out
    clear hkm hkl hk hx hy0 bz0 xB
    replace mt0 := hid (x.cell mt0.out)
    replace f0 := hid (x.cell f0.out)
    replace bv0 := hid (x.cell bv0.out)
    replace bv1 := hid (x.cell bv1.out)
    replace tx := hid (tx.out.ext x)
    replace bt0 := hid (x.cell bt0.out)
    replace bx := hid (bx.out.ext x)
    replace bw0 := hid (x.cell bw0.out)
    replace bw1 := hid (x.cell bw1.out)
    replace la := hid (la.out.ext x)
    replace lb := hid (lb.out.ext x)
    replace X := hid (X.out.trans x)
    clear x
    have r_hbz := hbz.out
    have l_hbz := cell_lt r_hbz
    dsimp only at l_hbz
    go_wp2_with fail
    refine (hY.out _ _ _ (hyt.out _ _ _ _ (hyk.out.ext (show Ext wq _ from (by repeat (with_reducible first | assumption | exact Ext.refl _ | refine Ext.drew ?_ | refine Ext.drewN ?_ _ | refine Ext.alloc ?_ _ | refine xS ?_ _ | refine xT ?_ (by assumption))))))).mono ?_; rintro e u12 ⟨a6, c6, a7, c7, rfl, lv_, lw_, hE⟩
    have x : Ext wq u12 := (by repeat (with_reducible first | assumption | exact Ext.refl _ | refine Ext.drew ?_ | refine Ext.drewN ?_ _ | refine Ext.alloc ?_ _ | refine xS ?_ _ | refine xT ?_ (by assumption)))
    clear r_hbz l_hbz
    replace mt0 := hid (x.cell mt0.out)
    replace f0 := hid (x.cell f0.out)
    replace bv0 := hid (x.cell bv0.out)
    replace bv1 := hid (x.cell bv1.out)
    replace tx := hid (tx.out.ext x)
    replace bt0 := hid (x.cell bt0.out)
    replace bx := hid (bx.out.ext x)
    replace bw0 := hid (x.cell bw0.out)
    replace bw1 := hid (x.cell bw1.out)
    replace la := hid (la.out.ext x)
    replace lb := hid (lb.out.ext x)
    replace hyk := hid (hyk.out.ext x)
    replace hbz := hid (x.cell hbz.out)
    replace X := hid (X.out.trans x)
    have lv := hid lv_
    clear lv_
    have lw := hid lw_
    clear lw_
    clear x hE
    clear lv lw
    have k1_ := bx.out.c0
    have k2_ := bx.out.c1
    have k3_ := bx.out.f0
    have k4_ := bx.out.f1
    have k5_ := hbz.out
    have hBG : Bbw < G := by have := hGB.out; have h1 := hBwB.out; omega
    have hBz2 : Bbw ≠ Bz := by have := hl8.out; omega
    have hBv2 : Bbw ≠ Bbv := Nat.ne_of_gt hBvw.out
    have hBz : Bz ≠ Bbw := by have := hl8.out; omega
    have hBv : Bbv ≠ Bbw := Nat.ne_of_lt hBvw.out
    obtain ⟨ga, ea⟩ := la.out.addr (by rw [lL1.out]; omega)
    obtain ⟨gb, eb⟩ := lb.out.addr (by rw [lL2.out]; omega)
    subst ea eb
    have hga : v7.heap.size ≤ ga := (OwnI.block la.out _ rfl).1
    have hgb : v7.heap.size ≤ gb := (OwnI.block lb.out _ rfl).1
    have hwB2 := hwB.out
    have hga2 : ga ≠ Bbw := by have := hBwb.out; omega
    have hgb2 : gb ≠ Bbw := by have := hBwb.out; omega
    go_wp2_with fail
    refine name_c (fun d9 hw => ?_)
    have y : Ext w d9 := by rw [hw]; have := X.out; exact (by repeat (with_reducible first | assumption | exact Ext.refl _ | refine Ext.drew ?_ | refine Ext.drewN ?_ _ | refine Ext.alloc ?_ _ | refine xS ?_ _ | refine xT ?_ (by assumption)))
    have bw0 := hid (show d9.cell? ⟨Bbw, 0, none⟩ = some (.int .i64 vn) by rw [hw]; exact (Bx2.store bx.out vn vd).c0)
    have bw1 := hid (show d9.cell? ⟨Bbw, 1, none⟩ = some (.int .i64 vd) by rw [hw]; exact (Bx2.store bx.out vn vd).c1)
    have bv0' := hid (show d9.cell? ⟨Bbv, 0, none⟩ = some (.int .i64 vn) by rw [hw]; exact far2 bv0.out hBv)
    have bv1' := hid (show d9.cell? ⟨Bbv, 1, none⟩ = some (.int .i64 vd) by rw [hw]; exact far2 bv1.out hBv)
    have hyk' := hid (show YN d9 G G Bf t c d m by rw [hw]; exact (hyk.out.far hBG _ _).far hBG _ _)
    have la' := hid (show Ints d9 (some ⟨ga, 0, none⟩) L1 by rw [hw]; exact Ints.put (Ints.put la.out.ints (p := ⟨Bbw, 0, none⟩) (Ne.symm hga2) _) (p := ⟨Bbw, 1, none⟩) (Ne.symm hga2) _)
    have lb' := hid (show Ints d9 (some ⟨gb, 0, none⟩) L2 by rw [hw]; exact Ints.put (Ints.put lb.out.ints (p := ⟨Bbw, 0, none⟩) (Ne.symm hgb2) _) (p := ⟨Bbw, 1, none⟩) (Ne.symm hgb2) _)
    clear hw hwB2 k1_ k2_ k3_ k4_ k5_ hBG hBz hBv hBz2 hBv2 hga hgb hga2 hgb2
    clear mt0 f0 bv0 bv1 tx bt0 bx la lb hyk hbz
    replace X := hid y
    clear y
    refine (hZ.out _ _ _ (hyt.out _ _ _ _ (hyk'.out.ext (show Ext d9 _ from (by repeat (with_reducible first | assumption | exact Ext.refl _ | refine Ext.drew ?_ | refine Ext.drewN ?_ _ | refine Ext.alloc ?_ _ | refine xS ?_ _ | refine xT ?_ (by assumption))))))).mono ?_; rintro e u13 ⟨a3, c3, a4, c4, rfl, lc_, ld_, hE⟩
    have x : Ext d9 u13 := (by repeat (with_reducible first | assumption | exact Ext.refl _ | refine Ext.drew ?_ | refine Ext.drewN ?_ _ | refine Ext.alloc ?_ _ | refine xS ?_ _ | refine xT ?_ (by assumption)))
    replace bw0 := hid (x.cell bw0.out)
    replace bw1 := hid (x.cell bw1.out)
    replace bv0' := hid (x.cell bv0'.out)
    replace bv1' := hid (x.cell bv1'.out)
    replace hyk' := hid (hyk'.out.ext x)
    replace la' := hid (la'.out.ext x)
    replace lb' := hid (lb'.out.ext x)
    replace X := hid (X.out.trans x)
    have lc := hid lc_
    clear lc_
    have ld := hid ld_
    clear ld_
    clear x hE
    have r_bw0 := bw0.out
    have l_bw0 := cell_lt r_bw0
    dsimp only at l_bw0
    have r_bw1 := bw1.out
    have l_bw1 := cell_lt r_bw1
    dsimp only at l_bw1
    have r_bv0' := bv0'.out
    have l_bv0' := cell_lt r_bv0'
    dsimp only at l_bv0'
    have r_bv1' := bv1'.out
    have l_bv1' := cell_lt r_bv1'
    dsimp only at l_bv1'
    go_wp2_with fail
    refine (M1.out _ _ _ (la'.out.ext (show Ext u13 _ from (by repeat (with_reducible first | assumption | exact Ext.refl _ | refine Ext.drew ?_ | refine Ext.drewN ?_ _ | refine Ext.alloc ?_ _ | refine xS ?_ _ | refine xT ?_ (by assumption)))))).mono ?_; rintro e u14 ⟨a5, c5, rfl, le_, hE⟩
    have x : Ext u13 u14 := (by repeat (with_reducible first | assumption | exact Ext.refl _ | refine Ext.drew ?_ | refine Ext.drewN ?_ _ | refine Ext.alloc ?_ _ | refine xS ?_ _ | refine xT ?_ (by assumption)))
    clear r_bw0 l_bw0 r_bw1 l_bw1 r_bv0' l_bv0' r_bv1' l_bv1'
    replace bw0 := hid (x.cell bw0.out)
    replace bw1 := hid (x.cell bw1.out)
    replace bv0' := hid (x.cell bv0'.out)
    replace bv1' := hid (x.cell bv1'.out)
    replace hyk' := hid (hyk'.out.ext x)
    replace la' := hid (la'.out.ext x)
    replace lb' := hid (lb'.out.ext x)
    replace lc := hid (lc.out.ext x)
    replace ld := hid (ld.out.ext x)
    replace X := hid (X.out.trans x)
    have le := hid le_
    clear le_
    clear x hE
    go_wp2_with fail
    refine (I5.out _ _ _ _ _ (lc.out.ext (show Ext u14 _ from (by repeat (with_reducible first | assumption | exact Ext.refl _ | refine Ext.drew ?_ | refine Ext.drewN ?_ _ | refine Ext.alloc ?_ _ | refine xS ?_ _ | refine xT ?_ (by assumption))))) (le.out.ext (show Ext u14 _ from (by repeat (with_reducible first | assumption | exact Ext.refl _ | refine Ext.drew ?_ | refine Ext.drewN ?_ _ | refine Ext.alloc ?_ _ | refine xS ?_ _ | refine xT ?_ (by assumption)))))).mono ?_; rintro e u15 ⟨rfl, hE⟩
    have x : Ext u14 u15 := (by repeat (with_reducible first | assumption | exact Ext.refl _ | refine Ext.drew ?_ | refine Ext.drewN ?_ _ | refine Ext.alloc ?_ _ | refine xS ?_ _ | refine xT ?_ (by assumption)))
    replace bw0 := hid (x.cell bw0.out)
    replace bw1 := hid (x.cell bw1.out)
    replace bv0' := hid (x.cell bv0'.out)
    replace bv1' := hid (x.cell bv1'.out)
    replace hyk' := hid (hyk'.out.ext x)
    replace la' := hid (la'.out.ext x)
    replace lb' := hid (lb'.out.ext x)
    replace lc := hid (lc.out.ext x)
    replace ld := hid (ld.out.ext x)
    replace le := hid (le.out.ext x)
    replace X := hid (X.out.trans x)
    clear x hE
    go_wp2_with fail
    refine (M2.out _ _ _ (lb'.out.ext (show Ext u15 _ from (by repeat (with_reducible first | assumption | exact Ext.refl _ | refine Ext.drew ?_ | refine Ext.drewN ?_ _ | refine Ext.alloc ?_ _ | refine xS ?_ _ | refine xT ?_ (by assumption)))))).mono ?_; rintro e u16 ⟨a6, c6, rfl, lf_, hE⟩
    have x : Ext u15 u16 := (by repeat (with_reducible first | assumption | exact Ext.refl _ | refine Ext.drew ?_ | refine Ext.drewN ?_ _ | refine Ext.alloc ?_ _ | refine xS ?_ _ | refine xT ?_ (by assumption)))
    replace bw0 := hid (x.cell bw0.out)
    replace bw1 := hid (x.cell bw1.out)
    replace bv0' := hid (x.cell bv0'.out)
    replace bv1' := hid (x.cell bv1'.out)
    replace hyk' := hid (hyk'.out.ext x)
    replace la' := hid (la'.out.ext x)
    replace lb' := hid (lb'.out.ext x)
    replace lc := hid (lc.out.ext x)
    replace ld := hid (ld.out.ext x)
    replace le := hid (le.out.ext x)
    replace X := hid (X.out.trans x)
    have lf := hid lf_
    clear lf_
    clear x hE
    go_wp2_with fail
    refine (I6.out _ _ _ _ _ (ld.out.ext (show Ext u16 _ from (by repeat (with_reducible first | assumption | exact Ext.refl _ | refine Ext.drew ?_ | refine Ext.drewN ?_ _ | refine Ext.alloc ?_ _ | refine xS ?_ _ | refine xT ?_ (by assumption))))) (lf.out.ext (show Ext u16 _ from (by repeat (with_reducible first | assumption | exact Ext.refl _ | refine Ext.drew ?_ | refine Ext.drewN ?_ _ | refine Ext.alloc ?_ _ | refine xS ?_ _ | refine xT ?_ (by assumption)))))).mono ?_; rintro e u17 ⟨rfl, hE⟩
    have x : Ext u16 u17 := (by repeat (with_reducible first | assumption | exact Ext.refl _ | refine Ext.drew ?_ | refine Ext.drewN ?_ _ | refine Ext.alloc ?_ _ | refine xS ?_ _ | refine xT ?_ (by assumption)))
    replace bw0 := hid (x.cell bw0.out)
    replace bw1 := hid (x.cell bw1.out)
    replace bv0' := hid (x.cell bv0'.out)
    replace bv1' := hid (x.cell bv1'.out)
    replace hyk' := hid (hyk'.out.ext x)
    replace la' := hid (la'.out.ext x)
    replace lb' := hid (lb'.out.ext x)
    replace lc := hid (lc.out.ext x)
    replace ld := hid (ld.out.ext x)
    replace le := hid (le.out.ext x)
    replace lf := hid (lf.out.ext x)
    replace X := hid (X.out.trans x)
    clear x hE
    go_wp2_with fail
    refine (works_any _).mono ?_; rintro e u18 ⟨rfl, hE⟩
    have x : Ext u17 u18 := (by repeat (with_reducible first | assumption | exact Ext.refl _ | refine Ext.drew ?_ | refine Ext.drewN ?_ _ | refine Ext.alloc ?_ _ | refine xS ?_ _ | refine xT ?_ (by assumption)))
    replace bw0 := hid (x.cell bw0.out)
    replace bw1 := hid (x.cell bw1.out)
    replace bv0' := hid (x.cell bv0'.out)
    replace bv1' := hid (x.cell bv1'.out)
    replace hyk' := hid (hyk'.out.ext x)
    replace la' := hid (la'.out.ext x)
    replace lb' := hid (lb'.out.ext x)
    replace lc := hid (lc.out.ext x)
    replace ld := hid (ld.out.ext x)
    replace le := hid (le.out.ext x)
    replace lf := hid (lf.out.ext x)
    replace X := hid (X.out.trans x)
    clear x hE
    go_wp2_with fail
    go_ret
    exact ⟨rfl, X.out⟩

end Go.Proofs.Ytommhgcgaclflaa
