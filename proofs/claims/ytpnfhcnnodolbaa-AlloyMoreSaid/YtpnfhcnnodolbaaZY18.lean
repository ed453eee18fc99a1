/- Texts of one proof, laid together: Ag, Ah, Pot, Pa, Ai, Aj, Ak, Al, Pe, Pb, Am, Px. -/
import Derived.Test.YtpnfhcnnodolbaaZY10
import Derived.Test.YtpnfhcnnodolbaaZY17
import Derived.Test.YtpnfhcnnodolbaaZY12
import Derived.Test.YtpnfhcnnodolbaaZY4
import Derived.Test.YtpnfhcnnodolbaaZY8
set_option linter.unusedVariables false
set_option linter.unusedSimpArgs false
set_option linter.unusedSectionVars false
set_option linter.unnecessarySimpa false
set_option maxRecDepth 100000
namespace Go.Proofs.Ytpnfhcnnodolbaa
open Go Go.RowKit Game
set_option maxHeartbeats 1000000 in
theorem checkTouchR_any (a b : Int) (w : World) : Calls Try.prog 26 #[(.agg #[.int .i64 (a), .int .i64 (b)])] w fun e w' => e = .returned (.int .i64 (chkU a b)) ∧ Ext w w' := by
 by_cases g1 : a < 0
 ·have H := hid (show chkU a b = 3 by unfold chkU; rw [if_neg]; simp [inR]; omega)
  go_enter Try.func26, Try.ntmps26
  go_wp2_with fail
  go_ret
  exact ⟨ret_int H.out.symm, exE⟩
 by_cases g2 : 1000 < a
 ·have H := hid (show chkU a b = 3 by unfold chkU; rw [if_neg]; simp [inR]; omega)
  go_enter Try.func26, Try.ntmps26
  go_wp2_with fail
  go_ret
  exact ⟨ret_int H.out.symm, exE⟩
 by_cases g3 : b < 0
 ·have H := hid (show chkU a b = 3 by unfold chkU; rw [if_neg]; simp [inR]; omega)
  go_enter Try.func26, Try.ntmps26
  go_wp2_with fail
  go_ret
  exact ⟨ret_int H.out.symm, exE⟩
 by_cases g4 : 1000 < b
 ·have H := hid (show chkU a b = 3 by unfold chkU; rw [if_neg]; simp [inR]; omega)
  go_enter Try.func26, Try.ntmps26
  go_wp2_with fail
  go_ret
  exact ⟨ret_int H.out.symm, exE⟩
 ·have H := hid (show chkU a b = 0 by unfold chkU; rw [if_pos]; simp [inR]; omega)
  go_enter Try.func26, Try.ntmps26
  go_wp2_with fail
  go_ret
  exact ⟨ret_int H.out.symm, exE⟩
def chkB (l : List Met) (a b : Int) : Int := if chkM l = 0 then chkU a b else chkM l
theorem both_any (l : List Met) (q : FitM l) (hl : l.length ≤ 1000) (a : Option Addr) (cap : Nat) (x y : Int) (w : World) (hM : Mts w a l) :
 Calls Try.prog 68 #[.slice a l.length cap, (.agg #[.int .i64 (x), .int .i64 (y)])] w fun e w' => e = .returned (.int .i64 (chkB l x y)) ∧ Ext w w' := by
 have hM' := hid hM
 have h1 := hid (fun W hW => checkMetalsR_any l q hl a cap W hW)
 by_cases g : chkM l = 0
 ·have H := hid (show chkB l x y = chkU x y from if_pos g)
  rw [g] at h1
  clear g hM
  go_enter Try.func68, Try.ntmps68
  go_wp2_with fail
  refine (h1.out _ (hM'.out.ext exE)).mono ?_; rintro e w1 ⟨rfl, hE⟩
  have c0 := hE.cell (p := ⟨w.heap.size, 0, none⟩) (v := .int .i64 x) (by simp [go_sem])
  have c1 := hE.cell (p := ⟨w.heap.size, 1, none⟩) (v := .int .i64 y) (by simp [go_sem])
  go_wp2_with fail
  refine (checkTouchR_any x y _).mono ?_; rintro e w2 ⟨rfl, hE2⟩
  go_wp2_with fail
  go_ret
  exact ⟨ret_int H.out.symm, exE⟩
 ·have H := hid (show chkB l x y = chkM l from if_neg g)
  have g1 : (chkM l != 0) = true := by simpa using g
  obtain ⟨c, hc⟩ : ∃ c, chkM l = c := ⟨_, rfl⟩
  rw [hc] at h1 H g1 g
  clear hM hc
  replace g := hid g
  go_enter Try.func68, Try.ntmps68
  go_wp2_with fail
  refine (h1.out _ (hM'.out.ext exE)).mono ?_; rintro e w1 ⟨rfl, hE⟩
  go_wp2_with fail
  refine (h1.out _ (hM'.out.ext exE)).mono ?_; rintro e w2 ⟨rfl, hE2⟩
  go_wp2_with fail
  go_ret
  exact ⟨ret_int H.out.symm, exE⟩
set_option maxHeartbeats 800000 in
theorem byR_any (num den : Int) (h0 : -1000000000000000 ≤ num) (h1' : num ≤ 1000000000000000) (d0 : 0 < den) (d1 : den ≤ 1000000000000000) (w : World) :
 Calls Try.prog 48 #[.int .i64 num, .int .i64 den] w fun e w' => e = .returned (.agg #[.int .i64 (ratN num den), .int .i64 (ratD num den)]) ∧ Ext w w' := by
 obtain ⟨x, hx, hx0, hx1, hxg⟩ : ∃ x, (x = num ∧ 0 ≤ num ∨ x = -num ∧ num < 0) ∧ 0 ≤ x ∧ x ≤ 1000000000000000 ∧ (Int.gcd x den = Int.gcd num den) := by
  rcases Int.lt_or_le num 0 with h | h
  ·exact ⟨-num, Or.inr ⟨rfl, h⟩, by omega, by omega, Int.neg_gcd⟩
  ·exact ⟨num, Or.inl ⟨rfl, h⟩, h, by omega, rfl⟩
 have hcm := hid (fun W => common_any x den hx0 hx1 (by omega) d1 W)
 rw [hxg] at hcm
 have g0 := gcd_pos (a := num) d0
 have h1 := tdiv_num num den
 have h2 := tdiv_den num den
 have b1 := ratN_bd (a := num) (b := den) (B := 1000000000000000) d0 h0 h1' (by omega)
 have b2 := (rat_spec num d0).2.2
 have b3 := rat_le (a := num) d0
 have h3 : den / (Int.gcd num den : Int) = ratD num den := rfl
 have h4 : num / (Int.gcd num den : Int) = ratN num den := rfl
 obtain ⟨N, eN⟩ : ∃ N, ratN num den = N := ⟨_, rfl⟩
 obtain ⟨D, eD⟩ : ∃ D, ratD num den = D := ⟨_, rfl⟩
 obtain ⟨g, eg⟩ : ∃ g, (Int.gcd num den : Int) = g := ⟨_, rfl⟩
 rw [eN] at h1 h4 b1 ⊢
 rw [eD] at h2 h3 b2 b3 ⊢
 rw [eg] at hcm g0 h1 h2 h3 h4
 clear eN eD eg hxg
 have hx0 : ¬ g = 0 := by omega
 have hg0 : (g == 0) = false := by rw [beq_eq_false_iff_ne]; exact hx0
 rcases hx with ⟨rfl, hs⟩ | ⟨rfl, hs⟩
 all_goals
  go_enter Try.func48, Try.ntmps48
  go_wp2_with fail
  refine (hcm.out _).mono ?_; rintro e w1 ⟨rfl, hE⟩
  have c0 := hE.cell (p := ⟨w.heap.size, 0, none⟩) (v := .int .i64 0) (by simp [go_sem])
  have c1 := hE.cell (p := ⟨w.heap.size, 1, none⟩) (v := .int .i64 0) (by simp [go_sem])
  have f0 := hE.frozen (p := ⟨w.heap.size, 0, none⟩) (by simp)
  have f1 := hE.frozen (p := ⟨w.heap.size, 1, none⟩) (by simp)
  simp only [go_sem] at f0 f1
  replace hE := hid hE
  go_wp2_with fail
  go_still_tail 7, (by kernel_rfl)
  change wpList _ _ _ _ _ (World.drew _)
  go_wp2_with fail
  refine bodyPost_ret (v := .agg #[.int .i64 N, .int .i64 D]) ?_ rfl ?_
  ·simp [results, Try.results48, go_sem, *]
  ·exact ⟨rfl, by have := hE.out; exact exE⟩
def costN (l : List Met) (x : List Int) : Nat → Int := fun n => sm n fun i => nth x i * (mtl l i).p
theorem cost_bd {l : List Met} (v : VldM l) {x : List Int} (hx : ∀ i, 0 ≤ nth x i ∧ nth x i ≤ 10000000) (n : Nat) : 0 ≤ costN l x n ∧ costN l x n ≤ 10000000000 * n := by
 unfold costN
 refine sm_bd fun i _ => ?_
 have h1 := hx i
 have h2 := v.pr i
 refine ⟨Int.mul_nonneg h1.1 h2.1, ?_⟩
 have h3 := Int.mul_le_mul_of_nonneg_left h2.2 h1.1
 omega
def badL (m : Met) (s : Bool) : Int := if s then m.lh else m.ll
def goodC (m : Met) (s : Bool) : Int := if s then m.cl else m.ch
theorem badR_any (m : Met) (s : Bool) (w : World) : Calls Try.prog 90 #[(.agg #[.int .i64 m.p, .int .i64 m.ll, .int .i64 m.lh, .int .i64 m.cl, .int .i64 m.ch]), .bool s] w fun e w' => e = .returned (.int .i64 (badL m s)) ∧ Ext w w' := by
 cases s <;>
  (go_enter Try.func90, Try.ntmps90
   go_wp2_with fail
   go_ret
   exact ⟨rfl, exE⟩)
theorem goodR_any (m : Met) (s : Bool) (w : World) : Calls Try.prog 91 #[(.agg #[.int .i64 m.p, .int .i64 m.ll, .int .i64 m.lh, .int .i64 m.cl, .int .i64 m.ch]), .bool s] w fun e w' => e = .returned (.int .i64 (goodC m s)) ∧ Ext w w' := by
 cases s <;>
  (go_enter Try.func91, Try.ntmps91
   go_wp2_with fail
   go_ret
   exact ⟨rfl, exE⟩)
def ledN (l : List Met) (s : Bool) (x : List Int) : Nat → Int := fun n => sm n fun i => nth x i * badL (mtl l i) s
def copN (l : List Met) (s : Bool) (x : List Int) : Nat → Int := fun n => sm n fun i => nth x i * goodC (mtl l i) s
def isG (l : List Met) (u c : Int) (s : Bool) (x : List Int) : Bool :=
 decide (ledN l s x l.length ≤ u * psum x) && decide (c * psum x ≤ copN l s x l.length)
theorem badL_bd {l : List Met} (v : VldM l) (s : Bool) (i : Nat) : 0 ≤ badL (mtl l i) s ∧ badL (mtl l i) s ≤ 1000 := by
 have := v.le i
 unfold badL; split <;> omega
theorem goodC_bd {l : List Met} (v : VldM l) (s : Bool) (i : Nat) : 0 ≤ goodC (mtl l i) s ∧ goodC (mtl l i) s ≤ 1000 := by
 have := v.co i
 unfold goodC; split <;> omega
theorem prod_bd {x : List Int} (hx : ∀ i, 0 ≤ nth x i ∧ nth x i ≤ 10000000) {f : Nat → Int} (hf : ∀ i, 0 ≤ f i ∧ f i ≤ 1000) (n : Nat) :
 0 ≤ sm n (fun i => nth x i * f i) ∧ sm n (fun i => nth x i * f i) ≤ 10000000000 * n := by
 refine sm_bd fun i _ => ?_
 have h1 := hx i
 have h2 := hf i
 refine ⟨Int.mul_nonneg h1.1 h2.1, ?_⟩
 have h3 := Int.mul_le_mul_of_nonneg_left h2.2 h1.1
 omega
set_option maxHeartbeats 4000000 in
theorem isGoodR_any (l : List Met) (v : VldM l) (u c : Int) (hu : 0 ≤ u ∧ u ≤ 1000) (hc : 0 ≤ c ∧ c ≤ 1000) (s : Bool) (x : List Int) (hx : ∀ i, 0 ≤ nth x i ∧ nth x i ≤ 10000000) (hlx : x.length = l.length) (a : Option Addr) (cap : Nat) (a2 : Option Addr) (c2 : Nat) (w : World) (hM : Mts w a l) (hI : Ints w a2 x) :
 Calls Try.prog 69 #[.slice a l.length cap, (.agg #[.int .i64 (u), .int .i64 (c)]), .bool s, .slice a2 x.length c2] w fun e w' => e = .returned (.bool (isG l u c s x)) ∧ Ext w w' := by
 have n1 := v.n1; have n6 := v.n6
 have hb1 := hid (prod_bd hx (badL_bd v s))
 have hb2 := hid (prod_bd hx (goodC_bd v s))
 have hq1 := hid (badL_bd v s)
 have hq2 := hid (goodC_bd v s)
 have hps := hid (sm_bd (n := x.length) (f := nth x) (B := 10000000) fun i _ => hx i)
 have hsum := hid (fun W hW => sumR_any x (fun i => ⟨(hx i).1, by have := (hx i).2; omega⟩) (by omega) a2 c2 W hW)
 have hI' := hid hI
 have hx' := hid hx
 obtain ⟨b, off, rfl, hbl, hc1⟩ := hM.at (by omega)
 have HC := hid hc1
 obtain ⟨b2, o2, rfl, hb2l, hc2⟩ := hI.at (by omega)
 have HC2 := hid hc2
 have hst1 : Hid (∀ n, ledN l s x (n + 1) = ledN l s x n + nth x n * badL (mtl l n) s) := hid fun n => rfl
 have hst2 : Hid (∀ n, copN l s x (n + 1) = copN l s x n + nth x n * goodC (mtl l n) s) := hid fun n => rfl
 have h10 : Hid (ledN l s x 0 = 0) := hid rfl
 have h20 : Hid (copN l s x 0 = 0) := hid rfl
 have hres : Hid (isG l u c s x = (decide (ledN l s x l.length ≤ u * psum x) && decide (c * psum x ≤ copN l s x l.length))) := hid rfl
 change Hid (∀ n, 0 ≤ ledN l s x n ∧ ledN l s x n ≤ 10000000000 * n) at hb1
 change Hid (∀ n, 0 ≤ copN l s x n ∧ copN l s x n ≤ 10000000000 * n) at hb2
 obtain ⟨F, hF⟩ : ∃ F, ledN l s x = F := ⟨_, rfl⟩
 obtain ⟨G, hG⟩ : ∃ G, copN l s x = G := ⟨_, rfl⟩
 rw [hF] at hb1 hst1 h10 hres
 rw [hG] at hb2 hst2 h20 hres
 obtain ⟨R, hR⟩ : ∃ R, isG l u c s x = R := ⟨_, rfl⟩
 rw [hR] at hres ⊢
 obtain ⟨N, hN⟩ : ∃ N, l.length = N := ⟨_, rfl⟩
 rw [hN] at HC hlx n1 n6 hres ⊢
 rw [hlx] at HC2 hsum hps ⊢
 have hps2 : Hid (0 ≤ psum x ∧ psum x ≤ 60000000) := hid (by have := hps.out; unfold psum; rw [hlx]; omega)
 obtain ⟨S, hS⟩ : ∃ S, psum x = S := ⟨_, rfl⟩
 rw [hS] at hsum hps2 hres
 replace hF := hid hF
 replace hG := hid hG
 replace hR := hid hR
 replace hN := hid hN
 replace hlx := hid hlx
 replace hS := hid hS
 clear hM hI hc1 hc2 v hx hps
 go_enter Try.func69, Try.ntmps69
 go_wp2_with fail
 refine name_wp (fun w0 hw0 => ?_)
 have x0 : Ext w w0 := by rw [hw0]; exact exE
 have r0 : w0.cell? ⟨w.heap.size, 0, none⟩ = some (.int .i64 u) := by rw [hw0]; simp [go_sem]
 have r1 : w0.cell? ⟨w.heap.size, 1, none⟩ = some (.int .i64 c) := by rw [hw0]; simp [go_sem]
 obtain ⟨Bc, hBc⟩ : ∃ B, w.heap.size = B := ⟨_, rfl⟩
 rw [hBc] at r0 r1 ⊢
 replace x0 := hid x0
 replace r0 := hid r0
 replace r1 := hid r1
 clear hw0
 replace hBc := hid hBc
 go_loopw [9, 10, 11] (fun p q i wr => ∃ k : Nat, k ≤ N ∧ i = .int .i64 k ∧ p = .int .i64 (F k) ∧ q = .int .i64 (G k) ∧ Hid (Ext w0 wr)) (fun _ _ i _ => (N - intOf i).toNat)
 case atStart => exact ⟨0, by omega, rfl, by rw [h10.out], by rw [h20.out], hid (Ext.refl _)⟩
 case round =>
  obtain ⟨k, hk, rfl, rfl, rfl, hw⟩ := hrel
  by_cases hkl : k < N
  ·obtain ⟨j0, j1, j2, j3, j4⟩ := (HC.out k hkl).ext (x0.out.trans hw.out)
   have j5 := (x0.out.trans hw.out).cell (HC2.out k hkl)
   have hbA := hid (fun W => badR_any (mtl l k) s W)
   have hgA := hid (fun W => goodR_any (mtl l k) s W)
   have h1 := hb1.out k
   have h2 := hb2.out k
   have h3 := hst1.out k
   have h4 := hst2.out k
   have h5 := hx'.out k
   have h6 := hq1.out k
   have h7 := hq2.out k
   obtain ⟨y, hy⟩ : ∃ y, nth x k = y := ⟨_, rfl⟩
   obtain ⟨z1, hz1⟩ : ∃ z, F k = z := ⟨_, rfl⟩
   obtain ⟨z2, hz2⟩ : ∃ z, G k = z := ⟨_, rfl⟩
   obtain ⟨p1, hp1⟩ : ∃ z, badL (mtl l k) s = z := ⟨_, rfl⟩
   obtain ⟨p2, hp2⟩ : ∃ z, goodC (mtl l k) s = z := ⟨_, rfl⟩
   obtain ⟨m0, hm0⟩ : ∃ z, (mtl l k).p = z := ⟨_, rfl⟩
   obtain ⟨m1, hm1⟩ : ∃ z, (mtl l k).ll = z := ⟨_, rfl⟩
   obtain ⟨m2, hm2⟩ : ∃ z, (mtl l k).lh = z := ⟨_, rfl⟩
   obtain ⟨m3, hm3⟩ : ∃ z, (mtl l k).cl = z := ⟨_, rfl⟩
   obtain ⟨m4, hm4⟩ : ∃ z, (mtl l k).ch = z := ⟨_, rfl⟩
   rw [hm0] at j0 hbA hgA; rw [hm1] at j1 hbA hgA; rw [hm2] at j2 hbA hgA; rw [hm3] at j3 hbA hgA; rw [hm4] at j4 hbA hgA
   rw [hy] at j5 h3 h4 h5
   rw [hz1] at h1 h3
   rw [hz2] at h2 h4
   rw [hp1] at hbA h3 h6
   rw [hp2] at hgA h4 h7
   have g1 : 0 ≤ y * p1 ∧ y * p1 ≤ 10000000000 := ⟨Int.mul_nonneg h5.1 h6.1, by have := Int.mul_le_mul_of_nonneg_left h6.2 h5.1; omega⟩
   have g2 : 0 ≤ y * p2 ∧ y * p2 ≤ 10000000000 := ⟨Int.mul_nonneg h5.1 h7.1, by have := Int.mul_le_mul_of_nonneg_left h7.2 h5.1; omega⟩
   have t1 := Go.IntWalk.i64_in (y * p1) (by omega)
   have t2 := Go.IntWalk.i64_in (z1 + y * p1) (by omega)
   have t3 := Go.IntWalk.i64_in (y * p2) (by omega)
   have t4 := Go.IntWalk.i64_in (z2 + y * p2) (by omega)
   have t5 := Go.IntWalk.i64_in ((k : Int) + 1) (by omega)
   have hkI : (k : Int) < (N : Int) := by omega
   rw [hz1, hz2]
   replace h3 := hid h3
   replace h4 := hid h4
   clear hy hz1 hz2 hp1 hp2 hm0 hm1 hm2 hm3 hm4
   clear h1 h2 h5 h6 h7 g1 g2
   replace t5 := hid t5
   go_wp2_with fail
   refine name_act (fun A_ hA_ => ?_)
   obtain ⟨Q2, hQ2⟩ : ∃ Q2 : Exit → Act → World → Prop, Q2 = fun e a' w' => e = .normal ∧ ∃ (v0_ v1_ v2_ v3_ v5_ v6_ v7_ v9_ : Value), a' = ((((((((((((((A_.put (some 18) (v0_)).put (some 19) (v1_)).put (some 20) (v2_)).put (some 21) (v3_)).put (some 22) (.int .i64 y)).put (some 23) (v5_)).put (some 24) (v6_)).put (some 25) (v7_)).put (some 26) (.agg #[.int .i64 m0, .int .i64 m1, .int .i64 m2, .int .i64 m3, .int .i64 m4])).put (some 27) (v9_)).put (some 28) (.int .i64 p1)).put (some 29) (.int .i64 (y * p1))).put (some 30) (.int .i64 (z1 + y * p1))).put (some 9) (.int .i64 (z1 + y * p1))) ∧ Ext wr w' := ⟨_, rfl⟩
   have hpan : ∀ c a a' w w', Q2 (.panic c) a w → Q2 (.panic c) a' w' := by rw [hQ2]; rintro c a a' w w' ⟨h, _⟩; cases h
   replace hQ2 := hid hQ2
   refine wp_mono (Q := Q2) ?_ ?_
   ·subst hA_
    have hRD_ := hid (fun w' (x_ : Ext wr w') => And.intro (Ext.cell x_ j0) (And.intro (Ext.cell x_ j1) (And.intro (Ext.cell x_ j2) (And.intro (Ext.cell x_ j3) (And.intro (Ext.cell x_ j4) (Ext.cell x_ j5))))))
    refine wp_region_held_drew (S := fun w' => Ext wr w') (by kernel_rfl) exE fun hHeld => ?_
    refine name_any (fun W0 hW => ?_)
    have s0 : Ext wr W0 := by rw [hW]; exact hHeld
    clear hW hHeld
    refine tkB (i := 0) (v := ?_) rfl hpan ?yl ?_
    case yl => (intro w hSw; have k_ := hRD_.out w hSw; go_simp); with_reducible rfl
    try simp only [sxA, sxB, sxC, Act.put, sxD, sxE, sxF]
    refine tkB (i := 1) (v := ?_) rfl hpan ?yl ?_
    case yl => (intro w hSw; have k_ := hRD_.out w hSw; go_simp); with_reducible rfl
    try simp only [sxA, sxB, sxC, Act.put, sxD, sxE, sxF]
    refine tkB (i := 2) (v := ?_) rfl hpan ?yl ?_
    case yl => (intro w hSw; have k_ := hRD_.out w hSw; go_simp); with_reducible rfl
    try simp only [sxA, sxB, sxC, Act.put, sxD, sxE, sxF]
    refine tkB (i := 3) (v := ?_) rfl hpan ?yl ?_
    case yl => (intro w hSw; have k_ := hRD_.out w hSw; go_simp); with_reducible rfl
    try simp only [sxA, sxB, sxC, Act.put, sxD, sxE, sxF]
    refine tkB (i := 4) (v := ?_) rfl hpan ?yl ?_
    case yl => (intro w hSw; have k_ := hRD_.out w hSw; go_simp); with_reducible rfl
    try simp only [sxA, sxB, sxC, Act.put, sxD, sxE, sxF]
    refine tkB (i := 5) (v := ?_) rfl hpan ?yl ?_
    case yl => (intro w hSw; have k_ := hRD_.out w hSw; go_simp); with_reducible rfl
    try simp only [sxA, sxB, sxC, Act.put, sxD, sxE, sxF]
    refine tkB (i := 6) (v := ?_) rfl hpan ?yl ?_
    case yl => (intro w hSw; have k_ := hRD_.out w hSw; go_simp); with_reducible rfl
    try simp only [sxA, sxB, sxC, Act.put, sxD, sxE, sxF]
    refine tkB (i := 7) (v := ?_) rfl hpan ?yl ?_
    case yl => (intro w hSw; have k_ := hRD_.out w hSw; go_simp); with_reducible rfl
    try simp only [sxA, sxB, sxC, Act.put, sxD, sxE, sxF]
    refine tkB (i := 8) (v := ?_) rfl hpan ?yl ?_
    case yl => (intro w hSw; have k_ := hRD_.out w hSw; go_simp); with_reducible rfl
    try simp only [sxA, sxB, sxC, Act.put, sxD, sxE, sxF]
    refine tkB (i := 9) (v := ?_) rfl hpan ?yl ?_
    case yl => (intro w hSw; have k_ := hRD_.out w hSw; go_simp); with_reducible rfl
    try simp only [sxA, sxB, sxC, Act.put, sxD, sxE, sxF]
    refine wpAnyH_ready (rs := [10]) (by kernel_rfl) (by simp) ?_
    refine AllReadyH.cons (o := _) rfl (fun K hK => ?_) AllReadyH.nil
    go_simp
    refine (hbA.out _).mono ?_; rintro e W1 ⟨rfl, e1⟩
    have s1 := s0.trans e1
    refine hK.out _ _ s1 (fun _ => ?_)
    clear hK K
    (try simp only [sxA, sxB, sxC, Act.put, sxD, sxE, sxF])
    refine tkB (i := 11) (v := .int .i64 (y * p1)) rfl hpan ?yl ?_
    case yl => (intro w hSw; have k_ := hRD_.out w hSw; go_simp; first | done | with_reducible rfl | (simp only [t1, t2]; done) | (simp [t1, t2]; done))
    try simp only [sxA, sxB, sxC, Act.put, sxD, sxE, sxF]
    refine tkB (i := 12) (v := .int .i64 (z1 + y * p1)) rfl hpan ?yl ?_
    case yl => (intro w hSw; have k_ := hRD_.out w hSw; go_simp; first | done | with_reducible rfl | (simp only [t1, t2]; done) | (simp [t1, t2]; done))
    try simp only [sxA, sxB, sxC, Act.put, sxD, sxE, sxF]
    refine tkB (i := 13) (v := .int .i64 (z1 + y * p1)) rfl hpan ?yl ?_
    case yl => (intro w hSw; have k_ := hRD_.out w hSw; go_simp; first | done | with_reducible rfl | (simp only [t1, t2]; done) | (simp [t1, t2]; done))
    try simp only [sxA, sxB, sxC, Act.put, sxD, sxE, sxF]
    refine wpAnyH_done (by kernel_rfl) ?_ _
    try simp only [sxA, sxB, sxC, Act.put, sxD, sxE, sxF]
    rw [hQ2.out]
    refine ⟨rfl, ?u1_0_1, ?u1_1_1, ?u1_2_1, ?u1_3_1, ?u1_4_1, ?u1_5_1, ?u1_6_1, ?u1_7_1, ?eq1_1, s1⟩
    case eq1_1 => ((try simp only [sxA, sxB, sxC, Act.put, sxD, sxE, sxF]); first | done | with_reducible rfl | rfl)
   rw [hQ2.out]
   rintro e a' wa ⟨rfl, v0_, v1_, v2_, v3_, v5_, v6_, v7_, v9_, rfl, x⟩
   clear hQ2 hpan; clear Q2
   subst hA_
   simp only [sxA, sxB, sxC, Act.put, sxD, sxE, sxF]
   replace j0 := x.cell j0; replace j1 := x.cell j1; replace j2 := x.cell j2; replace j3 := x.cell j3; replace j4 := x.cell j4; replace j5 := x.cell j5
   replace hw := hid (hw.out.trans x)
   clear x t1 t2
   go_wp2_with fail
   refine name_act (fun A_ hA_ => ?_)
   obtain ⟨Q2, hQ2⟩ : ∃ Q2 : Exit → Act → World → Prop, Q2 = fun e a' w' => e = .normal ∧ ∃ (v0_ v1_ v2_ v3_ v5_ v6_ v7_ v9_ : Value), a' = ((((((((((((((A_.put (some 31) (v0_)).put (some 32) (v1_)).put (some 33) (v2_)).put (some 34) (v3_)).put (some 35) (.int .i64 y)).put (some 36) (v5_)).put (some 37) (v6_)).put (some 38) (v7_)).put (some 39) (.agg #[.int .i64 m0, .int .i64 m1, .int .i64 m2, .int .i64 m3, .int .i64 m4])).put (some 40) (v9_)).put (some 41) (.int .i64 p2)).put (some 42) (.int .i64 (y * p2))).put (some 43) (.int .i64 (z2 + y * p2))).put (some 10) (.int .i64 (z2 + y * p2))) ∧ Ext wa w' := ⟨_, rfl⟩
   have hpan : ∀ c a a' w w', Q2 (.panic c) a w → Q2 (.panic c) a' w' := by rw [hQ2]; rintro c a a' w w' ⟨h, _⟩; cases h
   replace hQ2 := hid hQ2
   refine wp_mono (Q := Q2) ?_ ?_
   ·subst hA_
    have hRD_ := hid (fun w' (x_ : Ext wa w') => And.intro (Ext.cell x_ j0) (And.intro (Ext.cell x_ j1) (And.intro (Ext.cell x_ j2) (And.intro (Ext.cell x_ j3) (And.intro (Ext.cell x_ j4) (Ext.cell x_ j5))))))
    refine wp_region_held_drew (S := fun w' => Ext wa w') (by kernel_rfl) exE fun hHeld => ?_
    refine name_any (fun W0 hW => ?_)
    have s0 : Ext wa W0 := by rw [hW]; exact hHeld
    clear hW hHeld
    refine tkB (i := 0) (v := ?_) rfl hpan ?yl ?_
    case yl => (intro w hSw; have k_ := hRD_.out w hSw; go_simp); with_reducible rfl
    try simp only [sxA, sxB, sxC, Act.put, sxD, sxE, sxF]
    refine tkB (i := 1) (v := ?_) rfl hpan ?yl ?_
    case yl => (intro w hSw; have k_ := hRD_.out w hSw; go_simp); with_reducible rfl
    try simp only [sxA, sxB, sxC, Act.put, sxD, sxE, sxF]
    refine tkB (i := 2) (v := ?_) rfl hpan ?yl ?_
    case yl => (intro w hSw; have k_ := hRD_.out w hSw; go_simp); with_reducible rfl
    try simp only [sxA, sxB, sxC, Act.put, sxD, sxE, sxF]
    refine tkB (i := 3) (v := ?_) rfl hpan ?yl ?_
    case yl => (intro w hSw; have k_ := hRD_.out w hSw; go_simp); with_reducible rfl
    try simp only [sxA, sxB, sxC, Act.put, sxD, sxE, sxF]
    refine tkB (i := 4) (v := ?_) rfl hpan ?yl ?_
    case yl => (intro w hSw; have k_ := hRD_.out w hSw; go_simp); with_reducible rfl
    try simp only [sxA, sxB, sxC, Act.put, sxD, sxE, sxF]
    refine tkB (i := 5) (v := ?_) rfl hpan ?yl ?_
    case yl => (intro w hSw; have k_ := hRD_.out w hSw; go_simp); with_reducible rfl
    try simp only [sxA, sxB, sxC, Act.put, sxD, sxE, sxF]
    refine tkB (i := 6) (v := ?_) rfl hpan ?yl ?_
    case yl => (intro w hSw; have k_ := hRD_.out w hSw; go_simp); with_reducible rfl
    try simp only [sxA, sxB, sxC, Act.put, sxD, sxE, sxF]
    refine tkB (i := 7) (v := ?_) rfl hpan ?yl ?_
    case yl => (intro w hSw; have k_ := hRD_.out w hSw; go_simp); with_reducible rfl
    try simp only [sxA, sxB, sxC, Act.put, sxD, sxE, sxF]
    refine tkB (i := 8) (v := ?_) rfl hpan ?yl ?_
    case yl => (intro w hSw; have k_ := hRD_.out w hSw; go_simp); with_reducible rfl
    try simp only [sxA, sxB, sxC, Act.put, sxD, sxE, sxF]
    refine tkB (i := 9) (v := ?_) rfl hpan ?yl ?_
    case yl => (intro w hSw; have k_ := hRD_.out w hSw; go_simp); with_reducible rfl
    try simp only [sxA, sxB, sxC, Act.put, sxD, sxE, sxF]
    refine wpAnyH_ready (rs := [10]) (by kernel_rfl) (by simp) ?_
    refine AllReadyH.cons (o := _) rfl (fun K hK => ?_) AllReadyH.nil
    go_simp
    refine (hgA.out _).mono ?_; rintro e W1 ⟨rfl, e1⟩
    have s1 := s0.trans e1
    refine hK.out _ _ s1 (fun _ => ?_)
    clear hK K
    (try simp only [sxA, sxB, sxC, Act.put, sxD, sxE, sxF])
    refine tkB (i := 11) (v := .int .i64 (y * p2)) rfl hpan ?yl ?_
    case yl => (intro w hSw; have k_ := hRD_.out w hSw; go_simp; first | done | with_reducible rfl | (simp only [t3, t4]; done) | (simp [t3, t4]; done))
    try simp only [sxA, sxB, sxC, Act.put, sxD, sxE, sxF]
    refine tkB (i := 12) (v := .int .i64 (z2 + y * p2)) rfl hpan ?yl ?_
    case yl => (intro w hSw; have k_ := hRD_.out w hSw; go_simp; first | done | with_reducible rfl | (simp only [t3, t4]; done) | (simp [t3, t4]; done))
    try simp only [sxA, sxB, sxC, Act.put, sxD, sxE, sxF]
    refine tkB (i := 13) (v := .int .i64 (z2 + y * p2)) rfl hpan ?yl ?_
    case yl => (intro w hSw; have k_ := hRD_.out w hSw; go_simp; first | done | with_reducible rfl | (simp only [t3, t4]; done) | (simp [t3, t4]; done))
    try simp only [sxA, sxB, sxC, Act.put, sxD, sxE, sxF]
    refine wpAnyH_done (by kernel_rfl) ?_ _
    try simp only [sxA, sxB, sxC, Act.put, sxD, sxE, sxF]
    rw [hQ2.out]
    refine ⟨rfl, ?u2_0_1, ?u2_1_1, ?u2_2_1, ?u2_3_1, ?u2_4_1, ?u2_5_1, ?u2_6_1, ?u2_7_1, ?eq2_1, s1⟩
    case eq2_1 => ((try simp only [sxA, sxB, sxC, Act.put, sxD, sxE, sxF]); first | done | with_reducible rfl | rfl)
   rw [hQ2.out]
   rintro e a' wb ⟨rfl, v0_, v1_, v2_, v3_, v5_, v6_, v7_, v9_, rfl, x⟩
   clear hQ2 hpan; clear Q2
   subst hA_
   simp only [sxA, sxB, sxC, Act.put, sxD, sxE, sxF]
   replace hw := hid (hw.out.trans x)
   have t5 := t5.out
   clear x t3 t4 j0 j1 j2 j3 j4 j5
   go_wp2_with fail
   go_roundw
   case rel => exact ⟨k + 1, by omega, by go_num, by rw [h3.out], by rw [h4.out], hw⟩
   case measure => simp [intOf]; omega
  ·have hkN : k = N := by omega
   have hnn : ¬ (N : Int) < (N : Int) := by omega
   rw [hkN]
   have j0 := hw.out.cell r0.out
   have j1 := hw.out.cell r1.out
   have xw := hid (x0.out.trans hw.out)
   have h1 := hb1.out N
   have h2 := hb2.out N
   obtain ⟨z1, hz1⟩ : ∃ z, F N = z := ⟨_, rfl⟩
   obtain ⟨z2, hz2⟩ : ∃ z, G N = z := ⟨_, rfl⟩
   rw [hz1] at h1 hres ⊢
   rw [hz2] at h2 hres ⊢
   have hps3 := hps2.out
   have g1 : 0 ≤ u * S ∧ u * S ≤ 60000000000 := ⟨Int.mul_nonneg hu.1 hps3.1, by have := Int.mul_le_mul_of_nonneg_right hu.2 hps3.1; omega⟩
   have g2 : 0 ≤ c * S ∧ c * S ≤ 60000000000 := ⟨Int.mul_nonneg hc.1 hps3.1, by have := Int.mul_le_mul_of_nonneg_right hc.2 hps3.1; omega⟩
   have t1 := Go.IntWalk.i64_in (u * S) (by omega)
   have t2 := Go.IntWalk.i64_in (c * S) (by omega)
   replace hz1 := hid hz1
   replace hz2 := hid hz2
   clear hkN hk hkl hw h1 h2 g1 g2 hps3
   by_cases hle : z1 ≤ u * S
   ·have hrs : Hid (R = decide (c * S ≤ z2)) := hid (by rw [hres.out, decide_eq_true hle, Bool.true_and])
    go_wp2_with fail
    refine name_act (fun A_ hA_ => ?_)
    obtain ⟨Q2, hQ2⟩ : ∃ Q2 : Exit → Act → World → Prop, Q2 = fun e a' w' => e = .normal ∧ ∃ (v0_ v1_ v3_ v8_ v9_ v11_ : Value), a' = (((((((((((((((((A_.put (some 44) (v0_)).put (some 45) (v1_)).put (some 46) (.int .i64 u)).put (some 47) (v3_)).put (some 48) (.int .i64 S)).put (some 49) (.int .i64 (u * S))).put (some 50) (.bool true)).put (some 51) (.bool true)).put (some 52) (v8_)).put (some 53) (v9_)).put (some 54) (.int .i64 c)).put (some 55) (v11_)).put (some 56) (.int .i64 S)).put (some 57) (.int .i64 (c * S))).put (some 58) (.bool (decide (c * S ≤ z2)))).put (some 59) (.bool (decide (c * S ≤ z2)))).put (some 8) (.bool (decide (c * S ≤ z2)))) ∧ Ext wr w' := ⟨_, rfl⟩
    have hpan : ∀ c a a' w w', Q2 (.panic c) a w → Q2 (.panic c) a' w' := by rw [hQ2]; rintro c a a' w w' ⟨h, _⟩; cases h
    replace hQ2 := hid hQ2
    refine wp_mono (Q := Q2) ?_ ?_
    ·subst hA_
     have hRD_ := hid (fun w' (x_ : Ext wr w') => And.intro (Ext.cell x_ j0) (Ext.cell x_ j1))
     refine wp_region_held_drew (S := fun w' => Ext wr w') (by kernel_rfl) exE fun hHeld => ?_
     refine name_any (fun W0 hW => ?_)
     have s0 : Ext wr W0 := by rw [hW]; exact hHeld
     clear hW hHeld
     refine tkB (i := 0) (v := ?_) rfl hpan ?yl ?_
     case yl => (intro w hSw; have k_ := hRD_.out w hSw; go_simp); with_reducible rfl
     try simp only [sxA, sxB, sxC, Act.put, sxD, sxE, sxF]
     refine tkB (i := 1) (v := ?_) rfl hpan ?yl ?_
     case yl => (intro w hSw; have k_ := hRD_.out w hSw; go_simp); with_reducible rfl
     try simp only [sxA, sxB, sxC, Act.put, sxD, sxE, sxF]
     refine tkB (i := 2) (v := ?_) rfl hpan ?yl ?_
     case yl => (intro w hSw; have k_ := hRD_.out w hSw; go_simp); with_reducible rfl
     try simp only [sxA, sxB, sxC, Act.put, sxD, sxE, sxF]
     refine tkB (i := 3) (v := ?_) rfl hpan ?yl ?_
     case yl => (intro w hSw; have k_ := hRD_.out w hSw; go_simp); with_reducible rfl
     try simp only [sxA, sxB, sxC, Act.put, sxD, sxE, sxF]
     refine wpAnyH_ready (rs := [4]) (by kernel_rfl) (by simp) ?_
     refine AllReadyH.cons (o := _) rfl (fun K hK => ?_) AllReadyH.nil
     go_simp
     refine (hsum.out _ (hI'.out.ext (xw.out.trans s0))).mono ?_; rintro e W1 ⟨rfl, e1⟩
     have s1 := s0.trans e1
     refine hK.out _ _ s1 (fun _ => ?_)
     clear hK K
     (try simp only [sxA, sxB, sxC, Act.put, sxD, sxE, sxF])
     refine tkB (i := 5) (v := .int .i64 (u * S)) rfl hpan ?yl ?_
     case yl => (intro w hSw; have k_ := hRD_.out w hSw; go_simp; first | done | with_reducible rfl | (simp only [t1, t2, hle]; done) | (simp [t1, t2, hle]; done))
     try simp only [sxA, sxB, sxC, Act.put, sxD, sxE, sxF]
     refine tkB (i := 6) (v := .bool true) rfl hpan ?yl ?_
     case yl => (intro w hSw; have k_ := hRD_.out w hSw; go_simp; first | done | with_reducible rfl | (simp only [t1, t2, hle]; done) | (simp [t1, t2, hle]; done))
     try simp only [sxA, sxB, sxC, Act.put, sxD, sxE, sxF]
     refine tkB (i := 7) (v := .bool true) rfl hpan ?yl ?_
     case yl => (intro w hSw; have k_ := hRD_.out w hSw; go_simp; first | done | with_reducible rfl | (simp only [t1, t2, hle]; done) | (simp [t1, t2, hle]; done))
     try simp only [sxA, sxB, sxC, Act.put, sxD, sxE, sxF]
     refine tkB (i := 8) (v := ?_) rfl hpan ?yl ?_
     case yl => (intro w hSw; have k_ := hRD_.out w hSw; go_simp); with_reducible rfl
     try simp only [sxA, sxB, sxC, Act.put, sxD, sxE, sxF]
     refine tkB (i := 9) (v := ?_) rfl hpan ?yl ?_
     case yl => (intro w hSw; have k_ := hRD_.out w hSw; go_simp); with_reducible rfl
     try simp only [sxA, sxB, sxC, Act.put, sxD, sxE, sxF]
     refine tkB (i := 10) (v := ?_) rfl hpan ?yl ?_
     case yl => (intro w hSw; have k_ := hRD_.out w hSw; go_simp); with_reducible rfl
     try simp only [sxA, sxB, sxC, Act.put, sxD, sxE, sxF]
     refine tkB (i := 11) (v := ?_) rfl hpan ?yl ?_
     case yl => (intro w hSw; have k_ := hRD_.out w hSw; go_simp); with_reducible rfl
     try simp only [sxA, sxB, sxC, Act.put, sxD, sxE, sxF]
     refine wpAnyH_ready (rs := [12]) (by kernel_rfl) (by simp) ?_
     refine AllReadyH.cons (o := _) rfl (fun K hK => ?_) AllReadyH.nil
     go_simp
     refine (hsum.out _ (hI'.out.ext (xw.out.trans s1))).mono ?_; rintro e W2 ⟨rfl, e2⟩
     have s2 := s1.trans e2
     refine hK.out _ _ s2 (fun _ => ?_)
     clear hK K
     (try simp only [sxA, sxB, sxC, Act.put, sxD, sxE, sxF])
     refine tkB (i := 13) (v := .int .i64 (c * S)) rfl hpan ?yl ?_
     case yl => (intro w hSw; have k_ := hRD_.out w hSw; go_simp; first | done | with_reducible rfl | (simp only [t1, t2, hle]; done) | (simp [t1, t2, hle]; done))
     try simp only [sxA, sxB, sxC, Act.put, sxD, sxE, sxF]
     refine tkB (i := 14) (v := .bool (decide (c * S ≤ z2))) rfl hpan ?yl ?_
     case yl => (intro w hSw; have k_ := hRD_.out w hSw; go_simp; first | done | with_reducible rfl | (simp only [t1, t2, hle]; done) | (simp [t1, t2, hle]; done))
     try simp only [sxA, sxB, sxC, Act.put, sxD, sxE, sxF]
     refine tkB (i := 15) (v := .bool (decide (c * S ≤ z2))) rfl hpan ?yl ?_
     case yl => (intro w hSw; have k_ := hRD_.out w hSw; go_simp; first | done | with_reducible rfl | (simp only [t1, t2, hle]; done) | (simp [t1, t2, hle]; done))
     try simp only [sxA, sxB, sxC, Act.put, sxD, sxE, sxF]
     refine tkB (i := 16) (v := .bool (decide (c * S ≤ z2))) rfl hpan ?yl ?_
     case yl => (intro w hSw; have k_ := hRD_.out w hSw; go_simp; first | done | with_reducible rfl | (simp only [t1, t2, hle]; done) | (simp [t1, t2, hle]; done))
     try simp only [sxA, sxB, sxC, Act.put, sxD, sxE, sxF]
     refine wpAnyH_done (by kernel_rfl) ?_ _
     try simp only [sxA, sxB, sxC, Act.put, sxD, sxE, sxF]
     rw [hQ2.out]
     refine ⟨rfl, ?u3_0_1, ?u3_1_1, ?u3_2_1, ?u3_3_1, ?u3_4_1, ?u3_5_1, ?eq3_1, s2⟩
     case eq3_1 => ((try simp only [sxA, sxB, sxC, Act.put, sxD, sxE, sxF]); first | done | with_reducible rfl | rfl)
    rw [hQ2.out]
    rintro e a' wa ⟨rfl, v0_, v1_, v3_, v8_, v9_, v11_, rfl, x⟩
    clear hQ2 hpan; clear Q2
    subst hA_
    simp only [sxA, sxB, sxC, Act.put, sxD, sxE, sxF]
    have xx := xw.out.trans x
    go_wp2_with fail
    go_ret
    exact ⟨ret_bool hrs.out.symm, xx⟩
   ·have hrs : Hid (R = false) := hid (by rw [hres.out, decide_eq_false hle, Bool.false_and])
    go_wp2_with fail
    refine name_act (fun A_ hA_ => ?_)
    obtain ⟨Q2, hQ2⟩ : ∃ Q2 : Exit → Act → World → Prop, Q2 = fun e a' w' => e = .normal ∧ ∃ (v0_ v1_ v3_ : Value), a' = (((((((((((((((((A_.put (some 44) (v0_)).put (some 45) (v1_)).put (some 46) (.int .i64 u)).put (some 47) (v3_)).put (some 48) (.int .i64 S)).put (some 49) (.int .i64 (u * S))).put (some 50) (.bool false)).put (some 51) (.bool false)).put (some 52) (undef)).put (some 53) (undef)).put (some 54) (undef)).put (some 55) (undef)).put (some 56) (undef)).put (some 57) (undef)).put (some 58) (undef)).put (some 59) (.bool false)).put (some 8) (.bool false)) ∧ Ext wr w' := ⟨_, rfl⟩
    have hpan : ∀ c a a' w w', Q2 (.panic c) a w → Q2 (.panic c) a' w' := by rw [hQ2]; rintro c a a' w w' ⟨h, _⟩; cases h
    replace hQ2 := hid hQ2
    refine wp_mono (Q := Q2) ?_ ?_
    ·subst hA_
     have hRD_ := hid (fun w' (x_ : Ext wr w') => And.intro (Ext.cell x_ j0) (Ext.cell x_ j1))
     refine wp_region_held_drew (S := fun w' => Ext wr w') (by kernel_rfl) exE fun hHeld => ?_
     refine name_any (fun W0 hW => ?_)
     have s0 : Ext wr W0 := by rw [hW]; exact hHeld
     clear hW hHeld
     refine tkB (i := 0) (v := ?_) rfl hpan ?yl ?_
     case yl => (intro w hSw; have k_ := hRD_.out w hSw; go_simp); with_reducible rfl
     try simp only [sxA, sxB, sxC, Act.put, sxD, sxE, sxF]
     refine tkB (i := 1) (v := ?_) rfl hpan ?yl ?_
     case yl => (intro w hSw; have k_ := hRD_.out w hSw; go_simp); with_reducible rfl
     try simp only [sxA, sxB, sxC, Act.put, sxD, sxE, sxF]
     refine tkB (i := 2) (v := ?_) rfl hpan ?yl ?_
     case yl => (intro w hSw; have k_ := hRD_.out w hSw; go_simp); with_reducible rfl
     try simp only [sxA, sxB, sxC, Act.put, sxD, sxE, sxF]
     refine tkB (i := 3) (v := ?_) rfl hpan ?yl ?_
     case yl => (intro w hSw; have k_ := hRD_.out w hSw; go_simp); with_reducible rfl
     try simp only [sxA, sxB, sxC, Act.put, sxD, sxE, sxF]
     refine wpAnyH_ready (rs := [4]) (by kernel_rfl) (by simp) ?_
     refine AllReadyH.cons (o := _) rfl (fun K hK => ?_) AllReadyH.nil
     go_simp
     refine (hsum.out _ (hI'.out.ext (xw.out.trans s0))).mono ?_; rintro e W1 ⟨rfl, e1⟩
     have s1 := s0.trans e1
     refine hK.out _ _ s1 (fun _ => ?_)
     clear hK K
     (try simp only [sxA, sxB, sxC, Act.put, sxD, sxE, sxF])
     refine tkB (i := 5) (v := .int .i64 (u * S)) rfl hpan ?yl ?_
     case yl => (intro w hSw; have k_ := hRD_.out w hSw; go_simp; first | done | with_reducible rfl | (simp only [t1, t2, hle]; done) | (simp [t1, t2, hle]; done))
     try simp only [sxA, sxB, sxC, Act.put, sxD, sxE, sxF]
     refine tkB (i := 6) (v := .bool false) rfl hpan ?yl ?_
     case yl => (intro w hSw; have k_ := hRD_.out w hSw; go_simp; first | done | with_reducible rfl | (simp only [t1, t2, hle]; done) | (simp [t1, t2, hle]; done))
     try simp only [sxA, sxB, sxC, Act.put, sxD, sxE, sxF]
     refine tkB (i := 7) (v := .bool false) rfl hpan ?yl ?_
     case yl => (intro w hSw; have k_ := hRD_.out w hSw; go_simp; first | done | with_reducible rfl | (simp only [t1, t2, hle]; done) | (simp [t1, t2, hle]; done))
     try simp only [sxA, sxB, sxC, Act.put, sxD, sxE, sxF]
     refine tkA (i := 8) (v := undef) rfl (fun c a w h => hpan c _ _ _ _ h) (Or.inr ⟨by kernel_rfl, rfl⟩) (by assumption) ?_
     try simp only [sxA, sxB, sxC, Act.put, sxD, sxE, sxF]
     refine tkA (i := 9) (v := undef) rfl (fun c a w h => hpan c _ _ _ _ h) (Or.inr ⟨by kernel_rfl, rfl⟩) (by assumption) ?_
     try simp only [sxA, sxB, sxC, Act.put, sxD, sxE, sxF]
     refine tkA (i := 10) (v := undef) rfl (fun c a w h => hpan c _ _ _ _ h) (Or.inr ⟨by kernel_rfl, rfl⟩) (by assumption) ?_
     try simp only [sxA, sxB, sxC, Act.put, sxD, sxE, sxF]
     refine tkA (i := 11) (v := undef) rfl (fun c a w h => hpan c _ _ _ _ h) (Or.inr ⟨by kernel_rfl, rfl⟩) (by assumption) ?_
     try simp only [sxA, sxB, sxC, Act.put, sxD, sxE, sxF]
     refine tkA (i := 12) (v := undef) rfl (fun c a w h => hpan c _ _ _ _ h) (Or.inr ⟨by kernel_rfl, rfl⟩) (by assumption) ?_
     try simp only [sxA, sxB, sxC, Act.put, sxD, sxE, sxF]
     refine tkA (i := 13) (v := undef) rfl (fun c a w h => hpan c _ _ _ _ h) (Or.inr ⟨by kernel_rfl, rfl⟩) (by assumption) ?_
     try simp only [sxA, sxB, sxC, Act.put, sxD, sxE, sxF]
     refine tkA (i := 14) (v := undef) rfl (fun c a w h => hpan c _ _ _ _ h) (Or.inr ⟨by kernel_rfl, rfl⟩) (by assumption) ?_
     try simp only [sxA, sxB, sxC, Act.put, sxD, sxE, sxF]
     refine tkB (i := 15) (v := .bool false) rfl hpan ?yl ?_
     case yl => (intro w hSw; have k_ := hRD_.out w hSw; go_simp; first | done | with_reducible rfl | (simp only [t1, t2, hle]; done) | (simp [t1, t2, hle]; done))
     try simp only [sxA, sxB, sxC, Act.put, sxD, sxE, sxF]
     refine tkB (i := 16) (v := .bool false) rfl hpan ?yl ?_
     case yl => (intro w hSw; have k_ := hRD_.out w hSw; go_simp; first | done | with_reducible rfl | (simp only [t1, t2, hle]; done) | (simp [t1, t2, hle]; done))
     try simp only [sxA, sxB, sxC, Act.put, sxD, sxE, sxF]
     refine wpAnyH_done (by kernel_rfl) ?_ _
     try simp only [sxA, sxB, sxC, Act.put, sxD, sxE, sxF]
     rw [hQ2.out]
     refine ⟨rfl, ?u4_0_1, ?u4_1_1, ?u4_2_1, ?eq4_1, s1⟩
     case eq4_1 => ((try simp only [sxA, sxB, sxC, Act.put, sxD, sxE, sxF]); first | done | with_reducible rfl | rfl)
    rw [hQ2.out]
    rintro e a' wa ⟨rfl, v0_, v1_, v3_, rfl, x⟩
    clear hQ2 hpan; clear Q2
    subst hA_
    simp only [sxA, sxB, sxC, Act.put, sxD, sxE, sxF]
    have xx := xw.out.trans x
    go_wp2_with fail
    go_ret
    exact ⟨ret_bool hrs.out.symm, xx⟩
def rwM (m : Met) (s : Bool) (k : Nat) : Int := if k = 0 then 1 else if k = 1 then - badL m s else goodC m s
def rwV (l : List Met) (s : Bool) (i r : Nat) : Value := .int .i64 (rwM (mtl l i) s r)
structure Pot (w : World) (D : Nat) (l : List Met) (u c : Int) (s : Bool) : Prop where
 m : ∃ a cap, w.cell? ⟨D, 0, none⟩ = some (.slice a l.length cap) ∧ Mts w a l
 t0 : w.cell? ⟨D, 1, none⟩ = some (.int .i64 u)
 t1 : w.cell? ⟨D, 2, none⟩ = some (.int .i64 c)
 r : ∃ a cap, w.cell? ⟨D, 3, none⟩ = some (.slice a l.length cap) ∧ Els w a 3 (rwV l s) l.length
 rc : ∃ a cap, w.cell? ⟨D, 3, none⟩ = some (.slice a l.length cap) ∧ l.length ≤ cap
theorem Pot.ext {w w' : World} {D : Nat} {l : List Met} {u c : Int} {s : Bool} (h : Pot w D l u c s) (x : Ext w w') : Pot w' D l u c s :=
 ⟨let ⟨a, cap, h1, h2⟩ := h.m; ⟨a, cap, x.cell h1, h2.ext x⟩, x.cell h.t0, x.cell h.t1, let ⟨a, cap, h1, h2⟩ := h.r; ⟨a, cap, x.cell h1, h2.ext x⟩, let ⟨a, cap, h1, h2⟩ := h.rc; ⟨a, cap, x.cell h1, h2⟩⟩
theorem Pot.lt {w : World} {D : Nat} {l : List Met} {u c : Int} {s : Bool} (h : Pot w D l u c s) : D < w.heap.size := cell_lt h.t0
theorem Pot.rows {w : World} {D : Nat} {l : List Met} {u c : Int} {s : Bool} (h : Pot w D l u c s) (n1 : 1 ≤ l.length) :
 ∃ b off cap, w.cell? ⟨D, 3, none⟩ = some (.slice (some ⟨b, off, none⟩) l.length cap) ∧ b < w.heap.size ∧
  ∀ i, i < l.length → w.cell? ⟨b, off + i * 3, none⟩ = some (.int .i64 1) ∧ w.cell? ⟨b, off + i * 3 + 1, none⟩ = some (.int .i64 (- badL (mtl l i) s)) ∧ w.cell? ⟨b, off + i * 3 + 2, none⟩ = some (.int .i64 (goodC (mtl l i) s)) := by
 obtain ⟨a, cap, h1, h2⟩ := h.r
 obtain ⟨b, off, rfl, hb, hc⟩ := h2.at (by omega) (by omega)
 exact ⟨b, off, cap, h1, hb, fun i hi => ⟨hc i hi 0 (by omega), hc i hi 1 (by omega), hc i hi 2 (by omega)⟩⟩
theorem Pot.mets {w : World} {D : Nat} {l : List Met} {u c : Int} {s : Bool} (h : Pot w D l u c s) (n1 : 1 ≤ l.length) :
 ∃ b off cap, w.cell? ⟨D, 0, none⟩ = some (.slice (some ⟨b, off, none⟩) l.length cap) ∧ b < w.heap.size ∧ ∀ i, i < l.length → Mtc w b (off + i * 5) (mtl l i) := by
 obtain ⟨a, cap, h1, h2⟩ := h.m
 obtain ⟨b, off, rfl, hb, hc⟩ := h2.at (by omega)
 exact ⟨b, off, cap, h1, hb, hc⟩
def ovr (l : List Met) (u c : Int) (s : Bool) (i k : Nat) : Int := if k = 1 then - badL (mtl l i) s + u else goodC (mtl l i) s - c
set_option maxHeartbeats 2000000 in
theorem over_any (l : List Met) (v : VldM l) (u c : Int) (hu : 0 ≤ u ∧ u ≤ 1000) (hc : 0 ≤ c ∧ c ≤ 1000) (s : Bool) (D i k : Nat) (hi : i < l.length) (hk : k = 1 ∨ k = 2) (w : World) (hP : Pot w D l u c s) :
 Calls Try.prog 112 #[(.pointer (some ⟨D, 0, none⟩)), .int .i64 i, .int .i64 k] w fun e w' => e = .returned (.int .i64 (ovr l u c s i k)) ∧ Ext w w' := by
 have h1 := badL_bd v s i
 have h2 := goodC_bd v s i
 obtain ⟨b, off, cap, e3, hb, hcc⟩ := hP.rows (by omega)
 obtain ⟨j0, j1, j2⟩ := hcc i hi
 have e1 := hP.t0
 have e2 := hP.t1
 obtain ⟨N, hN⟩ : ∃ N, l.length = N := ⟨_, rfl⟩
 rw [hN] at e3 hi
 have hO : Hid (ovr l u c s i k = if k = 1 then - badL (mtl l i) s + u else goodC (mtl l i) s - c) := hid rfl
 obtain ⟨x, hx⟩ : ∃ z, badL (mtl l i) s = z := ⟨_, rfl⟩
 obtain ⟨y, hy⟩ : ∃ z, goodC (mtl l i) s = z := ⟨_, rfl⟩
 rw [hx] at h1 j1 hO
 rw [hy] at h2 j2 hO
 have hiI : (i : Int) < (N : Int) := by omega
 have hiI0 : (0 : Int) ≤ (i : Int) := by omega
 have t1 := Go.IntWalk.i64_in (- x + u) (by omega)
 have t2 := Go.IntWalk.i64_in (y - c) (by omega)
 obtain ⟨R, hR⟩ : ∃ R, ovr l u c s i k = R := ⟨_, rfl⟩
 rw [hR] at hO ⊢
 clear hN hx hy hR v hu hc h1 h2 hcc hP
 rcases hk with rfl | rfl
 ·rw [if_pos rfl] at hO
  go_enter Try.func112, Try.ntmps112
  go_wp2_with fail
  go_quiet (fail)
  go_wp2_with fail
  go_ret
  exact ⟨ret_int hO.out.symm, exE⟩
 ·rw [if_neg (by decide)] at hO
  go_enter Try.func112, Try.ntmps112
  go_wp2_with fail
  go_quiet (fail)
  go_wp2_with fail
  go_ret
  exact ⟨ret_int hO.out.symm, exE⟩
def Pn (b le co : Int) : Prop := (-68719476736 ≤ b ∧ b ≤ 68719476736) ∧ (-68719476736 ≤ le ∧ le ≤ 68719476736) ∧ (-68719476736 ≤ co ∧ co ≤ 68719476736)
theorem mulQ_bd {x y : Int} (hx : -68719476736 ≤ x ∧ x ≤ 68719476736) (hy : 0 ≤ y ∧ y ≤ 1000) : -68719476736000 ≤ x * y ∧ x * y ≤ 68719476736000 := by
 have h1 := Int.mul_le_mul_of_nonneg_right hx.1 hy.1
 have h2 := Int.mul_le_mul_of_nonneg_right hx.2 hy.1
 omega
set_option maxHeartbeats 2000000 in
theorem value_any (l : List Met) (u c : Int) (hu : 0 ≤ u ∧ u ≤ 1000) (hc : 0 ≤ c ∧ c ≤ 1000) (s : Bool) (D : Nat) (d b le co : Int) (hp : Pn b le co) (w : World) (hP : Pot w D l u c s) :
 Calls Try.prog 74 #[(.pointer (some ⟨D, 0, none⟩)), (.agg #[.int .i64 (d), .int .i64 (b), .int .i64 (le), .int .i64 (co)])] w fun e w' => e = .returned (.int .i64 (b - le * u + co * c)) ∧ Ext w w' := by
 obtain ⟨h1, h2, h3⟩ := hp
 have y1 := mulQ_bd h2 hu
 have y2 := mulQ_bd h3 hc
 have e1 := hP.t0
 have e2 := hP.t1
 have e3 := hP.lt
 have t1 := Go.IntWalk.i64_in (le * u) (by omega)
 have t2 := Go.IntWalk.i64_in (co * c) (by omega)
 have t3 := Go.IntWalk.i64_in (b - le * u) (by omega)
 have t4 := Go.IntWalk.i64_in (b - le * u + co * c) (by omega)
 clear h1 h2 h3 y1 y2 hu hc hP
 go_enter Try.func74, Try.ntmps74
 go_wp2_with fail
 go_quiet (fail)
 go_wp2_with fail
 go_ret
 exact ⟨rfl, exE⟩
def crs (a b : Nat → Int) (k : Nat) : Int := if k = 0 then a 1 * b 2 - a 2 * b 1 else if k = 1 then a 2 * b 0 - a 0 * b 2 else a 0 * b 1 - a 1 * b 0
def dtv (a b : Nat → Int) : Int := a 0 * b 0 + a 1 * b 1 + a 2 * b 2
theorem mulA_bd {x y A B : Int} (hx : -A ≤ x ∧ x ≤ A) (hy : -B ≤ y ∧ y ≤ B) : -(A * B) ≤ x * y ∧ x * y ≤ A * B := by
 have hA : 0 ≤ A := by omega
 have hB : 0 ≤ B := by omega
 rcases Int.le_total 0 x with p | p
 ·have e1 := Int.mul_le_mul_of_nonneg_left hy.1 p
  have e2 := Int.mul_le_mul_of_nonneg_left hy.2 p
  have e3 := Int.mul_le_mul_of_nonneg_right hx.2 hB
  have e4 : x * -B = -(x * B) := by grind
  omega
 ·have e1 := Int.mul_le_mul_of_nonpos_left p hy.1
  have e2 := Int.mul_le_mul_of_nonpos_left p hy.2
  have e3 := Int.mul_le_mul_of_nonneg_right hx.1 hB
  have e4 : x * -B = -(x * B) := by grind
  have e5 : -A * B = -(A * B) := by grind
  omega
set_option maxHeartbeats 2000000 in
theorem cross_any (a b : Nat → Int) (ha : ∀ k, -1000 ≤ a k ∧ a k ≤ 1000) (hb : ∀ k, -1000 ≤ b k ∧ b k ≤ 1000) (w : World) :
 Calls Try.prog 99 #[(.agg #[.int .i64 (a 0), .int .i64 (a 1), .int .i64 (a 2)]), (.agg #[.int .i64 (b 0), .int .i64 (b 1), .int .i64 (b 2)])] w fun e w' => e = .returned (.agg #[.int .i64 (crs a b 0), .int .i64 (crs a b 1), .int .i64 (crs a b 2)]) ∧ Ext w w' := by
 have hr : Hid (∀ x y z, Ending.returned (.agg #[.int .i64 (x), .int .i64 (y), .int .i64 (z)]) = .returned (.agg #[.int .i64 (crs a b 0), .int .i64 (crs a b 1), .int .i64 (crs a b 2)]) ↔ (x = a 1 * b 2 - a 2 * b 1 ∧ y = a 2 * b 0 - a 0 * b 2 ∧ z = a 0 * b 1 - a 1 * b 0)) := hid fun x y z => by simp [crs]
 have b12 := mulA_bd (ha 1) (hb 2)
 have b21 := mulA_bd (ha 2) (hb 1)
 have b20 := mulA_bd (ha 2) (hb 0)
 have b02 := mulA_bd (ha 0) (hb 2)
 have b01 := mulA_bd (ha 0) (hb 1)
 have b10 := mulA_bd (ha 1) (hb 0)
 clear ha hb
 generalize crs a b 0 = r0 at *
 generalize crs a b 1 = r1 at *
 generalize crs a b 2 = r2 at *
 generalize a 0 = a0 at *
 generalize a 1 = a1 at *
 generalize a 2 = a2 at *
 generalize b 0 = b0 at *
 generalize b 1 = b1 at *
 generalize b 2 = b2 at *
 have t1 := Go.IntWalk.i64_in (a1 * b2) (by omega)
 have t2 := Go.IntWalk.i64_in (a2 * b1) (by omega)
 have t3 := Go.IntWalk.i64_in (a2 * b0) (by omega)
 have t4 := Go.IntWalk.i64_in (a0 * b2) (by omega)
 have t5 := Go.IntWalk.i64_in (a0 * b1) (by omega)
 have t6 := Go.IntWalk.i64_in (a1 * b0) (by omega)
 have t7 := Go.IntWalk.i64_in (a1 * b2 - a2 * b1) (by omega)
 have t8 := Go.IntWalk.i64_in (a2 * b0 - a0 * b2) (by omega)
 have t9 := Go.IntWalk.i64_in (a0 * b1 - a1 * b0) (by omega)
 clear b12 b21 b20 b02 b01 b10
 go_enter Try.func99, Try.ntmps99
 go_wp2_with fail
 refine bodyPost_ret (v := (.agg #[.int .i64 (a1 * b2 - a2 * b1), .int .i64 (a2 * b0 - a0 * b2), .int .i64 (a0 * b1 - a1 * b0)])) ?_ rfl ?_
 ·simp [results, Try.results99, go_sem, *]
 ·exact ⟨(hr.out _ _ _).2 ⟨rfl, rfl, rfl⟩, exE⟩
set_option maxHeartbeats 2000000 in
theorem dot_any (a b : Nat → Int) (ha : ∀ k, -1000 ≤ a k ∧ a k ≤ 1000) (hb : ∀ k, -2000000 ≤ b k ∧ b k ≤ 2000000) (w : World) :
 Calls Try.prog 98 #[(.agg #[.int .i64 (a 0), .int .i64 (a 1), .int .i64 (a 2)]), (.agg #[.int .i64 (b 0), .int .i64 (b 1), .int .i64 (b 2)])] w fun e w' => e = .returned (.int .i64 (dtv a b)) ∧ Ext w w' := by
 have hr : Hid (a 0 * b 0 + a 1 * b 1 + a 2 * b 2 = dtv a b) := hid rfl
 have b00 := mulA_bd (ha 0) (hb 0)
 have b11 := mulA_bd (ha 1) (hb 1)
 have b22 := mulA_bd (ha 2) (hb 2)
 clear ha hb
 generalize dtv a b = r at *
 generalize a 0 = a0 at *
 generalize a 1 = a1 at *
 generalize a 2 = a2 at *
 generalize b 0 = b0 at *
 generalize b 1 = b1 at *
 generalize b 2 = b2 at *
 have t1 := Go.IntWalk.i64_in (a0 * b0) (by omega)
 have t2 := Go.IntWalk.i64_in (a1 * b1) (by omega)
 have t3 := Go.IntWalk.i64_in (a2 * b2) (by omega)
 have t4 := Go.IntWalk.i64_in (a0 * b0 + a1 * b1) (by omega)
 have t5 := Go.IntWalk.i64_in (a0 * b0 + a1 * b1 + a2 * b2) (by omega)
 clear b00 b11 b22
 go_enter Try.func98, Try.ntmps98
 go_wp2_with fail
 go_ret
 exact ⟨ret_int hr.out, exE⟩
def spr (m : Met) (u c : Int) (s cp : Bool) : Int := if cp then c - goodC m s else badL m s - u
def lowN (p : List Int) : Nat → Int
 | 0 => 0
 | k + 1 => if nth p k < lowN p k then nth p k else lowN p k
def highN (p : List Int) : Nat → Int
 | 0 => 0
 | k + 1 => if highN p k < nth p k then nth p k else highN p k
def absI (x : Int) : Int := if x < 0 then -x else x
def outN (n : Nat) (t : List Nat) (p : List Int) : Nat → List Int
 | 0 => List.replicate n 0
 | k + 1 => (outN n t p k).set (t.getD k 0) (absI (nth p k))
def putL (n : Nat) (t : List Nat) (p : List Int) : List Int :=
 if (lowN p p.length < 0 ∧ 0 < highN p p.length) ∨ (lowN p p.length = 0 ∧ highN p p.length = 0) then [] else outN n t p p.length
def asI (t : List Nat) : List Int := t.map fun k : Nat => (k : Int)
def cnJ (n : Nat) (A C : Nat → Int) (i k : Nat) : Nat → List (List Int)
 | 0 => []
 | j + 1 => cnJ n A C i k j ++ [putL n [i, k, j] [A k * C j - C k * A j, A j * C i - C j * A i, A i * C k - C i * A k]]
def cnK (n : Nat) (A C : Nat → Int) (i : Nat) : Nat → List (List Int)
 | 0 => []
 | k + 1 => (cnK n A C i k ++ [putL n [i, k] [A k, -A i], putL n [i, k] [C k, -C i]]) ++ cnJ n A C i k k
def cnI (n : Nat) (A C : Nat → Int) : Nat → List (List Int)
 | 0 => []
 | i + 1 => (cnI n A C i ++ [putL n [i] [1]]) ++ cnK n A C i i
def Prt (x : List Int) : Prop := ∀ j, 0 ≤ nth x j ∧ nth x j ≤ 10000000
theorem nth_set_ (l : List Int) (i j : Nat) (y : Int) : nth (l.set i y) j = if i = j ∧ i < l.length then y else nth l j := by
 simp only [nth, List.getD_eq_getElem?_getD, List.getElem?_set]
 by_cases h : i = j
 ·subst h
  by_cases g : i < l.length
  ·simp [g]
  ·simp [g, List.getElem?_eq_none (Nat.le_of_not_lt g)]
 ·simp [h]
theorem mul_bd3 {a b : Int} (ha : -1000 ≤ a ∧ a ≤ 1000) (hb : -1000 ≤ b ∧ b ≤ 1000) : -1000000 ≤ a * b ∧ a * b ≤ 1000000 := by
 rcases Int.le_total 0 a with h | h
 ·have h1 := Int.mul_le_mul_of_nonneg_left hb.1 h
  have h2 := Int.mul_le_mul_of_nonneg_left hb.2 h
  omega
 ·have h1 := Int.mul_le_mul_of_nonpos_left h hb.1
  have h2 := Int.mul_le_mul_of_nonpos_left h hb.2
  omega
def exA (l : List Met) (u c : Int) (s : Bool) (i : Nat) : Int := spr (mtl l i) u c s false
def exC (l : List Met) (u c : Int) (s : Bool) (i : Nat) : Int := spr (mtl l i) u c s true
def cnd (l : List Met) (u c : Int) (s : Bool) : List (List Int) := cnI l.length (exA l u c s) (exC l u c s) l.length
def costE (l : List Met) (x : List Int) : Int := if ¬ chkM l = 0 then chkM l else mixE x l.length
def costNE (l : List Met) (x : List Int) : Int := if costE l x = 0 then ratN (costN l x l.length) (psum x) else 0
def costDE (l : List Met) (x : List Int) : Int := if costE l x = 0 then ratD (costN l x l.length) (psum x) else 0
theorem cost_1 {l : List Met} {x : List Int} (g : ¬ chkM l = 0) : costE l x = chkM l ∧ costNE l x = 0 ∧ costDE l x = 0 := by
 have h : costE l x = chkM l := if_pos g
 exact ⟨h, if_neg (by rw [h]; exact g), if_neg (by rw [h]; exact g)⟩
theorem cost_2 {l : List Met} {x : List Int} (g : chkM l = 0) (g2 : ¬ mixE x l.length = 0) : costE l x = mixE x l.length ∧ costNE l x = 0 ∧ costDE l x = 0 := by
 have h : costE l x = mixE x l.length := if_neg (by simp [g])
 exact ⟨h, if_neg (by rw [h]; exact g2), if_neg (by rw [h]; exact g2)⟩
theorem cost_3 {l : List Met} {x : List Int} (g : chkM l = 0) (g2 : mixE x l.length = 0) : costE l x = 0 ∧ costNE l x = ratN (costN l x l.length) (psum x) ∧ costDE l x = ratD (costN l x l.length) (psum x) := by
 have h : costE l x = 0 := by unfold costE; rw [if_neg (by simp [g])]; exact g2
 exact ⟨h, if_pos h, if_pos h⟩
theorem vldx_bd {x : List Int} {n : Nat} (v : VldX x n) : Prt x := fun i => ⟨v.nn i, by have := v.le i; omega⟩
def desE (l : List Met) (u c : Int) (s : Bool) (x : List Int) : Int := if ¬ chkB l u c = 0 then chkB l u c else if ¬ mixE x l.length = 0 then mixE x l.length else if isG l u c s x = true then 0 else 17
theorem chkB_ok {l : List Met} {u c : Int} (h : chkB l u c = 0) : VldM l ∧ (0 ≤ u ∧ u ≤ 1000) ∧ (0 ≤ c ∧ c ≤ 1000) := by
 unfold chkB at h
 by_cases g : chkM l = 0
 ·rw [if_pos g] at h
  refine ⟨chkM_ok.1 g, ?_⟩
  unfold chkU at h
  by_cases g2 : (inR 0 1000 u && inR 0 1000 c) = true
  ·simp [inR] at g2; omega
  ·rw [if_neg g2] at h; cases h
 ·rw [if_neg g] at h; exact absurd h g
set_option maxHeartbeats 4000000 in
theorem deservesR_any (l : List Met) (q : FitM l) (hl : l.length ≤ 1000) (a : Option Addr) (cap : Nat) (u c : Int) (s : Bool) (x : List Int) (hq : ∀ i, I64 (nth x i)) (hlx : x.length ≤ 1000) (a2 : Option Addr) (c2 : Nat) (w : World) (hM : Mts w a l) (hI : Ints w a2 x) :
 Calls Try.prog 28 #[.slice a l.length cap, (.agg #[.int .i64 (u), .int .i64 (c)]), .bool s, .slice a2 x.length c2] w fun e w' => e = .returned (.int .i64 (desE l u c s x)) ∧ Ext w w' := by
 replace hM := hid hM
 replace hI := hid hI
 have hc1 := hid (fun W hW => both_any l q hl a cap u c W hW)
 have hc2 := hid (fun W hW => mixtureErrorR_any a cap x l.length hl hq hlx a2 c2 W hW)
 clear q hq
 go_enter Try.func28, Try.ntmps28
 go_wp2_with fail
 refine name_c (fun w0 hw0 => ?_)
 have X := hid (show Ext w w0 by rw [hw0]; exact exE)
 have x : Ext w w0 := X.out
 replace hM := hid (hM.out.ext x)
 replace hI := hid (hI.out.ext x)
 have tu0 := hid (show w0.cell? ⟨w.heap.size, 0, none⟩ = some (.int .i64 u) by rw [hw0]; simp [go_sem])
 have tu1 := hid (show w0.cell? ⟨w.heap.size, 1, none⟩ = some (.int .i64 c) by rw [hw0]; simp [go_sem])
 clear x hw0
 obtain ⟨B0, hB0⟩ : ∃ B, w.heap.size = B := ⟨_, rfl⟩
 rw [hB0] at tu0 tu1 ⊢
 have hBB : w.heap.size ≤ B0 := by omega
 replace hB0 := hid hB0
 refine (hc1.out _ (hM.out.ext (show Ext w0 _ from exE))).mono ?_; rintro e u1 ⟨rfl, hE⟩
 have x : Ext w0 u1 := exE
 replace hM := hid (hM.out.ext x)
 replace hI := hid (hI.out.ext x)
 replace tu0 := hid (x.cell tu0.out)
 replace tu1 := hid (x.cell tu1.out)
 replace X := hid (X.out.trans x)
 clear x hE
 by_cases g : ¬ chkB l u c = 0
 ·have g1 : (chkB l u c != 0) = true := by simpa using g
  replace g := hid g
  have r_tu0 := tu0.out
  have l_tu0 := cell_lt r_tu0
  dsimp only at l_tu0
  have r_tu1 := tu1.out
  have l_tu1 := cell_lt r_tu1
  dsimp only at l_tu1
  go_wp2_with fail
  refine (hc1.out _ (hM.out.ext (show Ext u1 _ from exE))).mono ?_; rintro e u2 ⟨rfl, hE⟩
  have x : Ext u1 u2 := exE
  clear r_tu0 l_tu0 r_tu1 l_tu1
  replace hM := hid (hM.out.ext x)
  replace hI := hid (hI.out.ext x)
  replace tu0 := hid (x.cell tu0.out)
  replace tu1 := hid (x.cell tu1.out)
  replace X := hid (X.out.trans x)
  clear x hE
  have r_tu0 := tu0.out
  have l_tu0 := cell_lt r_tu0
  dsimp only at l_tu0
  have r_tu1 := tu1.out
  have l_tu1 := cell_lt r_tu1
  dsimp only at l_tu1
  go_wp2_with fail
  refine bodyPost_ret (v := .int .i64 (chkB l u c)) ?_ rfl ?_
  ·simp [results, Try.results28, go_sem, *]
  ·exact ⟨by rw [show desE l u c s x = chkB l u c from if_pos g.out], by have := X.out; exact exE⟩
 replace g := hid (Decidable.not_not.1 g)
 rw [g.out]
 have r_tu0 := tu0.out
 have l_tu0 := cell_lt r_tu0
 dsimp only at l_tu0
 have r_tu1 := tu1.out
 have l_tu1 := cell_lt r_tu1
 dsimp only at l_tu1
 go_wp2_with fail
 refine (hc2.out _ (hI.out.ext (show Ext u1 _ from exE))).mono ?_; rintro e u3 ⟨rfl, hE⟩
 have x : Ext u1 u3 := exE
 clear r_tu0 l_tu0 r_tu1 l_tu1
 replace hM := hid (hM.out.ext x)
 replace hI := hid (hI.out.ext x)
 replace tu0 := hid (x.cell tu0.out)
 replace tu1 := hid (x.cell tu1.out)
 replace X := hid (X.out.trans x)
 clear x hE
 by_cases g2 : ¬ mixE x l.length = 0
 ·have g21 : (mixE x l.length != 0) = true := by simpa using g2
  replace g2 := hid g2
  have r_tu0 := tu0.out
  have l_tu0 := cell_lt r_tu0
  dsimp only at l_tu0
  have r_tu1 := tu1.out
  have l_tu1 := cell_lt r_tu1
  dsimp only at l_tu1
  go_wp2_with fail
  refine (hc2.out _ (hI.out.ext (show Ext u3 _ from exE))).mono ?_; rintro e u4 ⟨rfl, hE⟩
  have x : Ext u3 u4 := exE
  clear r_tu0 l_tu0 r_tu1 l_tu1
  replace hM := hid (hM.out.ext x)
  replace hI := hid (hI.out.ext x)
  replace tu0 := hid (x.cell tu0.out)
  replace tu1 := hid (x.cell tu1.out)
  replace X := hid (X.out.trans x)
  clear x hE
  have r_tu0 := tu0.out
  have l_tu0 := cell_lt r_tu0
  dsimp only at l_tu0
  have r_tu1 := tu1.out
  have l_tu1 := cell_lt r_tu1
  dsimp only at l_tu1
  go_wp2_with fail
  refine bodyPost_ret (v := .int .i64 (mixE x l.length)) ?_ rfl ?_
  ·simp [results, Try.results28, go_sem, *]
  ·exact ⟨by rw [show desE l u c s x = mixE x l.length from (if_neg (by simp [g.out])).trans (if_pos g2.out)], by have := X.out; exact exE⟩
 replace g2 := hid (Decidable.not_not.1 g2)
 rw [g2.out]
 obtain ⟨v, hu, hcc⟩ := chkB_ok g.out
 have vx := mixE_ok.1 g2.out
 have hc3 := hid (fun W h1 h2 => isGoodR_any l v u c hu hcc s x (vldx_bd vx) vx.len a cap a2 c2 W h1 h2)
 have hp := hid (show desE l u c s x = if isG l u c s x = true then 0 else 17 from (if_neg (by simp [g.out])).trans (if_neg (by simp [g2.out])))
 clear v vx hu hcc
 have r_tu0 := tu0.out
 have l_tu0 := cell_lt r_tu0
 dsimp only at l_tu0
 have r_tu1 := tu1.out
 have l_tu1 := cell_lt r_tu1
 dsimp only at l_tu1
 go_wp2_with fail
 refine (hc3.out _ (hM.out.ext (show Ext u3 _ from exE)) (hI.out.ext (show Ext u3 _ from exE))).mono ?_; rintro e u5 ⟨rfl, hE⟩
 have x : Ext u3 u5 := exE
 clear r_tu0 l_tu0 r_tu1 l_tu1
 replace hM := hid (hM.out.ext x)
 replace hI := hid (hI.out.ext x)
 replace tu0 := hid (x.cell tu0.out)
 replace tu1 := hid (x.cell tu1.out)
 replace X := hid (X.out.trans x)
 clear x hE
 cases hG : isG l u c s x with
 | true =>
  rw [hG, if_pos rfl] at hp
  replace hG := hid hG
  go_wp2_with fail
  go_ret
  exact ⟨ret_int hp.out.symm, by have := X.out; exact exE⟩
 | false =>
  rw [hG, if_neg (by decide)] at hp
  replace hG := hid hG
  go_wp2_with fail
  go_ret
  exact ⟨ret_int hp.out.symm, by have := X.out; exact exE⟩
def isPf (b le co : Int) : Bool := decide (-68719476736 ≤ b) && (decide (b ≤ 68719476736) && (decide (0 ≤ le) && (decide (le ≤ 68719476736) && (decide (0 ≤ co) && decide (co ≤ 68719476736)))))
theorem isPf_iff {b le co : Int} : isPf b le co = true ↔ (-68719476736 ≤ b ∧ b ≤ 68719476736) ∧ (0 ≤ le ∧ le ≤ 68719476736) ∧ (0 ≤ co ∧ co ≤ 68719476736) := by
 unfold isPf
 simp only [Bool.and_eq_true, decide_eq_true_eq]
 constructor
 ·rintro ⟨a, b, c, d, e, f⟩; exact ⟨⟨a, b⟩, ⟨c, d⟩, e, f⟩
 ·rintro ⟨⟨a, b⟩, ⟨c, d⟩, e, f⟩; exact ⟨a, b, c, d, e, f⟩
set_option maxHeartbeats 4000000 in
theorem isProofR_any (d b le co : Int) (w : World) : Calls Try.prog 75 #[(.agg #[.int .i64 (d), .int .i64 (b), .int .i64 (le), .int .i64 (co)])] w fun e w' => e = .returned (.bool (isPf b le co)) ∧ Ext w w' := by
 by_cases g0 : ¬ (-68719476736 ≤ b)
 ·have H := hid (show isPf b le co = false from by rw [Bool.eq_false_iff]; intro h; exact g0 (by have := isPf_iff.1 h; omega))
  go_enter Try.func75, Try.ntmps75
  go_wp2_with fail
  go_ret
  exact ⟨ret_bool H.out.symm, exE⟩
 replace g0 := Decidable.not_not.1 g0
 by_cases g1 : ¬ (b ≤ 68719476736)
 ·have H := hid (show isPf b le co = false from by rw [Bool.eq_false_iff]; intro h; exact g1 (by have := isPf_iff.1 h; omega))
  go_enter Try.func75, Try.ntmps75
  go_wp2_with fail
  go_ret
  exact ⟨ret_bool H.out.symm, exE⟩
 replace g1 := Decidable.not_not.1 g1
 by_cases g2 : ¬ (0 ≤ le)
 ·have H := hid (show isPf b le co = false from by rw [Bool.eq_false_iff]; intro h; exact g2 (by have := isPf_iff.1 h; omega))
  go_enter Try.func75, Try.ntmps75
  go_wp2_with fail
  go_ret
  exact ⟨ret_bool H.out.symm, exE⟩
 replace g2 := Decidable.not_not.1 g2
 by_cases g3 : ¬ (le ≤ 68719476736)
 ·have H := hid (show isPf b le co = false from by rw [Bool.eq_false_iff]; intro h; exact g3 (by have := isPf_iff.1 h; omega))
  go_enter Try.func75, Try.ntmps75
  go_wp2_with fail
  go_ret
  exact ⟨ret_bool H.out.symm, exE⟩
 replace g3 := Decidable.not_not.1 g3
 by_cases g4 : ¬ (0 ≤ co)
 ·have H := hid (show isPf b le co = false from by rw [Bool.eq_false_iff]; intro h; exact g4 (by have := isPf_iff.1 h; omega))
  go_enter Try.func75, Try.ntmps75
  go_wp2_with fail
  go_ret
  exact ⟨ret_bool H.out.symm, exE⟩
 replace g4 := Decidable.not_not.1 g4
 by_cases g5 : ¬ (co ≤ 68719476736)
 ·have H := hid (show isPf b le co = false from by rw [Bool.eq_false_iff]; intro h; exact g5 (by have := isPf_iff.1 h; omega))
  go_enter Try.func75, Try.ntmps75
  go_wp2_with fail
  go_ret
  exact ⟨ret_bool H.out.symm, exE⟩
 replace g5 := Decidable.not_not.1 g5
 have H := hid (show isPf b le co = true from isPf_iff.2 ⟨⟨g0, g1⟩, ⟨g2, g3⟩, g4, g5⟩)
 go_enter Try.func75, Try.ntmps75
 go_wp2_with fail
 go_ret
 exact ⟨ret_bool H.out.symm, exE⟩
def valP (u c b le co : Int) : Int := b - le * u + co * c
theorem mulP_bd {x y : Int} (hx : 0 ≤ x ∧ x ≤ 68719476736) (hy : 0 ≤ y ∧ y ≤ 1000) : 0 ≤ x * y ∧ x * y ≤ 68719476736000 := by
 refine ⟨Int.mul_nonneg hx.1 hy.1, ?_⟩
 have h1 := Int.mul_le_mul_of_nonneg_left hy.2 hx.1
 omega
set_option maxHeartbeats 4000000 in
theorem valueOfR_any (u c d b le co : Int) (hu : 0 ≤ u ∧ u ≤ 1000) (hc : 0 ≤ c ∧ c ≤ 1000) (hp : isPf b le co = true) (w : World) : Calls Try.prog 77 #[(.agg #[.int .i64 (u), .int .i64 (c)]), (.agg #[.int .i64 (d), .int .i64 (b), .int .i64 (le), .int .i64 (co)])] w fun e w' => e = .returned (.int .i64 (valP u c b le co)) ∧ Ext w w' := by
 obtain ⟨h1, h2, h3⟩ := isPf_iff.1 hp
 have y1 := mulP_bd h2 hu
 have y2 := mulP_bd h3 hc
 have t1 := Go.IntWalk.i64_in (le * u) (by omega)
 have t2 := Go.IntWalk.i64_in (co * c) (by omega)
 have t3 := Go.IntWalk.i64_in (b - le * u) (by omega)
 have t4 := Go.IntWalk.i64_in (b - le * u + co * c) (by omega)
 clear h1 h2 h3 y1 y2 hp hu hc
 go_enter Try.func77, Try.ntmps77
 go_wp2_with fail
 go_ret
 exact ⟨rfl, exE⟩
theorem valP_bd {u c b le co : Int} (hu : 0 ≤ u ∧ u ≤ 1000) (hc : 0 ≤ c ∧ c ≤ 1000) (hp : isPf b le co = true) : -1000000000000000 ≤ valP u c b le co ∧ valP u c b le co ≤ 1000000000000000 := by
 obtain ⟨h1, h2, h3⟩ := isPf_iff.1 hp
 have y1 := mulP_bd h2 hu
 have y2 := mulP_bd h3 hc
 unfold valP
 omega
def hldM (m : Met) (s : Bool) (d b le co : Int) : Bool := decide (b - le * badL m s + co * goodC m s ≤ d * m.p)
def hldN (l : List Met) (s : Bool) (d b le co : Int) : Nat → Bool
 | 0 => true
 | k + 1 => hldN l s d b le co k && hldM (mtl l k) s d b le co
def hld (l : List Met) (s : Bool) (d b le co : Int) : Bool := hldN l s d b le co l.length
theorem hldN_iff {l : List Met} {s : Bool} {d b le co : Int} : ∀ {n : Nat}, hldN l s d b le co n = true ↔ ∀ k, k < n → hldM (mtl l k) s d b le co = true
 | 0 => by simp [hldN]
 | n + 1 => by
  simp only [hldN, Bool.and_eq_true, hldN_iff]
  constructor
  ·rintro ⟨h1, h2⟩ k hk
   rcases Nat.lt_or_ge k n with g | g
   ·exact h1 k g
   ·rw [show k = n by omega]; exact h2
  ·intro h
   exact ⟨fun k hk => h k (by omega), h n (by omega)⟩
set_option maxHeartbeats 4000000 in
theorem holdsR_any (l : List Met) (v : VldM l) (s : Bool) (d b le co : Int) (hd : 0 ≤ d ∧ d ≤ 1073741824) (hp : isPf b le co = true) (a : Option Addr) (cap : Nat) (w : World) (hM : Mts w a l) :
 Calls Try.prog 76 #[.slice a l.length cap, .bool s, (.agg #[.int .i64 (d), .int .i64 (b), .int .i64 (le), .int .i64 (co)])] w fun e w' => e = .returned (.bool (hld l s d b le co)) ∧ Ext w w' := by
 have n1 := v.n1; have n6 := v.n6
 obtain ⟨h1, h2, h3⟩ := isPf_iff.1 hp
 have hq1 := hid (fun k => mulP_bd h2 (badL_bd v s k))
 have hq2 := hid (fun k => mulP_bd h3 (goodC_bd v s k))
 have hq3 : Hid (∀ k, 0 ≤ d * (mtl l k).p ∧ d * (mtl l k).p ≤ 1073741824000) := hid fun k => by
  have hv := v.pr k
  refine ⟨Int.mul_nonneg hd.1 hv.1, ?_⟩
  have h1 := Int.mul_le_mul_of_nonneg_left hv.2 hd.1
  omega
 have hno : Hid (∀ k, k < l.length → hldM (mtl l k) s d b le co = false → hld l s d b le co = false) := hid fun k hk g => by
  rw [Bool.eq_false_iff]; intro h
  have := hldN_iff.1 h k hk
  rw [g] at this; cases this
 have hyes : Hid ((∀ k, k < l.length → hldM (mtl l k) s d b le co = true) → hld l s d b le co = true) := hid fun h => hldN_iff.2 h
 obtain ⟨bb, off, rfl, hbl, hc1⟩ := hM.at (by omega)
 have HC := hid hc1
 obtain ⟨R, hR⟩ : ∃ R, hld l s d b le co = R := ⟨_, rfl⟩
 rw [hR] at hno hyes ⊢
 obtain ⟨N, hN⟩ : ∃ N, l.length = N := ⟨_, rfl⟩
 rw [hN] at HC n1 n6 hno hyes ⊢
 clear hM hc1 hR v h2 h3 hd hp
 replace hN := hid hN
 replace hbl := hid hbl
 go_enter Try.func76, Try.ntmps76
 go_wp2_with fail
 refine name_wp (fun w0 hw0 => ?_)
 have x0 : Ext w w0 := by rw [hw0]; exact exE
 have R0 := hid (show w0.cell? ⟨w.heap.size, 0, none⟩ = some (.int .i64 d) by rw [hw0]; simp [go_sem])
 have R1 := hid (show w0.cell? ⟨w.heap.size, 1, none⟩ = some (.int .i64 b) by rw [hw0]; simp [go_sem])
 have R2 := hid (show w0.cell? ⟨w.heap.size, 2, none⟩ = some (.int .i64 le) by rw [hw0]; simp [go_sem])
 have R3 := hid (show w0.cell? ⟨w.heap.size, 3, none⟩ = some (.int .i64 co) by rw [hw0]; simp [go_sem])
 clear hw0
 replace x0 := hid x0
 obtain ⟨T, hT⟩ : ∃ T, w.heap.size = T := ⟨_, rfl⟩
 rw [hT] at R0 R1 R2 R3 ⊢
 replace hT := hid hT
 go_loopw [7] (fun i wr => ∃ k : Nat, k ≤ N ∧ i = .int .i64 k ∧ Hid (∀ j, j < k → hldM (mtl l j) s d b le co = true) ∧ Hid (Ext w0 wr)) (fun i _ => (N - intOf i).toNat)
 case atStart => exact ⟨0, by omega, rfl, hid (fun j hj => absurd hj (by omega)), hid (Ext.refl _)⟩
 case round =>
  obtain ⟨k, hk, rfl, hj, hx⟩ := hrel
  by_cases hkl : k < N
  ·obtain ⟨j0, j1, j2, j3, j4⟩ := (HC.out k hkl).ext (x0.out.trans hx.out)
   have cA := hid (fun W => badR_any (mtl l k) s W)
   have cB := hid (fun W => goodR_any (mtl l k) s W)
   have q1 := hq1.out k
   have q2 := hq2.out k
   have q3 := hq3.out k
   have hM1 : Hid (hldM (mtl l k) s d b le co = decide (b - le * badL (mtl l k) s + co * goodC (mtl l k) s ≤ d * (mtl l k).p)) := hid rfl
   obtain ⟨m0, hm0⟩ : ∃ z, (mtl l k).p = z := ⟨_, rfl⟩
   obtain ⟨m1, hm1⟩ : ∃ z, (mtl l k).ll = z := ⟨_, rfl⟩
   obtain ⟨m2, hm2⟩ : ∃ z, (mtl l k).lh = z := ⟨_, rfl⟩
   obtain ⟨m3, hm3⟩ : ∃ z, (mtl l k).cl = z := ⟨_, rfl⟩
   obtain ⟨m4, hm4⟩ : ∃ z, (mtl l k).ch = z := ⟨_, rfl⟩
   obtain ⟨p1, hp1⟩ : ∃ z, badL (mtl l k) s = z := ⟨_, rfl⟩
   obtain ⟨p2, hp2⟩ : ∃ z, goodC (mtl l k) s = z := ⟨_, rfl⟩
   rw [hp1] at cA q1 hM1
   rw [hp2] at cB q2 hM1
   rw [hm0] at j0 cA cB q3 hM1
   rw [hm1] at j1 cA cB
   rw [hm2] at j2 cA cB
   rw [hm3] at j3 cA cB
   rw [hm4] at j4 cA cB
   clear hm0 hm1 hm2 hm3 hm4 hp1 hp2
   have r0 := hx.out.cell R0.out
   have r1 := hx.out.cell R1.out
   have r2 := hx.out.cell R2.out
   have r3 := hx.out.cell R3.out
   have t1 := Go.IntWalk.i64_in (le * p1) (by omega)
   have t2 := Go.IntWalk.i64_in (co * p2) (by omega)
   have t3 := Go.IntWalk.i64_in (b - le * p1) (by omega)
   have t4 := Go.IntWalk.i64_in (b - le * p1 + co * p2) (by omega)
   have t5 := Go.IntWalk.i64_in (d * m0) (by omega)
   have t6 := Go.IntWalk.i64_in ((k : Int) + 1) (by omega)
   have hI1 : (k : Int) < (N : Int) := by omega
   clear q1 q2 q3
   replace t6 := hid t6
   cases hG : decide (d * m0 < b - le * p1 + co * p2) with
   | true =>
    have hres := hid (hno.out k hkl (by rw [hM1.out, decide_eq_false_iff_not]; have := of_decide_eq_true hG; omega))
    replace hG := hid hG
    have hG2 := hG.out
    go_wp2_with fail
    refine name_act (fun A_ hA_ => ?_)
    obtain ⟨Q2, hQ2⟩ : ∃ Q2 : Exit → Act → World → Prop, Q2 = fun e a' w' => e = .normal ∧ ∃ (v0_ v2_ v4_ v5_ v6_ v8_ v12_ v14_ v15_ v16_ v18_ v22_ v24_ v25_ v26_ v27_ : Value), a' = (((((((((((((((((((((((((((((((A_.put (some 14) (v0_)).put (some 15) (.int .i64 b)).put (some 16) (v2_)).put (some 17) (.int .i64 le)).put (some 18) (v4_)).put (some 19) (v5_)).put (some 20) (v6_)).put (some 21) (.agg #[.int .i64 m0, .int .i64 m1, .int .i64 m2, .int .i64 m3, .int .i64 m4])).put (some 22) (v8_)).put (some 23) (.int .i64 p1)).put (some 24) (.int .i64 (le * p1))).put (some 25) (.int .i64 (b - le * p1))).put (some 26) (v12_)).put (some 27) (.int .i64 co)).put (some 28) (v14_)).put (some 29) (v15_)).put (some 30) (v16_)).put (some 31) (.agg #[.int .i64 m0, .int .i64 m1, .int .i64 m2, .int .i64 m3, .int .i64 m4])).put (some 32) (v18_)).put (some 33) (.int .i64 p2)).put (some 34) (.int .i64 (co * p2))).put (some 35) (.int .i64 (b - le * p1 + co * p2))).put (some 36) (v22_)).put (some 37) (.int .i64 d)).put (some 38) (v24_)).put (some 39) (v25_)).put (some 40) (v26_)).put (some 41) (v27_)).put (some 42) (.int .i64 m0)).put (some 43) (.int .i64 (d * m0))).put (some 44) (.bool true)) ∧ Ext wr w' := ⟨_, rfl⟩
    have hpan : ∀ c a a' w w', Q2 (.panic c) a w → Q2 (.panic c) a' w' := by rw [hQ2]; rintro c a a' w w' ⟨h, _⟩; cases h
    replace hQ2 := hid hQ2
    refine wp_mono (Q := Q2) ?_ ?_
    ·subst hA_
     have hRD_ := hid (fun w' (x_ : Ext wr w') => And.intro (Ext.cell x_ j0) (And.intro (Ext.cell x_ j1) (And.intro (Ext.cell x_ j2) (And.intro (Ext.cell x_ j3) (And.intro (Ext.cell x_ j4) (And.intro (Ext.cell x_ r0) (And.intro (Ext.cell x_ r1) (And.intro (Ext.cell x_ r2) (Ext.cell x_ r3)))))))))
     refine wp_region_held_drew (S := fun w' => Ext wr w') (by kernel_rfl) exE fun hHeld => ?_
     refine name_any (fun W0 hW => ?_)
     have s0 : Ext wr W0 := by rw [hW]; exact hHeld
     clear hW hHeld
     refine tkB (i := 0) (v := ?_) rfl hpan ?yl ?_
     case yl => (intro w hSw; have k_ := hRD_.out w hSw; go_simp); with_reducible rfl
     try simp only [sxA, sxB, sxC, Act.put, sxD, sxE, sxF]
     refine tkB (i := 1) (v := ?_) rfl hpan ?yl ?_
     case yl => (intro w hSw; have k_ := hRD_.out w hSw; go_simp); with_reducible rfl
     try simp only [sxA, sxB, sxC, Act.put, sxD, sxE, sxF]
     refine tkB (i := 2) (v := ?_) rfl hpan ?yl ?_
     case yl => (intro w hSw; have k_ := hRD_.out w hSw; go_simp); with_reducible rfl
     try simp only [sxA, sxB, sxC, Act.put, sxD, sxE, sxF]
     refine tkB (i := 3) (v := ?_) rfl hpan ?yl ?_
     case yl => (intro w hSw; have k_ := hRD_.out w hSw; go_simp); with_reducible rfl
     try simp only [sxA, sxB, sxC, Act.put, sxD, sxE, sxF]
     refine tkB (i := 4) (v := ?_) rfl hpan ?yl ?_
     case yl => (intro w hSw; have k_ := hRD_.out w hSw; go_simp); with_reducible rfl
     try simp only [sxA, sxB, sxC, Act.put, sxD, sxE, sxF]
     refine tkB (i := 5) (v := ?_) rfl hpan ?yl ?_
     case yl => (intro w hSw; have k_ := hRD_.out w hSw; go_simp); with_reducible rfl
     try simp only [sxA, sxB, sxC, Act.put, sxD, sxE, sxF]
     refine tkB (i := 6) (v := ?_) rfl hpan ?yl ?_
     case yl => (intro w hSw; have k_ := hRD_.out w hSw; go_simp); with_reducible rfl
     try simp only [sxA, sxB, sxC, Act.put, sxD, sxE, sxF]
     refine tkB (i := 7) (v := ?_) rfl hpan ?yl ?_
     case yl => (intro w hSw; have k_ := hRD_.out w hSw; go_simp); with_reducible rfl
     try simp only [sxA, sxB, sxC, Act.put, sxD, sxE, sxF]
     refine tkB (i := 8) (v := ?_) rfl hpan ?yl ?_
     case yl => (intro w hSw; have k_ := hRD_.out w hSw; go_simp); with_reducible rfl
     try simp only [sxA, sxB, sxC, Act.put, sxD, sxE, sxF]
     refine tkB (i := 12) (v := ?_) rfl hpan ?yl ?_
     case yl => (intro w hSw; have k_ := hRD_.out w hSw; go_simp); with_reducible rfl
     try simp only [sxA, sxB, sxC, Act.put, sxD, sxE, sxF]
     refine tkB (i := 13) (v := ?_) rfl hpan ?yl ?_
     case yl => (intro w hSw; have k_ := hRD_.out w hSw; go_simp); with_reducible rfl
     try simp only [sxA, sxB, sxC, Act.put, sxD, sxE, sxF]
     refine tkB (i := 14) (v := ?_) rfl hpan ?yl ?_
     case yl => (intro w hSw; have k_ := hRD_.out w hSw; go_simp); with_reducible rfl
     try simp only [sxA, sxB, sxC, Act.put, sxD, sxE, sxF]
     refine tkB (i := 15) (v := ?_) rfl hpan ?yl ?_
     case yl => (intro w hSw; have k_ := hRD_.out w hSw; go_simp); with_reducible rfl
     try simp only [sxA, sxB, sxC, Act.put, sxD, sxE, sxF]
     refine tkB (i := 16) (v := ?_) rfl hpan ?yl ?_
     case yl => (intro w hSw; have k_ := hRD_.out w hSw; go_simp); with_reducible rfl
     try simp only [sxA, sxB, sxC, Act.put, sxD, sxE, sxF]
     refine tkB (i := 17) (v := ?_) rfl hpan ?yl ?_
     case yl => (intro w hSw; have k_ := hRD_.out w hSw; go_simp); with_reducible rfl
     try simp only [sxA, sxB, sxC, Act.put, sxD, sxE, sxF]
     refine tkB (i := 18) (v := ?_) rfl hpan ?yl ?_
     case yl => (intro w hSw; have k_ := hRD_.out w hSw; go_simp); with_reducible rfl
     try simp only [sxA, sxB, sxC, Act.put, sxD, sxE, sxF]
     refine tkB (i := 22) (v := ?_) rfl hpan ?yl ?_
     case yl => (intro w hSw; have k_ := hRD_.out w hSw; go_simp); with_reducible rfl
     try simp only [sxA, sxB, sxC, Act.put, sxD, sxE, sxF]
     refine tkB (i := 23) (v := ?_) rfl hpan ?yl ?_
     case yl => (intro w hSw; have k_ := hRD_.out w hSw; go_simp); with_reducible rfl
     try simp only [sxA, sxB, sxC, Act.put, sxD, sxE, sxF]
     refine tkB (i := 24) (v := ?_) rfl hpan ?yl ?_
     case yl => (intro w hSw; have k_ := hRD_.out w hSw; go_simp); with_reducible rfl
     try simp only [sxA, sxB, sxC, Act.put, sxD, sxE, sxF]
     refine tkB (i := 25) (v := ?_) rfl hpan ?yl ?_
     case yl => (intro w hSw; have k_ := hRD_.out w hSw; go_simp); with_reducible rfl
     try simp only [sxA, sxB, sxC, Act.put, sxD, sxE, sxF]
     refine tkB (i := 26) (v := ?_) rfl hpan ?yl ?_
     case yl => (intro w hSw; have k_ := hRD_.out w hSw; go_simp); with_reducible rfl
     try simp only [sxA, sxB, sxC, Act.put, sxD, sxE, sxF]
     refine tkB (i := 27) (v := ?_) rfl hpan ?yl ?_
     case yl => (intro w hSw; have k_ := hRD_.out w hSw; go_simp); with_reducible rfl
     try simp only [sxA, sxB, sxC, Act.put, sxD, sxE, sxF]
     refine tkB (i := 28) (v := ?_) rfl hpan ?yl ?_
     case yl => (intro w hSw; have k_ := hRD_.out w hSw; go_simp); with_reducible rfl
     try simp only [sxA, sxB, sxC, Act.put, sxD, sxE, sxF]
     refine tkB (i := 29) (v := .int .i64 (d * m0)) rfl hpan ?yl ?_
     case yl => (intro w hSw; have k_ := hRD_.out w hSw; go_simp; first | done | with_reducible rfl | (simp only [t1, t2, t3, t4, t5, hG2]; done) | (simp [t1, t2, t3, t4, t5, hG2]; done))
     try simp only [sxA, sxB, sxC, Act.put, sxD, sxE, sxF]
     refine wpAnyH_ready (rs := [9]) (by kernel_rfl) (by simp) ?_
     refine AllReadyH.cons (o := _) rfl (fun K hK => ?_) AllReadyH.nil
     go_simp
     refine (cA.out _).mono ?_; rintro e W1 ⟨rfl, e1⟩
     have s1 := s0.trans e1
     refine hK.out _ _ s1 (fun _ => ?_)
     clear hK K
     (try simp only [sxA, sxB, sxC, Act.put, sxD, sxE, sxF])
     refine tkB (i := 10) (v := .int .i64 (le * p1)) rfl hpan ?yl ?_
     case yl => (intro w hSw; have k_ := hRD_.out w hSw; go_simp; first | done | with_reducible rfl | (simp only [t1, t2, t3, t4, t5, hG2]; done) | (simp [t1, t2, t3, t4, t5, hG2]; done))
     try simp only [sxA, sxB, sxC, Act.put, sxD, sxE, sxF]
     refine tkB (i := 11) (v := .int .i64 (b - le * p1)) rfl hpan ?yl ?_
     case yl => (intro w hSw; have k_ := hRD_.out w hSw; go_simp; first | done | with_reducible rfl | (simp only [t1, t2, t3, t4, t5, hG2]; done) | (simp [t1, t2, t3, t4, t5, hG2]; done))
     try simp only [sxA, sxB, sxC, Act.put, sxD, sxE, sxF]
     refine wpAnyH_ready (rs := [19]) (by kernel_rfl) (by simp) ?_
     refine AllReadyH.cons (o := _) rfl (fun K hK => ?_) AllReadyH.nil
     go_simp
     refine (cB.out _).mono ?_; rintro e W2 ⟨rfl, e2⟩
     have s2 := s1.trans e2
     refine hK.out _ _ s2 (fun _ => ?_)
     clear hK K
     (try simp only [sxA, sxB, sxC, Act.put, sxD, sxE, sxF])
     refine tkB (i := 20) (v := .int .i64 (co * p2)) rfl hpan ?yl ?_
     case yl => (intro w hSw; have k_ := hRD_.out w hSw; go_simp; first | done | with_reducible rfl | (simp only [t1, t2, t3, t4, t5, hG2]; done) | (simp [t1, t2, t3, t4, t5, hG2]; done))
     try simp only [sxA, sxB, sxC, Act.put, sxD, sxE, sxF]
     refine tkB (i := 21) (v := .int .i64 (b - le * p1 + co * p2)) rfl hpan ?yl ?_
     case yl => (intro w hSw; have k_ := hRD_.out w hSw; go_simp; first | done | with_reducible rfl | (simp only [t1, t2, t3, t4, t5, hG2]; done) | (simp [t1, t2, t3, t4, t5, hG2]; done))
     try simp only [sxA, sxB, sxC, Act.put, sxD, sxE, sxF]
     refine tkB (i := 30) (v := .bool true) rfl hpan ?yl ?_
     case yl => (intro w hSw; have k_ := hRD_.out w hSw; go_simp; first | done | with_reducible rfl | (simp only [t1, t2, t3, t4, t5, hG2]; done) | (simp [t1, t2, t3, t4, t5, hG2]; done))
     try simp only [sxA, sxB, sxC, Act.put, sxD, sxE, sxF]
     refine wpAnyH_done (by kernel_rfl) ?_ _
     try simp only [sxA, sxB, sxC, Act.put, sxD, sxE, sxF]
     rw [hQ2.out]
     refine ⟨rfl, ?u1_0_1, ?u1_1_1, ?u1_2_1, ?u1_3_1, ?u1_4_1, ?u1_5_1, ?u1_6_1, ?u1_7_1, ?u1_8_1, ?u1_9_1, ?u1_10_1, ?u1_11_1, ?u1_12_1, ?u1_13_1, ?u1_14_1, ?u1_15_1, ?eq1_1, s2⟩
     case eq1_1 => ((try simp only [sxA, sxB, sxC, Act.put, sxD, sxE, sxF]); first | done | with_reducible rfl | rfl)
    rw [hQ2.out]
    rintro e a' wa ⟨rfl, v0_, v2_, v4_, v5_, v6_, v8_, v12_, v14_, v15_, v16_, v18_, v22_, v24_, v25_, v26_, v27_, rfl, x⟩
    clear hQ2 hpan; clear Q2
    subst hA_
    simp only [sxA, sxB, sxC, Act.put, sxD, sxE, sxF]
    have xx := hid x
    clear x t1 t2 t3 t4 t5 j0 j1 j2 j3 j4 r0 r1 r2 r3 hG2
    go_wp2_with fail
    go_ret
    exact ⟨ret_bool hres.out.symm, x0.out.trans (hx.out.trans xx.out)⟩
   | false =>
    have hgo : Hid (∀ j, j < k + 1 → hldM (mtl l j) s d b le co = true) := hid fun j hj' => by
     rcases Nat.lt_or_ge j k with g | g
     ·exact hj.out j g
     ·rw [show j = k by omega, hM1.out, decide_eq_true_iff]; have := of_decide_eq_false hG; omega
    replace hG := hid hG
    have hG2 := hG.out
    go_wp2_with fail
    refine name_act (fun A_ hA_ => ?_)
    obtain ⟨Q2, hQ2⟩ : ∃ Q2 : Exit → Act → World → Prop, Q2 = fun e a' w' => e = .normal ∧ ∃ (v0_ v2_ v4_ v5_ v6_ v8_ v12_ v14_ v15_ v16_ v18_ v22_ v24_ v25_ v26_ v27_ : Value), a' = (((((((((((((((((((((((((((((((A_.put (some 14) (v0_)).put (some 15) (.int .i64 b)).put (some 16) (v2_)).put (some 17) (.int .i64 le)).put (some 18) (v4_)).put (some 19) (v5_)).put (some 20) (v6_)).put (some 21) (.agg #[.int .i64 m0, .int .i64 m1, .int .i64 m2, .int .i64 m3, .int .i64 m4])).put (some 22) (v8_)).put (some 23) (.int .i64 p1)).put (some 24) (.int .i64 (le * p1))).put (some 25) (.int .i64 (b - le * p1))).put (some 26) (v12_)).put (some 27) (.int .i64 co)).put (some 28) (v14_)).put (some 29) (v15_)).put (some 30) (v16_)).put (some 31) (.agg #[.int .i64 m0, .int .i64 m1, .int .i64 m2, .int .i64 m3, .int .i64 m4])).put (some 32) (v18_)).put (some 33) (.int .i64 p2)).put (some 34) (.int .i64 (co * p2))).put (some 35) (.int .i64 (b - le * p1 + co * p2))).put (some 36) (v22_)).put (some 37) (.int .i64 d)).put (some 38) (v24_)).put (some 39) (v25_)).put (some 40) (v26_)).put (some 41) (v27_)).put (some 42) (.int .i64 m0)).put (some 43) (.int .i64 (d * m0))).put (some 44) (.bool false)) ∧ Ext wr w' := ⟨_, rfl⟩
    have hpan : ∀ c a a' w w', Q2 (.panic c) a w → Q2 (.panic c) a' w' := by rw [hQ2]; rintro c a a' w w' ⟨h, _⟩; cases h
    replace hQ2 := hid hQ2
    refine wp_mono (Q := Q2) ?_ ?_
    ·subst hA_
     have hRD_ := hid (fun w' (x_ : Ext wr w') => And.intro (Ext.cell x_ j0) (And.intro (Ext.cell x_ j1) (And.intro (Ext.cell x_ j2) (And.intro (Ext.cell x_ j3) (And.intro (Ext.cell x_ j4) (And.intro (Ext.cell x_ r0) (And.intro (Ext.cell x_ r1) (And.intro (Ext.cell x_ r2) (Ext.cell x_ r3)))))))))
     refine wp_region_held_drew (S := fun w' => Ext wr w') (by kernel_rfl) exE fun hHeld => ?_
     refine name_any (fun W0 hW => ?_)
     have s0 : Ext wr W0 := by rw [hW]; exact hHeld
     clear hW hHeld
     refine tkB (i := 0) (v := ?_) rfl hpan ?yl ?_
     case yl => (intro w hSw; have k_ := hRD_.out w hSw; go_simp); with_reducible rfl
     try simp only [sxA, sxB, sxC, Act.put, sxD, sxE, sxF]
     refine tkB (i := 1) (v := ?_) rfl hpan ?yl ?_
     case yl => (intro w hSw; have k_ := hRD_.out w hSw; go_simp); with_reducible rfl
     try simp only [sxA, sxB, sxC, Act.put, sxD, sxE, sxF]
     refine tkB (i := 2) (v := ?_) rfl hpan ?yl ?_
     case yl => (intro w hSw; have k_ := hRD_.out w hSw; go_simp); with_reducible rfl
     try simp only [sxA, sxB, sxC, Act.put, sxD, sxE, sxF]
     refine tkB (i := 3) (v := ?_) rfl hpan ?yl ?_
     case yl => (intro w hSw; have k_ := hRD_.out w hSw; go_simp); with_reducible rfl
     try simp only [sxA, sxB, sxC, Act.put, sxD, sxE, sxF]
     refine tkB (i := 4) (v := ?_) rfl hpan ?yl ?_
     case yl => (intro w hSw; have k_ := hRD_.out w hSw; go_simp); with_reducible rfl
     try simp only [sxA, sxB, sxC, Act.put, sxD, sxE, sxF]
     refine tkB (i := 5) (v := ?_) rfl hpan ?yl ?_
     case yl => (intro w hSw; have k_ := hRD_.out w hSw; go_simp); with_reducible rfl
     try simp only [sxA, sxB, sxC, Act.put, sxD, sxE, sxF]
     refine tkB (i := 6) (v := ?_) rfl hpan ?yl ?_
     case yl => (intro w hSw; have k_ := hRD_.out w hSw; go_simp); with_reducible rfl
     try simp only [sxA, sxB, sxC, Act.put, sxD, sxE, sxF]
     refine tkB (i := 7) (v := ?_) rfl hpan ?yl ?_
     case yl => (intro w hSw; have k_ := hRD_.out w hSw; go_simp); with_reducible rfl
     try simp only [sxA, sxB, sxC, Act.put, sxD, sxE, sxF]
     refine tkB (i := 8) (v := ?_) rfl hpan ?yl ?_
     case yl => (intro w hSw; have k_ := hRD_.out w hSw; go_simp); with_reducible rfl
     try simp only [sxA, sxB, sxC, Act.put, sxD, sxE, sxF]
     refine tkB (i := 12) (v := ?_) rfl hpan ?yl ?_
     case yl => (intro w hSw; have k_ := hRD_.out w hSw; go_simp); with_reducible rfl
     try simp only [sxA, sxB, sxC, Act.put, sxD, sxE, sxF]
     refine tkB (i := 13) (v := ?_) rfl hpan ?yl ?_
     case yl => (intro w hSw; have k_ := hRD_.out w hSw; go_simp); with_reducible rfl
     try simp only [sxA, sxB, sxC, Act.put, sxD, sxE, sxF]
     refine tkB (i := 14) (v := ?_) rfl hpan ?yl ?_
     case yl => (intro w hSw; have k_ := hRD_.out w hSw; go_simp); with_reducible rfl
     try simp only [sxA, sxB, sxC, Act.put, sxD, sxE, sxF]
     refine tkB (i := 15) (v := ?_) rfl hpan ?yl ?_
     case yl => (intro w hSw; have k_ := hRD_.out w hSw; go_simp); with_reducible rfl
     try simp only [sxA, sxB, sxC, Act.put, sxD, sxE, sxF]
     refine tkB (i := 16) (v := ?_) rfl hpan ?yl ?_
     case yl => (intro w hSw; have k_ := hRD_.out w hSw; go_simp); with_reducible rfl
     try simp only [sxA, sxB, sxC, Act.put, sxD, sxE, sxF]
     refine tkB (i := 17) (v := ?_) rfl hpan ?yl ?_
     case yl => (intro w hSw; have k_ := hRD_.out w hSw; go_simp); with_reducible rfl
     try simp only [sxA, sxB, sxC, Act.put, sxD, sxE, sxF]
     refine tkB (i := 18) (v := ?_) rfl hpan ?yl ?_
     case yl => (intro w hSw; have k_ := hRD_.out w hSw; go_simp); with_reducible rfl
     try simp only [sxA, sxB, sxC, Act.put, sxD, sxE, sxF]
     refine tkB (i := 22) (v := ?_) rfl hpan ?yl ?_
     case yl => (intro w hSw; have k_ := hRD_.out w hSw; go_simp); with_reducible rfl
     try simp only [sxA, sxB, sxC, Act.put, sxD, sxE, sxF]
     refine tkB (i := 23) (v := ?_) rfl hpan ?yl ?_
     case yl => (intro w hSw; have k_ := hRD_.out w hSw; go_simp); with_reducible rfl
     try simp only [sxA, sxB, sxC, Act.put, sxD, sxE, sxF]
     refine tkB (i := 24) (v := ?_) rfl hpan ?yl ?_
     case yl => (intro w hSw; have k_ := hRD_.out w hSw; go_simp); with_reducible rfl
     try simp only [sxA, sxB, sxC, Act.put, sxD, sxE, sxF]
     refine tkB (i := 25) (v := ?_) rfl hpan ?yl ?_
     case yl => (intro w hSw; have k_ := hRD_.out w hSw; go_simp); with_reducible rfl
     try simp only [sxA, sxB, sxC, Act.put, sxD, sxE, sxF]
     refine tkB (i := 26) (v := ?_) rfl hpan ?yl ?_
     case yl => (intro w hSw; have k_ := hRD_.out w hSw; go_simp); with_reducible rfl
     try simp only [sxA, sxB, sxC, Act.put, sxD, sxE, sxF]
     refine tkB (i := 27) (v := ?_) rfl hpan ?yl ?_
     case yl => (intro w hSw; have k_ := hRD_.out w hSw; go_simp); with_reducible rfl
     try simp only [sxA, sxB, sxC, Act.put, sxD, sxE, sxF]
     refine tkB (i := 28) (v := ?_) rfl hpan ?yl ?_
     case yl => (intro w hSw; have k_ := hRD_.out w hSw; go_simp); with_reducible rfl
     try simp only [sxA, sxB, sxC, Act.put, sxD, sxE, sxF]
     refine tkB (i := 29) (v := .int .i64 (d * m0)) rfl hpan ?yl ?_
     case yl => (intro w hSw; have k_ := hRD_.out w hSw; go_simp; first | done | with_reducible rfl | (simp only [t1, t2, t3, t4, t5, hG2]; done) | (simp [t1, t2, t3, t4, t5, hG2]; done))
     try simp only [sxA, sxB, sxC, Act.put, sxD, sxE, sxF]
     refine wpAnyH_ready (rs := [9]) (by kernel_rfl) (by simp) ?_
     refine AllReadyH.cons (o := _) rfl (fun K hK => ?_) AllReadyH.nil
     go_simp
     refine (cA.out _).mono ?_; rintro e W1 ⟨rfl, e1⟩
     have s1 := s0.trans e1
     refine hK.out _ _ s1 (fun _ => ?_)
     clear hK K
     (try simp only [sxA, sxB, sxC, Act.put, sxD, sxE, sxF])
     refine tkB (i := 10) (v := .int .i64 (le * p1)) rfl hpan ?yl ?_
     case yl => (intro w hSw; have k_ := hRD_.out w hSw; go_simp; first | done | with_reducible rfl | (simp only [t1, t2, t3, t4, t5, hG2]; done) | (simp [t1, t2, t3, t4, t5, hG2]; done))
     try simp only [sxA, sxB, sxC, Act.put, sxD, sxE, sxF]
     refine tkB (i := 11) (v := .int .i64 (b - le * p1)) rfl hpan ?yl ?_
     case yl => (intro w hSw; have k_ := hRD_.out w hSw; go_simp; first | done | with_reducible rfl | (simp only [t1, t2, t3, t4, t5, hG2]; done) | (simp [t1, t2, t3, t4, t5, hG2]; done))
     try simp only [sxA, sxB, sxC, Act.put, sxD, sxE, sxF]
     refine wpAnyH_ready (rs := [19]) (by kernel_rfl) (by simp) ?_
     refine AllReadyH.cons (o := _) rfl (fun K hK => ?_) AllReadyH.nil
     go_simp
     refine (cB.out _).mono ?_; rintro e W2 ⟨rfl, e2⟩
     have s2 := s1.trans e2
     refine hK.out _ _ s2 (fun _ => ?_)
     clear hK K
     (try simp only [sxA, sxB, sxC, Act.put, sxD, sxE, sxF])
     refine tkB (i := 20) (v := .int .i64 (co * p2)) rfl hpan ?yl ?_
     case yl => (intro w hSw; have k_ := hRD_.out w hSw; go_simp; first | done | with_reducible rfl | (simp only [t1, t2, t3, t4, t5, hG2]; done) | (simp [t1, t2, t3, t4, t5, hG2]; done))
     try simp only [sxA, sxB, sxC, Act.put, sxD, sxE, sxF]
     refine tkB (i := 21) (v := .int .i64 (b - le * p1 + co * p2)) rfl hpan ?yl ?_
     case yl => (intro w hSw; have k_ := hRD_.out w hSw; go_simp; first | done | with_reducible rfl | (simp only [t1, t2, t3, t4, t5, hG2]; done) | (simp [t1, t2, t3, t4, t5, hG2]; done))
     try simp only [sxA, sxB, sxC, Act.put, sxD, sxE, sxF]
     refine tkB (i := 30) (v := .bool false) rfl hpan ?yl ?_
     case yl => (intro w hSw; have k_ := hRD_.out w hSw; go_simp; first | done | with_reducible rfl | (simp only [t1, t2, t3, t4, t5, hG2]; done) | (simp [t1, t2, t3, t4, t5, hG2]; done))
     try simp only [sxA, sxB, sxC, Act.put, sxD, sxE, sxF]
     refine wpAnyH_done (by kernel_rfl) ?_ _
     try simp only [sxA, sxB, sxC, Act.put, sxD, sxE, sxF]
     rw [hQ2.out]
     refine ⟨rfl, ?u2_0_1, ?u2_1_1, ?u2_2_1, ?u2_3_1, ?u2_4_1, ?u2_5_1, ?u2_6_1, ?u2_7_1, ?u2_8_1, ?u2_9_1, ?u2_10_1, ?u2_11_1, ?u2_12_1, ?u2_13_1, ?u2_14_1, ?u2_15_1, ?eq2_1, s2⟩
     case eq2_1 => ((try simp only [sxA, sxB, sxC, Act.put, sxD, sxE, sxF]); first | done | with_reducible rfl | rfl)
    rw [hQ2.out]
    rintro e a' wa ⟨rfl, v0_, v2_, v4_, v5_, v6_, v8_, v12_, v14_, v15_, v16_, v18_, v22_, v24_, v25_, v26_, v27_, rfl, x⟩
    clear hQ2 hpan; clear Q2
    subst hA_
    simp only [sxA, sxB, sxC, Act.put, sxD, sxE, sxF]
    have xx := hid x
    clear x t1 t2 t3 t4 t5 j0 j1 j2 j3 j4 r0 r1 r2 r3 hG2
    have t6 := t6.out
    go_wp2_with fail
    go_roundw
    case rel => exact ⟨k + 1, by omega, by go_num, hgo, hid (hx.out.trans xx.out)⟩
    case measure => simp [intOf]; omega
  ·have hkN : k = N := by omega
   rw [hkN] at hj
   have hI1 : ¬ (N : Int) < (N : Int) := by omega
   rw [hkN]
   have hres := hid (hyes.out hj.out)
   clear hkN hk hkl hj
   go_wp2_with fail
   go_ret
   exact ⟨ret_bool hres.out.symm, x0.out.trans hx.out⟩
set_option maxHeartbeats 4000000 in
theorem holds_any (l : List Met) (v : VldM l) (u c : Int) (s : Bool) (D : Nat) (d b le co : Int) (hd : 0 ≤ d ∧ d ≤ 1073741824) (hp : isPf b le co = true) (w : World) (hP : Pot w D l u c s) :
 Calls Try.prog 73 #[(.pointer (some ⟨D, 0, none⟩)), (.agg #[.int .i64 (d), .int .i64 (b), .int .i64 (le), .int .i64 (co)])] w fun e w' => e = .returned (.bool (hld l s d b le co)) ∧ Ext w w' := by
 have n1 := v.n1; have n6 := v.n6
 obtain ⟨h1, h2, h3⟩ := isPf_iff.1 hp
 have hq1 := hid (fun k => mulP_bd h2 (badL_bd v s k))
 have hq2 := hid (fun k => mulP_bd h3 (goodC_bd v s k))
 have hq3 : Hid (∀ k, 0 ≤ d * (mtl l k).p ∧ d * (mtl l k).p ≤ 1073741824000) := hid fun k => by
  have hv := v.pr k
  refine ⟨Int.mul_nonneg hd.1 hv.1, ?_⟩
  have h1 := Int.mul_le_mul_of_nonneg_left hv.2 hd.1
  omega
 have hno : Hid (∀ k, k < l.length → hldM (mtl l k) s d b le co = false → hld l s d b le co = false) := hid fun k hk g => by
  rw [Bool.eq_false_iff]; intro h
  have := hldN_iff.1 h k hk
  rw [g] at this; cases this
 have hyes : Hid ((∀ k, k < l.length → hldM (mtl l k) s d b le co = true) → hld l s d b le co = true) := hid fun h => hldN_iff.2 h
 obtain ⟨bb, off, cap, e0, hbl, hc1⟩ := hP.mets (by omega)
 obtain ⟨rb, ro, rc, e3, hrl, hc2⟩ := hP.rows (by omega)
 have HC := hid hc1
 have HR := hid hc2
 have hDl := hP.lt
 obtain ⟨R, hR⟩ : ∃ R, hld l s d b le co = R := ⟨_, rfl⟩
 rw [hR] at hno hyes ⊢
 obtain ⟨N, hN⟩ : ∃ N, l.length = N := ⟨_, rfl⟩
 rw [hN] at HC HR n1 n6 hno hyes e0 e3
 clear hP hc1 hc2 hR v h2 h3 hd hp hN
 have E0 := hid e0
 go_enter Try.func73, Try.ntmps73
 go_wp2_with fail
 refine name_wp (fun w0 hw0 => ?_)
 have x0 : Ext w w0 := by rw [hw0]; exact exE
 have R0 := hid (show w0.cell? ⟨w.heap.size, 0, none⟩ = some (.int .i64 d) by rw [hw0]; simp [go_sem])
 have R1 := hid (show w0.cell? ⟨w.heap.size, 1, none⟩ = some (.int .i64 b) by rw [hw0]; simp [go_sem])
 have R2 := hid (show w0.cell? ⟨w.heap.size, 2, none⟩ = some (.int .i64 le) by rw [hw0]; simp [go_sem])
 have R3 := hid (show w0.cell? ⟨w.heap.size, 3, none⟩ = some (.int .i64 co) by rw [hw0]; simp [go_sem])
 clear hw0 e0 e3 hDl
 replace x0 := hid x0
 obtain ⟨T, hT⟩ : ∃ T, w.heap.size = T := ⟨_, rfl⟩
 rw [hT] at R0 R1 R2 R3 ⊢
 replace hT := hid hT
 go_loopw [12] (fun i wr => ∃ k : Nat, k ≤ N ∧ i = .int .i64 k ∧ Hid (∀ j, j < k → hldM (mtl l j) s d b le co = true) ∧ Hid (Ext w0 wr)) (fun i _ => (N - intOf i).toNat)
 case atStart => exact ⟨0, by omega, rfl, hid (fun j hj => absurd hj (by omega)), hid (Ext.refl _)⟩
 case round =>
  obtain ⟨k, hk, rfl, hj, hx⟩ := hrel
  by_cases hkl : k < N
  ·have xx := x0.out.trans hx.out
   have j0 := ((HC.out k hkl).ext xx).1
   obtain ⟨s0, s1, s2⟩ := HR.out k hkl
   have s0 := xx.cell s0
   have s1 := xx.cell s1
   have s2 := xx.cell s2
   have e0 := xx.cell E0.out
   have q1 := hq1.out k
   have q2 := hq2.out k
   have q3 := hq3.out k
   have hM1 : Hid (hldM (mtl l k) s d b le co = decide (b - le * badL (mtl l k) s + co * goodC (mtl l k) s ≤ d * (mtl l k).p)) := hid rfl
   obtain ⟨m0, hm0⟩ : ∃ z, (mtl l k).p = z := ⟨_, rfl⟩
   obtain ⟨p1, hp1⟩ : ∃ z, badL (mtl l k) s = z := ⟨_, rfl⟩
   obtain ⟨p2, hp2⟩ : ∃ z, goodC (mtl l k) s = z := ⟨_, rfl⟩
   rw [hp1] at s1 q1 hM1
   rw [hp2] at s2 q2 hM1
   rw [hm0] at j0 q3 hM1
   clear hm0 hp1 hp2
   have r0 := hx.out.cell R0.out
   have r1 := hx.out.cell R1.out
   have r2 := hx.out.cell R2.out
   have r3 := hx.out.cell R3.out
   have l1 := cell_lt j0
   have l2 := cell_lt s0
   have l3 := cell_lt e0
   have l4 := cell_lt r0
   dsimp only at l1 l2 l3 l4
   have en : le * (-p1) = -(le * p1) := by grind
   have t0 := Go.IntWalk.i64_in (b * 1) (by omega)
   have t1 := Go.IntWalk.i64_in (le * (-p1)) (by omega)
   have t2 := Go.IntWalk.i64_in (co * p2) (by omega)
   have t3 := Go.IntWalk.i64_in (b * 1 + le * (-p1)) (by omega)
   have t4 := Go.IntWalk.i64_in (b * 1 + le * (-p1) + co * p2) (by omega)
   have t5 := Go.IntWalk.i64_in (d * m0) (by omega)
   have t6 := Go.IntWalk.i64_in ((k : Int) + 1) (by omega)
   have t7 := Go.IntWalk.i64_in b (by omega)
   have t8 := Go.IntWalk.i64_in (b + le * (-p1)) (by omega)
   have t9 := Go.IntWalk.i64_in (b + le * (-p1) + co * p2) (by omega)
   have hI1 : (k : Int) < (N : Int) := by omega
   have hqv : Hid (b - le * p1 + co * p2 = b + le * (-p1) + co * p2) := hid (by omega)
   clear q1 q2 q3 en
   cases hG : decide (d * m0 < b + le * (-p1) + co * p2) with
   | true =>
    have hres := hid (hno.out k hkl (by rw [hM1.out, decide_eq_false_iff_not, hqv.out]; have := of_decide_eq_true hG; omega))
    go_wp2_with fail
    go_quiet (fail)
    go_wp2_with fail
    go_ret
    exact ⟨ret_bool hres.out.symm, by have := x0.out; have := hx.out; exact exE⟩
   | false =>
    have hgo : Hid (∀ j, j < k + 1 → hldM (mtl l j) s d b le co = true) := hid fun j hj' => by
     rcases Nat.lt_or_ge j k with g | g
     ·exact hj.out j g
     ·rw [show j = k by omega, hM1.out, decide_eq_true_iff, hqv.out]; have := of_decide_eq_false hG; omega
    go_wp2_with fail
    go_quiet (fail)
    go_wp2_with fail
    go_roundw
    case rel => exact ⟨k + 1, by omega, by go_num, hgo, hid (by have := hx.out; exact exE)⟩
    case measure => simp [intOf]; omega
  ·have hkN : k = N := by omega
   rw [hkN] at hj
   have hI1 : ¬ (N : Int) < (N : Int) := by omega
   rw [hkN]
   have hres := hid (hyes.out hj.out)
   clear hkN hk hkl hj
   go_wp2_with fail
   go_ret
   exact ⟨ret_bool hres.out.symm, x0.out.trans hx.out⟩
set_option maxHeartbeats 2000000 in
theorem costP_any (l : List Met) (v : VldM l) (u c : Int) (s : Bool) (x : List Int) (hx : ∀ i, 0 ≤ nth x i ∧ nth x i ≤ 10000000) (hlx : x.length = l.length) (hs : 0 < psum x) (D : Nat) (a2 : Option Addr) (c2 : Nat) (w : World) (hP : Pot w D l u c s) (hI : Ints w a2 x) :
 Calls Try.prog 58 #[(.pointer (some ⟨D, 0, none⟩)), .slice a2 x.length c2] w fun e w' => e = .returned (.agg #[.int .i64 (ratN (costN l x l.length) (psum x)), .int .i64 (ratD (costN l x l.length) (psum x))]) ∧ Ext w w' := by
 have n1 := v.n1; have n6 := v.n6
 have hb := hid (cost_bd v hx)
 have hps := hid (sm_bd (n := x.length) (f := nth x) (B := 10000000) fun i _ => hx i)
 have hsum := hid (fun W hW => sum_any x (fun i => ⟨(hx i).1, by have := (hx i).2; omega⟩) (by omega) a2 c2 W hW)
 have hI' := hid hI
 have hpr := hid v.pr
 have hx' := hid hx
 obtain ⟨b, off, cap, e0, hbl, hc⟩ := hP.mets (by omega)
 have HC := hid hc
 obtain ⟨b2, o2, rfl, hb2, hc2⟩ := hI.at (by omega)
 have HC2 := hid hc2
 have hst : Hid (∀ n, costN l x (n + 1) = costN l x n + nth x n * (mtl l n).p) := hid fun n => rfl
 have hc0 : Hid (costN l x 0 = 0) := hid rfl
 obtain ⟨F, hF⟩ : ∃ F, costN l x = F := ⟨_, rfl⟩
 rw [hF] at hb hst hc0 ⊢
 obtain ⟨N, hN⟩ : ∃ N, l.length = N := ⟨_, rfl⟩
 rw [hN] at HC hlx n1 n6 e0 ⊢
 rw [hlx] at HC2 hsum ⊢
 have hps2 : Hid (psum x ≤ 60000000) := hid (by have := hps.out.2; unfold psum; rw [hlx] at this ⊢; omega)
 have hby := hid (fun W => by_any (F N) (psum x) (by have := (hb.out N).1; omega) (by have := (hb.out N).2; omega) hs (by have := hps2.out; omega) W)
 obtain ⟨S, hS⟩ : ∃ S, psum x = S := ⟨_, rfl⟩
 rw [hS] at hsum hby ⊢
 have hDl := hP.lt
 replace hF := hid hF
 replace hN := hid hN
 replace hlx := hid hlx
 replace hS := hid hS
 clear hP hI hc hc2 v hx hps hs hps2
 go_enter Try.func58, Try.ntmps58
 go_wp2_with fail
 refine name_wp (fun w0 hw0 => ?_)
 have x0 : Ext w w0 := by rw [hw0]; exact exE
 have r0 : w0.cell? ⟨w.heap.size, 0, none⟩ = some (.int .i64 0) := by rw [hw0]; simp [go_sem]
 have r1 : w0.cell? ⟨w.heap.size, 1, none⟩ = some (.int .i64 0) := by rw [hw0]; simp [go_sem]
 have s0 : w0.frozen? ⟨w.heap.size, 0, none⟩ = false := by rw [hw0]; simp [go_sem]
 have s1 : w0.frozen? ⟨w.heap.size, 1, none⟩ = false := by rw [hw0]; simp [go_sem]
 have hbx := hid (Bx2.mk r0 r1 s0 s1)
 replace x0 := hid x0
 clear hw0 r0 r1 s0 s1
 obtain ⟨Bc, hBc⟩ : ∃ B, w.heap.size = B := ⟨_, rfl⟩
 rw [hBc] at hbx ⊢
 have hBl := hid (show w.heap.size ≤ Bc by omega)
 replace hBc := hid hBc
 clear e0 hDl
 go_loopw [5, 14] (fun s i wr => ∃ k : Nat, k ≤ N ∧ i = .int .i64 k ∧ s = .int .i64 (F k) ∧ Hid (Ext w0 wr)) (fun _ i _ => (N - intOf i).toNat)
 case atStart => exact ⟨0, by omega, rfl, by rw [hc0.out], hid (Ext.refl _)⟩
 case round =>
  obtain ⟨k, hk, rfl, rfl, hw⟩ := hrel
  by_cases hkl : k < N
  ·obtain ⟨j0, j1, j2, j3, j4⟩ := (HC.out k hkl).ext (x0.out.trans hw.out)
   have e1 := (x0.out.trans hw.out).cell (HC2.out k hkl)
   have h1 := hb.out k
   have h2 := hb.out (k + 1)
   have h3 := hst.out k
   have h4 := hx'.out k
   have h5 := hpr.out k
   obtain ⟨p, hp⟩ : ∃ p, (mtl l k).p = p := ⟨_, rfl⟩
   obtain ⟨y, hy⟩ : ∃ y, nth x k = y := ⟨_, rfl⟩
   obtain ⟨z, hz⟩ : ∃ z, F k = z := ⟨_, rfl⟩
   rw [hp] at j0 h3 h5
   rw [hy] at e1 h3 h4
   rw [hz] at h1 h3
   have h6 : 0 ≤ y * p ∧ y * p ≤ 10000000000 := ⟨Int.mul_nonneg h4.1 h5.1, by have := Int.mul_le_mul_of_nonneg_left h5.2 h4.1; omega⟩
   have z1 := Go.IntWalk.i64_in (y * p) (by omega)
   have z2 := Go.IntWalk.i64_in (z + y * p) (by omega)
   have z3 := Go.IntWalk.i64_in ((k : Int) + 1) (by omega)
   have hkI : (k : Int) < (N : Int) := by omega
   have hl1 := cell_lt e1
   rw [hz]
   replace h3 := hid h3
   replace hp := hid hp
   replace hy := hid hy
   replace hz := hid hz
   clear h1 h2 h4 h5 h6
   go_wp2_with fail
   go_quiet (fail)
   go_wp2
   go_roundw
   case rel => exact ⟨k + 1, by omega, by go_num, by rw [h3.out], hid (hw.out.trans exE)⟩
   case measure => simp [intOf]; omega
  ·have hkN : k = N := by omega
   have hnn : ¬ (N : Int) < (N : Int) := by omega
   rw [hkN]
   have hB := hid (hbx.out.ext hw.out)
   have xw := hid (x0.out.trans hw.out)
   clear hkN hk hkl hw
   go_wp2_with fail
   refine (hsum.out _ (hI'.out.ext (by have := xw.out; exact exE))).mono ?_; rintro e w1 ⟨rfl, hE⟩
   have hB1 := hid (hB.out.ext (show Ext wr w1 from exE))
   have x1 := hid (xw.out.trans (show Ext wr w1 from exE))
   clear hE
   go_wp2_with fail
   refine (hby.out _).mono ?_; rintro e w2 ⟨rfl, hE⟩
   have hB2 := hid (hB1.out.ext (show Ext w1 w2 from exE))
   have x2 := x1.out.trans (show Ext w1 w2 from exE)
   obtain ⟨k1, k2, k3, k4⟩ := hB2.out
   have hBl2 := hBl.out
   clear hE
   go_wp2_with fail
   refine bodyPost_ret (v := .agg #[.int .i64 (ratN (F N) S), .int .i64 (ratD (F N) S)]) ?_ rfl ?_
   ·simp [results, Try.results58, go_sem, *]
   ·exact ⟨rfl, exE⟩
def dnB (d : Int) : Bool := decide (1 ≤ d) && decide (d ≤ 1073741824)
def prfE (l : List Met) (u c : Int) (s : Bool) (d b le co : Int) : Int := if ¬ chkB l u c = 0 then chkB l u c else if ¬ (dnB d = true ∧ isPf b le co = true) then 3 else if hld l s d b le co = true then 0 else 14
def prfNE (l : List Met) (u c : Int) (s : Bool) (d b le co : Int) : Int := if prfE l u c s d b le co = 0 then ratN (valP u c b le co) d else 0
def prfDE (l : List Met) (u c : Int) (s : Bool) (d b le co : Int) : Int := if prfE l u c s d b le co = 0 then ratD (valP u c b le co) d else 0
theorem prf_no {l : List Met} {u c : Int} {s : Bool} {d b le co E : Int} (h : prfE l u c s d b le co = E) (g : ¬ E = 0) : prfE l u c s d b le co = E ∧ prfNE l u c s d b le co = 0 ∧ prfDE l u c s d b le co = 0 :=
 ⟨h, if_neg (by rw [h]; exact g), if_neg (by rw [h]; exact g)⟩
theorem prf_yes {l : List Met} {u c : Int} {s : Bool} {d b le co : Int} (h : prfE l u c s d b le co = 0) : prfE l u c s d b le co = 0 ∧ prfNE l u c s d b le co = ratN (valP u c b le co) d ∧ prfDE l u c s d b le co = ratD (valP u c b le co) d :=
 ⟨h, if_pos h, if_pos h⟩
set_option maxHeartbeats 4000000 in
theorem checkProofR_any (l : List Met) (q : FitM l) (hl : l.length ≤ 1000) (a : Option Addr) (cap : Nat) (u c : Int) (s : Bool) (d b le co : Int) (w : World) (hM : Mts w a l) :
 Calls Try.prog 34 #[.slice a l.length cap, (.agg #[.int .i64 (u), .int .i64 (c)]), .bool s, (.agg #[.int .i64 (d), .int .i64 (b), .int .i64 (le), .int .i64 (co)])] w fun e w' => e = .returned (.tuple #[.agg #[.int .i64 (prfNE l u c s d b le co), .int .i64 (prfDE l u c s d b le co)], .int .i64 (prfE l u c s d b le co)]) ∧ Ext w w' := by
 replace hM := hid hM
 have hc1 := hid (fun W hW => both_any l q hl a cap u c W hW)
 have hc2 := hid (fun W => isProofR_any d b le co W)
 clear q
 go_enter Try.func34, Try.ntmps34
 go_wp2_with fail
 refine name_c (fun w0 hw0 => ?_)
 have X := hid (show Ext w w0 by rw [hw0]; exact exE)
 have x : Ext w w0 := X.out
 replace hM := hid (hM.out.ext x)
 have tu0 := hid (show w0.cell? ⟨w.heap.size, 0, none⟩ = some (.int .i64 u) by rw [hw0]; simp [go_sem])
 have tu1 := hid (show w0.cell? ⟨w.heap.size, 1, none⟩ = some (.int .i64 c) by rw [hw0]; simp [go_sem])
 have pb0 := hid (show w0.cell? ⟨w.heap.size + 1, 0, none⟩ = some (.int .i64 d) by rw [hw0]; simp [go_sem])
 have pb1 := hid (show w0.cell? ⟨w.heap.size + 1, 1, none⟩ = some (.int .i64 b) by rw [hw0]; simp [go_sem])
 have pb2 := hid (show w0.cell? ⟨w.heap.size + 1, 2, none⟩ = some (.int .i64 le) by rw [hw0]; simp [go_sem])
 have pb3 := hid (show w0.cell? ⟨w.heap.size + 1, 3, none⟩ = some (.int .i64 co) by rw [hw0]; simp [go_sem])
 have rb := hid (show Bx2 w0 (w.heap.size + 2) (0) (0) from ⟨by rw [hw0]; simp [go_sem], by rw [hw0]; simp [go_sem], by rw [hw0]; simp [go_sem], by rw [hw0]; simp [go_sem]⟩)
 clear x hw0
 obtain ⟨B0, hB0⟩ : ∃ B, w.heap.size = B := ⟨_, rfl⟩
 rw [hB0] at tu0 tu1 pb0 pb1 pb2 pb3 rb ⊢
 have hBB : w.heap.size ≤ B0 := by omega
 replace hB0 := hid hB0
 refine (hc1.out _ (hM.out.ext (show Ext w0 _ from exE))).mono ?_; rintro e u1 ⟨rfl, hE⟩
 have x : Ext w0 u1 := exE
 replace hM := hid (hM.out.ext x)
 replace tu0 := hid (x.cell tu0.out)
 replace tu1 := hid (x.cell tu1.out)
 replace pb0 := hid (x.cell pb0.out)
 replace pb1 := hid (x.cell pb1.out)
 replace pb2 := hid (x.cell pb2.out)
 replace pb3 := hid (x.cell pb3.out)
 replace rb := hid (rb.out.ext x)
 replace X := hid (X.out.trans x)
 clear x hE
 by_cases g : ¬ chkB l u c = 0
 ·have g1 : (chkB l u c != 0) = true := by simpa using g
  replace g := hid g
  have r_tu0 := tu0.out
  have l_tu0 := cell_lt r_tu0
  dsimp only at l_tu0
  have r_tu1 := tu1.out
  have l_tu1 := cell_lt r_tu1
  dsimp only at l_tu1
  have r_pb0 := pb0.out
  have l_pb0 := cell_lt r_pb0
  dsimp only at l_pb0
  have r_pb1 := pb1.out
  have l_pb1 := cell_lt r_pb1
  dsimp only at l_pb1
  have r_pb2 := pb2.out
  have l_pb2 := cell_lt r_pb2
  dsimp only at l_pb2
  have r_pb3 := pb3.out
  have l_pb3 := cell_lt r_pb3
  dsimp only at l_pb3
  go_wp2_with fail
  refine (hc1.out _ (hM.out.ext (show Ext u1 _ from exE))).mono ?_; rintro e u2 ⟨rfl, hE⟩
  have x : Ext u1 u2 := exE
  clear r_tu0 l_tu0 r_tu1 l_tu1 r_pb0 l_pb0 r_pb1 l_pb1 r_pb2 l_pb2 r_pb3 l_pb3
  replace hM := hid (hM.out.ext x)
  replace tu0 := hid (x.cell tu0.out)
  replace tu1 := hid (x.cell tu1.out)
  replace pb0 := hid (x.cell pb0.out)
  replace pb1 := hid (x.cell pb1.out)
  replace pb2 := hid (x.cell pb2.out)
  replace pb3 := hid (x.cell pb3.out)
  replace rb := hid (rb.out.ext x)
  replace X := hid (X.out.trans x)
  clear x hE
  have r_tu0 := tu0.out
  have l_tu0 := cell_lt r_tu0
  dsimp only at l_tu0
  have r_tu1 := tu1.out
  have l_tu1 := cell_lt r_tu1
  dsimp only at l_tu1
  have r_pb0 := pb0.out
  have l_pb0 := cell_lt r_pb0
  dsimp only at l_pb0
  have r_pb1 := pb1.out
  have l_pb1 := cell_lt r_pb1
  dsimp only at l_pb1
  have r_pb2 := pb2.out
  have l_pb2 := cell_lt r_pb2
  dsimp only at l_pb2
  have r_pb3 := pb3.out
  have l_pb3 := cell_lt r_pb3
  dsimp only at l_pb3
  obtain ⟨yrb0, yrb1, yrb2, yrb3⟩ := rb.out
  go_wp2_with fail
  refine bodyPost_ret (v := .tuple #[.agg #[.int .i64 0, .int .i64 0], .int .i64 (chkB l u c)]) ?_ rfl ?_
  ·simp [results, Try.results34, go_sem, *]
  ·exact ⟨by obtain ⟨h1, h2, h3⟩ := prf_no (s := s) (d := d) (b := b) (le := le) (co := co) (show prfE l u c s d b le co = chkB l u c from if_pos g.out) g.out; rw [h1, h2, h3], by have := X.out; exact exE⟩
 replace g := hid (Decidable.not_not.1 g)
 rw [g.out]
 have hs1 := hid (show prfE l u c s d b le co = if ¬ (dnB d = true ∧ isPf b le co = true) then 3 else if hld l s d b le co = true then 0 else 14 from if_neg (by simp [g.out]))
 by_cases hd : d < 1
 ·have hp := hid (prf_no (E := 3) (by rw [hs1.out, if_pos (fun h => by have := h.1; simp [dnB] at this; omega)]) (by decide))
  clear hs1
  have r_tu0 := tu0.out
  have l_tu0 := cell_lt r_tu0
  dsimp only at l_tu0
  have r_tu1 := tu1.out
  have l_tu1 := cell_lt r_tu1
  dsimp only at l_tu1
  have r_pb0 := pb0.out
  have l_pb0 := cell_lt r_pb0
  dsimp only at l_pb0
  have r_pb1 := pb1.out
  have l_pb1 := cell_lt r_pb1
  dsimp only at l_pb1
  have r_pb2 := pb2.out
  have l_pb2 := cell_lt r_pb2
  dsimp only at l_pb2
  have r_pb3 := pb3.out
  have l_pb3 := cell_lt r_pb3
  dsimp only at l_pb3
  obtain ⟨yrb0, yrb1, yrb2, yrb3⟩ := rb.out
  go_wp2_with fail
  refine bodyPost_ret (v := .tuple #[.agg #[.int .i64 0, .int .i64 0], .int .i64 (3)]) ?_ rfl ?_
  ·simp [results, Try.results34, go_sem, *]
  ·exact ⟨by obtain ⟨h1, h2, h3⟩ := hp.out; rw [h1, h2, h3], by have := X.out; exact exE⟩
 by_cases hd : 1073741824 < d
 ·have hp := hid (prf_no (E := 3) (by rw [hs1.out, if_pos (fun h => by have := h.1; simp [dnB] at this; omega)]) (by decide))
  clear hs1
  have r_tu0 := tu0.out
  have l_tu0 := cell_lt r_tu0
  dsimp only at l_tu0
  have r_tu1 := tu1.out
  have l_tu1 := cell_lt r_tu1
  dsimp only at l_tu1
  have r_pb0 := pb0.out
  have l_pb0 := cell_lt r_pb0
  dsimp only at l_pb0
  have r_pb1 := pb1.out
  have l_pb1 := cell_lt r_pb1
  dsimp only at l_pb1
  have r_pb2 := pb2.out
  have l_pb2 := cell_lt r_pb2
  dsimp only at l_pb2
  have r_pb3 := pb3.out
  have l_pb3 := cell_lt r_pb3
  dsimp only at l_pb3
  obtain ⟨yrb0, yrb1, yrb2, yrb3⟩ := rb.out
  go_wp2_with fail
  refine bodyPost_ret (v := .tuple #[.agg #[.int .i64 0, .int .i64 0], .int .i64 (3)]) ?_ rfl ?_
  ·simp [results, Try.results34, go_sem, *]
  ·exact ⟨by obtain ⟨h1, h2, h3⟩ := hp.out; rw [h1, h2, h3], by have := X.out; exact exE⟩
 have hdn : Hid (dnB d = true) := hid (by simp [dnB]; omega)
 have r_tu0 := tu0.out
 have l_tu0 := cell_lt r_tu0
 dsimp only at l_tu0
 have r_tu1 := tu1.out
 have l_tu1 := cell_lt r_tu1
 dsimp only at l_tu1
 have r_pb0 := pb0.out
 have l_pb0 := cell_lt r_pb0
 dsimp only at l_pb0
 have r_pb1 := pb1.out
 have l_pb1 := cell_lt r_pb1
 dsimp only at l_pb1
 have r_pb2 := pb2.out
 have l_pb2 := cell_lt r_pb2
 dsimp only at l_pb2
 have r_pb3 := pb3.out
 have l_pb3 := cell_lt r_pb3
 dsimp only at l_pb3
 go_wp2_with fail
 refine (hc2.out _).mono ?_; rintro e u3 ⟨rfl, hE⟩
 have x : Ext u1 u3 := exE
 clear r_tu0 l_tu0 r_tu1 l_tu1 r_pb0 l_pb0 r_pb1 l_pb1 r_pb2 l_pb2 r_pb3 l_pb3
 replace hM := hid (hM.out.ext x)
 replace tu0 := hid (x.cell tu0.out)
 replace tu1 := hid (x.cell tu1.out)
 replace pb0 := hid (x.cell pb0.out)
 replace pb1 := hid (x.cell pb1.out)
 replace pb2 := hid (x.cell pb2.out)
 replace pb3 := hid (x.cell pb3.out)
 replace rb := hid (rb.out.ext x)
 replace X := hid (X.out.trans x)
 clear x hE
 cases hP : isPf b le co with
 | false =>
  have hp := hid (prf_no (E := 3) (by rw [hs1.out, if_pos (fun h => by have := h.2; rw [hP] at this; cases this)]) (by decide))
  clear hs1
  replace hP := hid hP
  have r_tu0 := tu0.out
  have l_tu0 := cell_lt r_tu0
  dsimp only at l_tu0
  have r_tu1 := tu1.out
  have l_tu1 := cell_lt r_tu1
  dsimp only at l_tu1
  have r_pb0 := pb0.out
  have l_pb0 := cell_lt r_pb0
  dsimp only at l_pb0
  have r_pb1 := pb1.out
  have l_pb1 := cell_lt r_pb1
  dsimp only at l_pb1
  have r_pb2 := pb2.out
  have l_pb2 := cell_lt r_pb2
  dsimp only at l_pb2
  have r_pb3 := pb3.out
  have l_pb3 := cell_lt r_pb3
  dsimp only at l_pb3
  obtain ⟨yrb0, yrb1, yrb2, yrb3⟩ := rb.out
  go_wp2_with fail
  refine bodyPost_ret (v := .tuple #[.agg #[.int .i64 0, .int .i64 0], .int .i64 (3)]) ?_ rfl ?_
  ·simp [results, Try.results34, go_sem, *]
  ·exact ⟨by obtain ⟨h1, h2, h3⟩ := hp.out; rw [h1, h2, h3], by have := X.out; exact exE⟩
 | true =>
  obtain ⟨v, hu, hcc⟩ := chkB_ok g.out
  have hd3 : 0 ≤ d ∧ d ≤ 1073741824 := by omega
  have hc3 := hid (fun W h1 => holdsR_any l v s d b le co hd3 hP a cap W h1)
  have hc4 := hid (fun W => valueOfR_any u c d b le co hu hcc hP W)
  have hvb := valP_bd hu hcc hP
  rw [if_neg (fun h => h ⟨hdn.out, hP⟩)] at hs1
  have hc5 := hid (fun W => byR_any (valP u c b le co) d hvb.1 hvb.2 (by omega) (by omega) W)
  replace hP := hid hP
  clear v hu hcc hvb hd3
  have r_tu0 := tu0.out
  have l_tu0 := cell_lt r_tu0
  dsimp only at l_tu0
  have r_tu1 := tu1.out
  have l_tu1 := cell_lt r_tu1
  dsimp only at l_tu1
  have r_pb0 := pb0.out
  have l_pb0 := cell_lt r_pb0
  dsimp only at l_pb0
  have r_pb1 := pb1.out
  have l_pb1 := cell_lt r_pb1
  dsimp only at l_pb1
  have r_pb2 := pb2.out
  have l_pb2 := cell_lt r_pb2
  dsimp only at l_pb2
  have r_pb3 := pb3.out
  have l_pb3 := cell_lt r_pb3
  dsimp only at l_pb3
  go_wp2_with fail
  refine (hc3.out _ (hM.out.ext (show Ext u3 _ from exE))).mono ?_; rintro e u4 ⟨rfl, hE⟩
  have x : Ext u3 u4 := exE
  clear r_tu0 l_tu0 r_tu1 l_tu1 r_pb0 l_pb0 r_pb1 l_pb1 r_pb2 l_pb2 r_pb3 l_pb3
  replace hM := hid (hM.out.ext x)
  replace tu0 := hid (x.cell tu0.out)
  replace tu1 := hid (x.cell tu1.out)
  replace pb0 := hid (x.cell pb0.out)
  replace pb1 := hid (x.cell pb1.out)
  replace pb2 := hid (x.cell pb2.out)
  replace pb3 := hid (x.cell pb3.out)
  replace rb := hid (rb.out.ext x)
  replace X := hid (X.out.trans x)
  clear x hE
  cases hH : hld l s d b le co with
  | false =>
   have hp := hid (prf_no (E := 14) (by rw [hs1.out, if_neg (by rw [hH]; decide)]) (by decide))
   clear hs1
   replace hH := hid hH
   have r_tu0 := tu0.out
   have l_tu0 := cell_lt r_tu0
   dsimp only at l_tu0
   have r_tu1 := tu1.out
   have l_tu1 := cell_lt r_tu1
   dsimp only at l_tu1
   have r_pb0 := pb0.out
   have l_pb0 := cell_lt r_pb0
   dsimp only at l_pb0
   have r_pb1 := pb1.out
   have l_pb1 := cell_lt r_pb1
   dsimp only at l_pb1
   have r_pb2 := pb2.out
   have l_pb2 := cell_lt r_pb2
   dsimp only at l_pb2
   have r_pb3 := pb3.out
   have l_pb3 := cell_lt r_pb3
   dsimp only at l_pb3
   obtain ⟨yrb0, yrb1, yrb2, yrb3⟩ := rb.out
   go_wp2_with fail
   refine bodyPost_ret (v := .tuple #[.agg #[.int .i64 0, .int .i64 0], .int .i64 (14)]) ?_ rfl ?_
   ·simp [results, Try.results34, go_sem, *]
   ·exact ⟨by obtain ⟨h1, h2, h3⟩ := hp.out; rw [h1, h2, h3], by have := X.out; exact exE⟩
  | true =>
   have hp := hid (prf_yes (by rw [hs1.out, if_pos hH]))
   clear hs1
   replace hH := hid hH
   obtain ⟨V, eV⟩ : ∃ V, valP u c b le co = V := ⟨_, rfl⟩
   rw [eV] at hp hc4 hc5
   obtain ⟨N, eN⟩ : ∃ N, ratN V d = N := ⟨_, rfl⟩
   obtain ⟨De, eD⟩ : ∃ N, ratD V d = N := ⟨_, rfl⟩
   rw [eN, eD] at hp hc5
   clear eN eD eV
   obtain ⟨y0, y1, y2, y3⟩ := rb.out
   have o0 := tu0.out; have o1 := tu1.out; have o2 := pb0.out; have o3 := pb1.out; have o4 := pb2.out; have o5 := pb3.out; have XX := X.out
   go_wp2_with fail
   go_region_held3 (fun w' => w'.cell? ⟨B0, 0, none⟩ = some (.int .i64 u) ∧ w'.cell? ⟨B0, 1, none⟩ = some (.int .i64 c) ∧ w'.cell? ⟨B0 + 1, 0, none⟩ = some (.int .i64 d) ∧ w'.cell? ⟨B0 + 1, 1, none⟩ = some (.int .i64 b) ∧ w'.cell? ⟨B0 + 1, 2, none⟩ = some (.int .i64 le) ∧ w'.cell? ⟨B0 + 1, 3, none⟩ = some (.int .i64 co) ∧ Ext w w') (((try go_split_ands); (repeat' apply And.intro) <;> (first | (with_reducible assumption) | (simp [go_sem, *]; done) | exact Ext.cell (w := u4) exE (by assumption) | exact exE))) (first | (go_at_call 77; refine (hc4.out _).mono ?_; rintro e wd ⟨rfl, hEd⟩; have kd0 := hEd.cell y0; have kd1 := hEd.cell y1; have kd2 := (hEd.frozen (cell_lt y0)).trans y2; have kd3 := (hEd.frozen (cell_lt y1)).trans y3; have ka0 := hEd.cell o0; have ka1 := hEd.cell o1; have ka2 := hEd.cell o2; have ka3 := hEd.cell o3; have ka4 := hEd.cell o4; have ka5 := hEd.cell o5) | (go_at_call 48; refine (hc5.out _).mono ?_; rintro e we ⟨rfl, hEe⟩; have ke0 := hEe.cell kd0; have ke1 := hEe.cell kd1; have ke2 := (hEe.frozen (cell_lt kd0)).trans kd2; have ke3 := (hEe.frozen (cell_lt kd1)).trans kd3; have kb0 := hEe.cell ka0; have kb1 := hEe.cell ka1; have kb2 := hEe.cell ka2; have kb3 := hEe.cell ka3; have kb4 := hEe.cell ka4; have kb5 := hEe.cell ka5))
   all_goals
    go_wp2_with fail
    refine bodyPost_ret (v := .tuple #[.agg #[.int .i64 N, .int .i64 De], .int .i64 0]) ?_ rfl ?_
    ·simp [results, Try.results34, go_sem, *]
    ·exact ⟨by obtain ⟨h1, h2, h3⟩ := hp.out; rw [h1, h2, h3], by repeat (with_reducible first | assumption | refine Ext.drew ?_ | (refine Ext.setCell ?_ ?sz _; case sz => (simp; omega)) | refine Ext.trans ?_ (by assumption))⟩
def nvrE (l : List Met) (u c : Int) (s : Bool) (d b le co : Int) : Int := if ¬ chkB l u c = 0 then chkB l u c else if ¬ (d = 0 ∧ isPf b le co = true) then 3 else if hld l s d b le co = true ∧ 0 < valP u c b le co then 0 else 14
set_option maxHeartbeats 4000000 in
theorem checkNeverR_any (l : List Met) (q : FitM l) (hl : l.length ≤ 1000) (a : Option Addr) (cap : Nat) (u c : Int) (s : Bool) (d b le co : Int) (w : World) (hM : Mts w a l) :
 Calls Try.prog 38 #[.slice a l.length cap, (.agg #[.int .i64 (u), .int .i64 (c)]), .bool s, (.agg #[.int .i64 (d), .int .i64 (b), .int .i64 (le), .int .i64 (co)])] w fun e w' => e = .returned (.int .i64 (nvrE l u c s d b le co)) ∧ Ext w w' := by
 replace hM := hid hM
 have hc1 := hid (fun W hW => both_any l q hl a cap u c W hW)
 have hc2 := hid (fun W => isProofR_any d b le co W)
 clear q
 go_enter Try.func38, Try.ntmps38
 go_wp2_with fail
 refine name_c (fun w0 hw0 => ?_)
 have X := hid (show Ext w w0 by rw [hw0]; exact exE)
 have x : Ext w w0 := X.out
 replace hM := hid (hM.out.ext x)
 have tu0 := hid (show w0.cell? ⟨w.heap.size, 0, none⟩ = some (.int .i64 u) by rw [hw0]; simp [go_sem])
 have tu1 := hid (show w0.cell? ⟨w.heap.size, 1, none⟩ = some (.int .i64 c) by rw [hw0]; simp [go_sem])
 have pb0 := hid (show w0.cell? ⟨w.heap.size + 1, 0, none⟩ = some (.int .i64 d) by rw [hw0]; simp [go_sem])
 have pb1 := hid (show w0.cell? ⟨w.heap.size + 1, 1, none⟩ = some (.int .i64 b) by rw [hw0]; simp [go_sem])
 have pb2 := hid (show w0.cell? ⟨w.heap.size + 1, 2, none⟩ = some (.int .i64 le) by rw [hw0]; simp [go_sem])
 have pb3 := hid (show w0.cell? ⟨w.heap.size + 1, 3, none⟩ = some (.int .i64 co) by rw [hw0]; simp [go_sem])
 clear x hw0
 obtain ⟨B0, hB0⟩ : ∃ B, w.heap.size = B := ⟨_, rfl⟩
 rw [hB0] at tu0 tu1 pb0 pb1 pb2 pb3 ⊢
 have hBB : w.heap.size ≤ B0 := by omega
 replace hB0 := hid hB0
 refine (hc1.out _ (hM.out.ext (show Ext w0 _ from exE))).mono ?_; rintro e u1 ⟨rfl, hE⟩
 have x : Ext w0 u1 := exE
 replace hM := hid (hM.out.ext x)
 replace tu0 := hid (x.cell tu0.out)
 replace tu1 := hid (x.cell tu1.out)
 replace pb0 := hid (x.cell pb0.out)
 replace pb1 := hid (x.cell pb1.out)
 replace pb2 := hid (x.cell pb2.out)
 replace pb3 := hid (x.cell pb3.out)
 replace X := hid (X.out.trans x)
 clear x hE
 by_cases g : ¬ chkB l u c = 0
 ·have g1 : (chkB l u c != 0) = true := by simpa using g
  have hs1 := hid (show nvrE l u c s d b le co = chkB l u c from if_pos g)
  replace g := hid g
  have r_tu0 := tu0.out
  have l_tu0 := cell_lt r_tu0
  dsimp only at l_tu0
  have r_tu1 := tu1.out
  have l_tu1 := cell_lt r_tu1
  dsimp only at l_tu1
  have r_pb0 := pb0.out
  have l_pb0 := cell_lt r_pb0
  dsimp only at l_pb0
  have r_pb1 := pb1.out
  have l_pb1 := cell_lt r_pb1
  dsimp only at l_pb1
  have r_pb2 := pb2.out
  have l_pb2 := cell_lt r_pb2
  dsimp only at l_pb2
  have r_pb3 := pb3.out
  have l_pb3 := cell_lt r_pb3
  dsimp only at l_pb3
  go_wp2_with fail
  refine (hc1.out _ (hM.out.ext (show Ext u1 _ from exE))).mono ?_; rintro e u2 ⟨rfl, hE⟩
  have x : Ext u1 u2 := exE
  clear r_tu0 l_tu0 r_tu1 l_tu1 r_pb0 l_pb0 r_pb1 l_pb1 r_pb2 l_pb2 r_pb3 l_pb3
  replace hM := hid (hM.out.ext x)
  replace tu0 := hid (x.cell tu0.out)
  replace tu1 := hid (x.cell tu1.out)
  replace pb0 := hid (x.cell pb0.out)
  replace pb1 := hid (x.cell pb1.out)
  replace pb2 := hid (x.cell pb2.out)
  replace pb3 := hid (x.cell pb3.out)
  replace X := hid (X.out.trans x)
  clear x hE
  have r_tu0 := tu0.out
  have l_tu0 := cell_lt r_tu0
  dsimp only at l_tu0
  have r_tu1 := tu1.out
  have l_tu1 := cell_lt r_tu1
  dsimp only at l_tu1
  have r_pb0 := pb0.out
  have l_pb0 := cell_lt r_pb0
  dsimp only at l_pb0
  have r_pb1 := pb1.out
  have l_pb1 := cell_lt r_pb1
  dsimp only at l_pb1
  have r_pb2 := pb2.out
  have l_pb2 := cell_lt r_pb2
  dsimp only at l_pb2
  have r_pb3 := pb3.out
  have l_pb3 := cell_lt r_pb3
  dsimp only at l_pb3
  go_wp2_with fail
  go_ret
  exact ⟨ret_int hs1.out.symm, by have := X.out; exact exE⟩
 replace g := hid (Decidable.not_not.1 g)
 rw [g.out]
 have hs1 := hid (show nvrE l u c s d b le co = if ¬ (d = 0 ∧ isPf b le co = true) then 3 else if hld l s d b le co = true ∧ 0 < valP u c b le co then 0 else 14 from if_neg (by simp [g.out]))
 by_cases hd : ¬ d = 0
 ·have hp := hid (show nvrE l u c s d b le co = 3 by rw [hs1.out, if_pos (fun h => hd h.1)])
  clear hs1
  have hd1 : (d != 0) = true := by simpa using hd
  have r_tu0 := tu0.out
  have l_tu0 := cell_lt r_tu0
  dsimp only at l_tu0
  have r_tu1 := tu1.out
  have l_tu1 := cell_lt r_tu1
  dsimp only at l_tu1
  have r_pb0 := pb0.out
  have l_pb0 := cell_lt r_pb0
  dsimp only at l_pb0
  have r_pb1 := pb1.out
  have l_pb1 := cell_lt r_pb1
  dsimp only at l_pb1
  have r_pb2 := pb2.out
  have l_pb2 := cell_lt r_pb2
  dsimp only at l_pb2
  have r_pb3 := pb3.out
  have l_pb3 := cell_lt r_pb3
  dsimp only at l_pb3
  go_wp2_with fail
  go_ret
  exact ⟨ret_int hp.out.symm, by have := X.out; exact exE⟩
 obtain rfl := Decidable.not_not.1 hd
 have r_tu0 := tu0.out
 have l_tu0 := cell_lt r_tu0
 dsimp only at l_tu0
 have r_tu1 := tu1.out
 have l_tu1 := cell_lt r_tu1
 dsimp only at l_tu1
 have r_pb0 := pb0.out
 have l_pb0 := cell_lt r_pb0
 dsimp only at l_pb0
 have r_pb1 := pb1.out
 have l_pb1 := cell_lt r_pb1
 dsimp only at l_pb1
 have r_pb2 := pb2.out
 have l_pb2 := cell_lt r_pb2
 dsimp only at l_pb2
 have r_pb3 := pb3.out
 have l_pb3 := cell_lt r_pb3
 dsimp only at l_pb3
 go_wp2_with fail
 refine (hc2.out _).mono ?_; rintro e u3 ⟨rfl, hE⟩
 have x : Ext u1 u3 := exE
 clear r_tu0 l_tu0 r_tu1 l_tu1 r_pb0 l_pb0 r_pb1 l_pb1 r_pb2 l_pb2 r_pb3 l_pb3
 replace hM := hid (hM.out.ext x)
 replace tu0 := hid (x.cell tu0.out)
 replace tu1 := hid (x.cell tu1.out)
 replace pb0 := hid (x.cell pb0.out)
 replace pb1 := hid (x.cell pb1.out)
 replace pb2 := hid (x.cell pb2.out)
 replace pb3 := hid (x.cell pb3.out)
 replace X := hid (X.out.trans x)
 clear x hE
 cases hP : isPf b le co with
 | false =>
  have hp := hid (show nvrE l u c s 0 b le co = 3 by rw [hs1.out, if_pos (fun h => by have := h.2; rw [hP] at this; cases this)])
  clear hs1
  replace hP := hid hP
  have r_tu0 := tu0.out
  have l_tu0 := cell_lt r_tu0
  dsimp only at l_tu0
  have r_tu1 := tu1.out
  have l_tu1 := cell_lt r_tu1
  dsimp only at l_tu1
  have r_pb0 := pb0.out
  have l_pb0 := cell_lt r_pb0
  dsimp only at l_pb0
  have r_pb1 := pb1.out
  have l_pb1 := cell_lt r_pb1
  dsimp only at l_pb1
  have r_pb2 := pb2.out
  have l_pb2 := cell_lt r_pb2
  dsimp only at l_pb2
  have r_pb3 := pb3.out
  have l_pb3 := cell_lt r_pb3
  dsimp only at l_pb3
  go_wp2_with fail
  go_ret
  exact ⟨ret_int hp.out.symm, by have := X.out; exact exE⟩
 | true =>
  obtain ⟨v, hu, hcc⟩ := chkB_ok g.out
  have hc3 := hid (fun W h1 => holdsR_any l v s 0 b le co (by omega) hP a cap W h1)
  have hc4 := hid (fun W => valueOfR_any u c 0 b le co hu hcc hP W)
  rw [if_neg (fun h => h ⟨by first | rfl | trivial, hP⟩)] at hs1
  replace hP := hid hP
  clear v hu hcc
  have r_tu0 := tu0.out
  have l_tu0 := cell_lt r_tu0
  dsimp only at l_tu0
  have r_tu1 := tu1.out
  have l_tu1 := cell_lt r_tu1
  dsimp only at l_tu1
  have r_pb0 := pb0.out
  have l_pb0 := cell_lt r_pb0
  dsimp only at l_pb0
  have r_pb1 := pb1.out
  have l_pb1 := cell_lt r_pb1
  dsimp only at l_pb1
  have r_pb2 := pb2.out
  have l_pb2 := cell_lt r_pb2
  dsimp only at l_pb2
  have r_pb3 := pb3.out
  have l_pb3 := cell_lt r_pb3
  dsimp only at l_pb3
  go_wp2_with fail
  refine (hc3.out _ (hM.out.ext (show Ext u3 _ from exE))).mono ?_; rintro e u4 ⟨rfl, hE⟩
  have x : Ext u3 u4 := exE
  clear r_tu0 l_tu0 r_tu1 l_tu1 r_pb0 l_pb0 r_pb1 l_pb1 r_pb2 l_pb2 r_pb3 l_pb3
  replace hM := hid (hM.out.ext x)
  replace tu0 := hid (x.cell tu0.out)
  replace tu1 := hid (x.cell tu1.out)
  replace pb0 := hid (x.cell pb0.out)
  replace pb1 := hid (x.cell pb1.out)
  replace pb2 := hid (x.cell pb2.out)
  replace pb3 := hid (x.cell pb3.out)
  replace X := hid (X.out.trans x)
  clear x hE
  cases hH : hld l s 0 b le co with
  | false =>
   have hp := hid (show nvrE l u c s 0 b le co = 14 by rw [hs1.out, if_neg (by rw [hH]; simp)])
   clear hs1
   replace hH := hid hH
   have r_tu0 := tu0.out
   have l_tu0 := cell_lt r_tu0
   dsimp only at l_tu0
   have r_tu1 := tu1.out
   have l_tu1 := cell_lt r_tu1
   dsimp only at l_tu1
   have r_pb0 := pb0.out
   have l_pb0 := cell_lt r_pb0
   dsimp only at l_pb0
   have r_pb1 := pb1.out
   have l_pb1 := cell_lt r_pb1
   dsimp only at l_pb1
   have r_pb2 := pb2.out
   have l_pb2 := cell_lt r_pb2
   dsimp only at l_pb2
   have r_pb3 := pb3.out
   have l_pb3 := cell_lt r_pb3
   dsimp only at l_pb3
   go_wp2_with fail
   go_ret
   exact ⟨ret_int hp.out.symm, by have := X.out; exact exE⟩
  | true =>
   have hp := hid (show nvrE l u c s 0 b le co = if 0 < valP u c b le co then 0 else 14 by rw [hs1.out, hH]; simp)
   clear hs1
   replace hH := hid hH
   obtain ⟨V, eV⟩ : ∃ V, valP u c b le co = V := ⟨_, rfl⟩
   rw [eV] at hp hc4
   clear eV
   have r_tu0 := tu0.out
   have l_tu0 := cell_lt r_tu0
   dsimp only at l_tu0
   have r_tu1 := tu1.out
   have l_tu1 := cell_lt r_tu1
   dsimp only at l_tu1
   have r_pb0 := pb0.out
   have l_pb0 := cell_lt r_pb0
   dsimp only at l_pb0
   have r_pb1 := pb1.out
   have l_pb1 := cell_lt r_pb1
   dsimp only at l_pb1
   have r_pb2 := pb2.out
   have l_pb2 := cell_lt r_pb2
   dsimp only at l_pb2
   have r_pb3 := pb3.out
   have l_pb3 := cell_lt r_pb3
   dsimp only at l_pb3
   go_wp2_with fail
   refine (hc4.out _).mono ?_; rintro e u5 ⟨rfl, hE⟩
   have x : Ext u4 u5 := exE
   clear r_tu0 l_tu0 r_tu1 l_tu1 r_pb0 l_pb0 r_pb1 l_pb1 r_pb2 l_pb2 r_pb3 l_pb3
   replace hM := hid (hM.out.ext x)
   replace tu0 := hid (x.cell tu0.out)
   replace tu1 := hid (x.cell tu1.out)
   replace pb0 := hid (x.cell pb0.out)
   replace pb1 := hid (x.cell pb1.out)
   replace pb2 := hid (x.cell pb2.out)
   replace pb3 := hid (x.cell pb3.out)
   replace X := hid (X.out.trans x)
   clear x hE
   by_cases hV : V ≤ 0
   ·rw [if_neg (by omega)] at hp
    have r_tu0 := tu0.out
    have l_tu0 := cell_lt r_tu0
    dsimp only at l_tu0
    have r_tu1 := tu1.out
    have l_tu1 := cell_lt r_tu1
    dsimp only at l_tu1
    have r_pb0 := pb0.out
    have l_pb0 := cell_lt r_pb0
    dsimp only at l_pb0
    have r_pb1 := pb1.out
    have l_pb1 := cell_lt r_pb1
    dsimp only at l_pb1
    have r_pb2 := pb2.out
    have l_pb2 := cell_lt r_pb2
    dsimp only at l_pb2
    have r_pb3 := pb3.out
    have l_pb3 := cell_lt r_pb3
    dsimp only at l_pb3
    go_wp2_with fail
    go_ret
    exact ⟨ret_int hp.out.symm, by have := X.out; exact exE⟩
   ·rw [if_pos (by omega)] at hp
    have r_tu0 := tu0.out
    have l_tu0 := cell_lt r_tu0
    dsimp only at l_tu0
    have r_tu1 := tu1.out
    have l_tu1 := cell_lt r_tu1
    dsimp only at l_tu1
    have r_pb0 := pb0.out
    have l_pb0 := cell_lt r_pb0
    dsimp only at l_pb0
    have r_pb1 := pb1.out
    have l_pb1 := cell_lt r_pb1
    dsimp only at l_pb1
    have r_pb2 := pb2.out
    have l_pb2 := cell_lt r_pb2
    dsimp only at l_pb2
    have r_pb3 := pb3.out
    have l_pb3 := cell_lt r_pb3
    dsimp only at l_pb3
    go_wp2_with fail
    go_ret
    exact ⟨ret_int hp.out.symm, by have := X.out; exact exE⟩
theorem isPf_in (b le co : Int) : isPf b le co = (inR (-68719476736) 68719476736 b && allIn 0 68719476736 [le, co]) := by
 rw [Bool.eq_iff_iff, isPf_iff]
 simp only [inR, allIn, List.all_cons, List.all_nil, Bool.and_true, Bool.and_eq_true, decide_eq_true_eq]
theorem numbers_any (lo hi d b le co : Int) (qd : I64 d) (qb : I64 b) (ql : I64 le) (qc : I64 co) (w : World) :
 Calls Try.prog 72 #[.int .i64 lo, .int .i64 hi, (.agg #[.int .i64 (d), .int .i64 (b), .int .i64 (le), .int .i64 (co)])] w fun e w' => e = .returned (.bool (inR lo hi d && isPf b le co)) ∧ Ext w w' := by
 have h1 := hid (fun B W hI => within1_any lo hi d B W hI qd)
 have h2 := hid (fun B W hI => within1_any (-68719476736) 68719476736 b B W hI qb)
 have h3 := hid (fun B W hI => within_any 0 68719476736 (some ⟨B, 0, none⟩) 2 [le, co] W hI (by simp) (i64_two ql qc))
 rw [isPf_in]
 cases g1 : inR lo hi d with
 | false =>
  rw [g1] at h1
  replace g1 := hid g1
  go_enter Try.func72, Try.ntmps72
  go_wp2_with fail
  refine (h1.out _ _ (by exact lit1 (by simp))).mono ?_; rintro e w1 ⟨rfl, hE⟩
  go_wp2_with fail
  go_ret
  exact ⟨ret_bool rfl, exE⟩
 | true =>
  rw [g1] at h1
  replace g1 := hid g1
  cases g2 : inR (-68719476736) 68719476736 b with
  | false =>
   rw [g2] at h2
   replace g2 := hid g2
   go_enter Try.func72, Try.ntmps72
   go_wp2_with fail
   refine (h1.out _ _ (by exact lit1 (by simp))).mono ?_; rintro e w1 ⟨rfl, hE⟩
   have q1 := hE.cell (p := ⟨w.heap.size, 1, none⟩) (v := .int .i64 b) (by simp [go_sem])
   go_wp2_with fail
   refine (h2.out _ _ (by exact lit1 (by simp))).mono ?_; rintro e w2 ⟨rfl, hE2⟩
   go_wp2_with fail
   go_ret
   exact ⟨ret_bool rfl, exE⟩
  | true =>
   rw [g2] at h2
   replace g2 := hid g2
   go_enter Try.func72, Try.ntmps72
   go_wp2_with fail
   refine (h1.out _ _ (by exact lit1 (by simp))).mono ?_; rintro e w1 ⟨rfl, hE⟩
   have q1 := hE.cell (p := ⟨w.heap.size, 1, none⟩) (v := .int .i64 b) (by simp [go_sem])
   have q2 := hE.cell (p := ⟨w.heap.size, 2, none⟩) (v := .int .i64 le) (by simp [go_sem])
   have q3 := hE.cell (p := ⟨w.heap.size, 3, none⟩) (v := .int .i64 co) (by simp [go_sem])
   go_wp2_with fail
   refine (h2.out _ _ (by exact lit1 (by simp))).mono ?_; rintro e w2 ⟨rfl, hE2⟩
   have x12 : Ext w1 w2 := exE
   have q2 := x12.cell q2
   have q3 := x12.cell q3
   go_wp2_with fail
   refine (h3.out _ _ (by exact lit2 (by simp))).mono ?_; rintro e w3 ⟨rfl, hE3⟩
   go_wp2_with fail
   go_ret
   exact ⟨ret_bool rfl, exE⟩
end Go.Proofs.Ytpnfhcnnodolbaa
