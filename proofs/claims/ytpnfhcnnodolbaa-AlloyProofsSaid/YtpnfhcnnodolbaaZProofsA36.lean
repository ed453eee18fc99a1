/- Texts of one proof, laid together: Ag, Ai, Aj, Ak. -/
import Derived.Test.YtpnfhcnnodolbaaZY10
import Derived.Test.YtpnfhcnnodolbaaZY7
import Derived.Test.YtpnfhcnnodolbaaZY2
import Derived.Test.YtpnfhcnnodolbaaZProofsA34
import Derived.Test.YtpnfhcnnodolbaaZY17
import Derived.Test.YtpnfhcnnodolbaaZY16
import Derived.Test.YtpnfhcnnodolbaaZY8
import Derived.Test.YtpnfhcnnodolbaaZProofsA35
import Derived.Test.YtpnfhcnnodolbaaZY12
import Derived.Test.YtpnfhcnnodolbaaZY18
set_option linter.unusedVariables false
set_option linter.unusedSimpArgs false
set_option linter.unusedSectionVars false
set_option linter.unnecessarySimpa false
set_option maxRecDepth 100000
namespace Go.Proofs.Ytpnfhcnnodolbaa
open Go Go.RowKit Game
set_option maxHeartbeats 2000000 in
theorem costOfR_any (l : List Met) (v : VldM l) (x : List Int) (hx : ∀ i, 0 ≤ nth x i ∧ nth x i ≤ 10000000) (hlx : x.length = l.length) (hs : 0 < psum x) (a : Option Addr) (cap : Nat) (a2 : Option Addr) (c2 : Nat) (w : World) (hM : Mts w a l) (hI : Ints w a2 x) :
 Calls Try.prog 32 #[.slice a l.length cap, .slice a2 x.length c2] w fun e w' => e = .returned (.agg #[.int .i64 (ratN (costN l x l.length) (psum x)), .int .i64 (ratD (costN l x l.length) (psum x))]) ∧ Ext w w' := by
 have n1 := v.n1; have n6 := v.n6
 have hb := hid (cost_bd v hx)
 have hps := hid (sm_bd (n := x.length) (f := nth x) (B := 10000000) fun i _ => hx i)
 have hsum := hid (fun W hW => sumR_any x (fun i => ⟨(hx i).1, by have := (hx i).2; omega⟩) (by omega) a2 c2 W hW)
 have hI' := hid hI
 have hpr := hid v.pr
 have hx' := hid hx
 obtain ⟨b, off, rfl, hbl, hc⟩ := hM.at (by omega)
 have HC := hid hc
 obtain ⟨b2, o2, rfl, hb2, hc2⟩ := hI.at (by omega)
 have HC2 := hid hc2
 have hst : Hid (∀ n, costN l x (n + 1) = costN l x n + nth x n * (mtl l n).p) := hid fun n => rfl
 have hc0 : Hid (costN l x 0 = 0) := hid rfl
 obtain ⟨F, hF⟩ : ∃ F, costN l x = F := ⟨_, rfl⟩
 rw [hF] at hb hst hc0 ⊢
 obtain ⟨N, hN⟩ : ∃ N, l.length = N := ⟨_, rfl⟩
 rw [hN] at HC hlx n1 n6 ⊢
 rw [hlx] at HC2 hsum ⊢
 have hps2 : Hid (psum x ≤ 60000000) := hid (by have := hps.out.2; unfold psum; rw [hlx] at this ⊢; omega)
 have hby := hid (fun W => byR_any (F N) (psum x) (by have := (hb.out N).1; omega) (by have := (hb.out N).2; omega) hs (by have := hps2.out; omega) W)
 obtain ⟨S, hS⟩ : ∃ S, psum x = S := ⟨_, rfl⟩
 rw [hS] at hsum hby ⊢
 replace hF := hid hF
 replace hN := hid hN
 replace hlx := hid hlx
 replace hS := hid hS
 clear hM hI hc hc2 v hx hps hs hps2
 go_enter Try.func32, Try.ntmps32
 go_wp2_with fail
 refine name_wp (fun w0 hw0 => ?_)
 have x0 : Ext w w0 := by rw [hw0]; exact exE
 have r0 : w0.cell? ⟨w.heap.size, 0, none⟩ = some (.int .i64 0) := by rw [hw0]; simp [go_sem]
 have r1 : w0.cell? ⟨w.heap.size, 1, none⟩ = some (.int .i64 0) := by rw [hw0]; simp [go_sem]
 have s0 : w0.frozen? ⟨w.heap.size, 0, none⟩ = false := by rw [hw0]; simp [go_sem]
 have s1 : w0.frozen? ⟨w.heap.size, 1, none⟩ = false := by rw [hw0]; simp [go_sem]
 have hbx := hid (Bx2.mk r0 r1 s0 s1)
 replace x0 := hid x0
 clear hw0 r0 r1 s0 s1
 obtain ⟨Bc, hBc⟩ : ∃ B, w.heap.size = B := ⟨_, rfl⟩
 rw [hBc] at hbx ⊢
 have hBl := hid (show w.heap.size ≤ Bc by omega)
 replace hBc := hid hBc
 go_loopw [5, 6] (fun s i wr => ∃ k : Nat, k ≤ N ∧ i = .int .i64 k ∧ s = .int .i64 (F k) ∧ Hid (Ext w0 wr)) (fun _ i _ => (N - intOf i).toNat)
 case atStart => exact ⟨0, by omega, rfl, by rw [hc0.out], hid (Ext.refl _)⟩
 case round =>
  obtain ⟨k, hk, rfl, rfl, hw⟩ := hrel
  by_cases hkl : k < N
  ·have e0 := ((HC.out k hkl).ext (x0.out.trans hw.out)).1
   have e1 := (x0.out.trans hw.out).cell (HC2.out k hkl)
   have h1 := hb.out k
   have h2 := hb.out (k + 1)
   have h3 := hst.out k
   have h4 := hx'.out k
   have h5 := hpr.out k
   obtain ⟨p, hp⟩ : ∃ p, (mtl l k).p = p := ⟨_, rfl⟩
   obtain ⟨y, hy⟩ : ∃ y, nth x k = y := ⟨_, rfl⟩
   obtain ⟨z, hz⟩ : ∃ z, F k = z := ⟨_, rfl⟩
   rw [hp] at e0 h3 h5
   rw [hy] at e1 h3 h4
   rw [hz] at h1 h3
   have h6 : 0 ≤ y * p ∧ y * p ≤ 10000000000 := ⟨Int.mul_nonneg h4.1 h5.1, by have := Int.mul_le_mul_of_nonneg_left h5.2 h4.1; omega⟩
   have z1 := Go.IntWalk.i64_in (y * p) (by omega)
   have z2 := Go.IntWalk.i64_in (z + y * p) (by omega)
   have z3 := Go.IntWalk.i64_in ((k : Int) + 1) (by omega)
   have hkI : (k : Int) < (N : Int) := by omega
   rw [hz]
   replace h3 := hid h3
   replace hp := hid hp
   replace hy := hid hy
   replace hz := hid hz
   clear h1 h2 h4 h5 h6
   go_wp2_with fail
   go_quiet (fail)
   go_wp2
   go_roundw
   case rel => exact ⟨k + 1, by omega, by go_num, by rw [h3.out], hid (hw.out.trans exE)⟩
   case measure => simp [intOf]; omega
  ·have hkN : k = N := by omega
   have hnn : ¬ (N : Int) < (N : Int) := by omega
   rw [hkN]
   have hB := hid (hbx.out.ext hw.out)
   have xw := hid (x0.out.trans hw.out)
   clear hkN hk hkl hw
   go_wp2_with fail
   refine (hsum.out _ (hI'.out.ext (by have := xw.out; exact exE))).mono ?_; rintro e w1 ⟨rfl, hE⟩
   have hB1 := hid (hB.out.ext (show Ext wr w1 from exE))
   have x1 := hid (xw.out.trans (show Ext wr w1 from exE))
   clear hE
   go_wp2_with fail
   refine (hby.out _).mono ?_; rintro e w2 ⟨rfl, hE⟩
   have hB2 := hid (hB1.out.ext (show Ext w1 w2 from exE))
   have x2 := x1.out.trans (show Ext w1 w2 from exE)
   obtain ⟨k1, k2, k3, k4⟩ := hB2.out
   have hBl2 := hBl.out
   clear hE
   go_wp2_with fail
   refine bodyPost_ret (v := .agg #[.int .i64 (ratN (F N) S), .int .i64 (ratD (F N) S)]) ?_ rfl ?_
   ·simp [results, Try.results32, go_sem, *]
   ·exact ⟨rfl, exE⟩
set_option maxHeartbeats 2000000 in
theorem spareR_any (m : Met) (u c : Int) (s cp : Bool) (hb : 0 ≤ badL m s ∧ badL m s ≤ 1000) (hg : 0 ≤ goodC m s ∧ goodC m s ≤ 1000) (hu : 0 ≤ u ∧ u ≤ 1000) (hc : 0 ≤ c ∧ c ≤ 1000) (w : World) :
 Calls Try.prog 96 #[(.agg #[.int .i64 m.p, .int .i64 m.ll, .int .i64 m.lh, .int .i64 m.cl, .int .i64 m.ch]), (.agg #[.int .i64 (u), .int .i64 (c)]), .bool s, .bool cp] w fun e w' => e = .returned (.int .i64 (spr m u c s cp)) ∧ Ext w w' := by
 have hA := hid (fun W => badR_any m s W)
 have hB := hid (fun W => goodR_any m s W)
 have h1 : Hid (spr m u c s cp = if cp then c - goodC m s else badL m s - u) := hid rfl
 obtain ⟨p1, hp1⟩ : ∃ z, badL m s = z := ⟨_, rfl⟩
 obtain ⟨p2, hp2⟩ : ∃ z, goodC m s = z := ⟨_, rfl⟩
 rw [hp1] at hA hb h1
 rw [hp2] at hB hg h1
 obtain ⟨m0, hm0⟩ : ∃ z, m.p = z := ⟨_, rfl⟩
 obtain ⟨m1, hm1⟩ : ∃ z, m.ll = z := ⟨_, rfl⟩
 obtain ⟨m2, hm2⟩ : ∃ z, m.lh = z := ⟨_, rfl⟩
 obtain ⟨m3, hm3⟩ : ∃ z, m.cl = z := ⟨_, rfl⟩
 obtain ⟨m4, hm4⟩ : ∃ z, m.ch = z := ⟨_, rfl⟩
 rw [hm0, hm1, hm2, hm3, hm4] at hA hB ⊢
 obtain ⟨R, hR⟩ : ∃ R, spr m u c s cp = R := ⟨_, rfl⟩
 rw [hR] at h1 ⊢
 clear hp1 hp2 hm0 hm1 hm2 hm3 hm4 hR
 have t1 := Go.IntWalk.i64_in (c - p2) (by omega)
 have t2 := Go.IntWalk.i64_in (p1 - u) (by omega)
 clear hb hg hu hc
 cases cp with
 | true =>
  rw [if_pos rfl] at h1
  go_enter Try.func96, Try.ntmps96
  go_wp2_with fail
  refine name_wp (fun w0 hw0 => ?_)
  have x0 : Ext w w0 := by rw [hw0]; exact exE
  have j0 : w0.cell? ⟨w.heap.size, 0, none⟩ = some (.int .i64 m0) := by rw [hw0]; simp [go_sem]
  have j1 : w0.cell? ⟨w.heap.size, 1, none⟩ = some (.int .i64 m1) := by rw [hw0]; simp [go_sem]
  have j2 : w0.cell? ⟨w.heap.size, 2, none⟩ = some (.int .i64 m2) := by rw [hw0]; simp [go_sem]
  have j3 : w0.cell? ⟨w.heap.size, 3, none⟩ = some (.int .i64 m3) := by rw [hw0]; simp [go_sem]
  have j4 : w0.cell? ⟨w.heap.size, 4, none⟩ = some (.int .i64 m4) := by rw [hw0]; simp [go_sem]
  have j6 : w0.cell? ⟨w.heap.size + 1, 1, none⟩ = some (.int .i64 c) := by rw [hw0]; simp [go_sem]
  clear hw0
  generalize w.heap.size + 1 = C at *
  generalize w.heap.size = B at *
  replace x0 := hid x0
  refine name_act (fun A_ hA_ => ?_)
  obtain ⟨Q2, hQ2⟩ : ∃ Q2 : Exit → Act → World → Prop, Q2 = fun e a' w' => e = .normal ∧ ∃ (v0_ v3_ : Value), a' = (((((((A_.put (some 10) (v0_)).put (some 11) (.int .i64 c)).put (some 12) (.agg #[.int .i64 m0, .int .i64 m1, .int .i64 m2, .int .i64 m3, .int .i64 m4])).put (some 13) (v3_)).put (some 14) (.int .i64 p2)).put (some 15) (.int .i64 (c - p2))).put (some 8) (.int .i64 (c - p2))) ∧ Ext w0 w' := ⟨_, rfl⟩
  have hpan : ∀ c a a' w w', Q2 (.panic c) a w → Q2 (.panic c) a' w' := by rw [hQ2]; rintro c a a' w w' ⟨h, _⟩; cases h
  replace hQ2 := hid hQ2
  refine wp_mono (Q := Q2) ?_ ?_
  ·subst hA_
   have hRD_ := hid (fun w' (x_ : Ext w0 w') => And.intro (Ext.cell x_ j0) (And.intro (Ext.cell x_ j1) (And.intro (Ext.cell x_ j2) (And.intro (Ext.cell x_ j3) (And.intro (Ext.cell x_ j4) (Ext.cell x_ j6))))))
   refine wp_region_held_drew (S := fun w' => Ext w0 w') (by kernel_rfl) exE fun hHeld => ?_
   refine name_any (fun W0 hW => ?_)
   have s0 : Ext w0 W0 := by rw [hW]; exact hHeld
   clear hW hHeld
   refine tkB (i := 0) (v := ?_) rfl hpan ?yl ?_
   case yl => (intro w hSw; have k_ := hRD_.out w hSw; go_simp); with_reducible rfl
   try simp only [sxA, sxB, sxC, Act.put, sxD, sxE, sxF]
   refine tkB (i := 1) (v := ?_) rfl hpan ?yl ?_
   case yl => (intro w hSw; have k_ := hRD_.out w hSw; go_simp); with_reducible rfl
   try simp only [sxA, sxB, sxC, Act.put, sxD, sxE, sxF]
   refine tkB (i := 2) (v := ?_) rfl hpan ?yl ?_
   case yl => (intro w hSw; have k_ := hRD_.out w hSw; go_simp); with_reducible rfl
   try simp only [sxA, sxB, sxC, Act.put, sxD, sxE, sxF]
   refine tkB (i := 3) (v := ?_) rfl hpan ?yl ?_
   case yl => (intro w hSw; have k_ := hRD_.out w hSw; go_simp); with_reducible rfl
   try simp only [sxA, sxB, sxC, Act.put, sxD, sxE, sxF]
   refine wpAnyH_ready (rs := [4]) (by kernel_rfl) (by simp) ?_
   refine AllReadyH.cons (o := _) rfl (fun K hK => ?_) AllReadyH.nil
   go_simp
   refine (hB.out _).mono ?_; rintro e W1 ⟨rfl, e1⟩
   have s1 := s0.trans e1
   refine hK.out _ _ s1 (fun _ => ?_)
   clear hK K
   (try simp only [sxA, sxB, sxC, Act.put, sxD, sxE, sxF])
   refine tkB (i := 5) (v := .int .i64 (c - p2)) rfl hpan ?yl ?_
   case yl => (intro w hSw; have k_ := hRD_.out w hSw; go_simp; first | done | with_reducible rfl | (simp only [t1]; done) | (simp [t1]; done))
   try simp only [sxA, sxB, sxC, Act.put, sxD, sxE, sxF]
   refine tkB (i := 6) (v := .int .i64 (c - p2)) rfl hpan ?yl ?_
   case yl => (intro w hSw; have k_ := hRD_.out w hSw; go_simp; first | done | with_reducible rfl | (simp only [t1]; done) | (simp [t1]; done))
   try simp only [sxA, sxB, sxC, Act.put, sxD, sxE, sxF]
   refine wpAnyH_done (by kernel_rfl) ?_ _
   try simp only [sxA, sxB, sxC, Act.put, sxD, sxE, sxF]
   rw [hQ2.out]
   refine ⟨rfl, ?u1_0_1, ?u1_1_1, ?eq1_1, s1⟩
   case eq1_1 => ((try simp only [sxA, sxB, sxC, Act.put, sxD, sxE, sxF]); first | done | with_reducible rfl | rfl)
  rw [hQ2.out]
  rintro e a' wa ⟨rfl, v0_, v3_, rfl, x⟩
  clear hQ2 hpan; clear Q2
  subst hA_
  simp only [sxA, sxB, sxC, Act.put, sxD, sxE, sxF]
  have xx := x0.out.trans x
  go_wp2_with fail
  go_ret
  exact ⟨ret_int h1.out.symm, xx⟩
 | false =>
  rw [if_neg (by decide)] at h1
  go_enter Try.func96, Try.ntmps96
  go_wp2_with fail
  refine name_wp (fun w0 hw0 => ?_)
  have x0 : Ext w w0 := by rw [hw0]; exact exE
  have j0 : w0.cell? ⟨w.heap.size, 0, none⟩ = some (.int .i64 m0) := by rw [hw0]; simp [go_sem]
  have j1 : w0.cell? ⟨w.heap.size, 1, none⟩ = some (.int .i64 m1) := by rw [hw0]; simp [go_sem]
  have j2 : w0.cell? ⟨w.heap.size, 2, none⟩ = some (.int .i64 m2) := by rw [hw0]; simp [go_sem]
  have j3 : w0.cell? ⟨w.heap.size, 3, none⟩ = some (.int .i64 m3) := by rw [hw0]; simp [go_sem]
  have j4 : w0.cell? ⟨w.heap.size, 4, none⟩ = some (.int .i64 m4) := by rw [hw0]; simp [go_sem]
  have j6 : w0.cell? ⟨w.heap.size + 1, 0, none⟩ = some (.int .i64 u) := by rw [hw0]; simp [go_sem]
  clear hw0
  generalize w.heap.size + 1 = C at *
  generalize w.heap.size = B at *
  replace x0 := hid x0
  refine name_act (fun A_ hA_ => ?_)
  obtain ⟨Q2, hQ2⟩ : ∃ Q2 : Exit → Act → World → Prop, Q2 = fun e a' w' => e = .normal ∧ ∃ (v1_ v3_ : Value), a' = (((((((A_.put (some 16) (.agg #[.int .i64 m0, .int .i64 m1, .int .i64 m2, .int .i64 m3, .int .i64 m4])).put (some 17) (v1_)).put (some 18) (.int .i64 p1)).put (some 19) (v3_)).put (some 20) (.int .i64 u)).put (some 21) (.int .i64 (p1 - u))).put (some 8) (.int .i64 (p1 - u))) ∧ Ext w0 w' := ⟨_, rfl⟩
  have hpan : ∀ c a a' w w', Q2 (.panic c) a w → Q2 (.panic c) a' w' := by rw [hQ2]; rintro c a a' w w' ⟨h, _⟩; cases h
  replace hQ2 := hid hQ2
  refine wp_mono (Q := Q2) ?_ ?_
  ·subst hA_
   have hRD_ := hid (fun w' (x_ : Ext w0 w') => And.intro (Ext.cell x_ j0) (And.intro (Ext.cell x_ j1) (And.intro (Ext.cell x_ j2) (And.intro (Ext.cell x_ j3) (And.intro (Ext.cell x_ j4) (Ext.cell x_ j6))))))
   refine wp_region_held_drew (S := fun w' => Ext w0 w') (by kernel_rfl) exE fun hHeld => ?_
   refine name_any (fun W0 hW => ?_)
   have s0 : Ext w0 W0 := by rw [hW]; exact hHeld
   clear hW hHeld
   refine tkB (i := 0) (v := ?_) rfl hpan ?yl ?_
   case yl => (intro w hSw; have k_ := hRD_.out w hSw; go_simp); with_reducible rfl
   try simp only [sxA, sxB, sxC, Act.put, sxD, sxE, sxF]
   refine tkB (i := 1) (v := ?_) rfl hpan ?yl ?_
   case yl => (intro w hSw; have k_ := hRD_.out w hSw; go_simp); with_reducible rfl
   try simp only [sxA, sxB, sxC, Act.put, sxD, sxE, sxF]
   refine tkB (i := 3) (v := ?_) rfl hpan ?yl ?_
   case yl => (intro w hSw; have k_ := hRD_.out w hSw; go_simp); with_reducible rfl
   try simp only [sxA, sxB, sxC, Act.put, sxD, sxE, sxF]
   refine tkB (i := 4) (v := ?_) rfl hpan ?yl ?_
   case yl => (intro w hSw; have k_ := hRD_.out w hSw; go_simp); with_reducible rfl
   try simp only [sxA, sxB, sxC, Act.put, sxD, sxE, sxF]
   refine wpAnyH_ready (rs := [2]) (by kernel_rfl) (by simp) ?_
   refine AllReadyH.cons (o := _) rfl (fun K hK => ?_) AllReadyH.nil
   go_simp
   refine (hA.out _).mono ?_; rintro e W1 ⟨rfl, e1⟩
   have s1 := s0.trans e1
   refine hK.out _ _ s1 (fun _ => ?_)
   clear hK K
   (try simp only [sxA, sxB, sxC, Act.put, sxD, sxE, sxF])
   refine tkB (i := 5) (v := .int .i64 (p1 - u)) rfl hpan ?yl ?_
   case yl => (intro w hSw; have k_ := hRD_.out w hSw; go_simp; first | done | with_reducible rfl | (simp only [t2]; done) | (simp [t2]; done))
   try simp only [sxA, sxB, sxC, Act.put, sxD, sxE, sxF]
   refine tkB (i := 6) (v := .int .i64 (p1 - u)) rfl hpan ?yl ?_
   case yl => (intro w hSw; have k_ := hRD_.out w hSw; go_simp; first | done | with_reducible rfl | (simp only [t2]; done) | (simp [t2]; done))
   try simp only [sxA, sxB, sxC, Act.put, sxD, sxE, sxF]
   refine wpAnyH_done (by kernel_rfl) ?_ _
   try simp only [sxA, sxB, sxC, Act.put, sxD, sxE, sxF]
   rw [hQ2.out]
   refine ⟨rfl, ?u2_0_1, ?u2_1_1, ?eq2_1, s1⟩
   case eq2_1 => ((try simp only [sxA, sxB, sxC, Act.put, sxD, sxE, sxF]); first | done | with_reducible rfl | rfl)
  rw [hQ2.out]
  rintro e a' wa ⟨rfl, v1_, v3_, rfl, x⟩
  clear hQ2 hpan; clear Q2
  subst hA_
  simp only [sxA, sxB, sxC, Act.put, sxD, sxE, sxF]
  have xx := x0.out.trans x
  go_wp2_with fail
  go_ret
  exact ⟨ret_int h1.out.symm, xx⟩
def RetO (l : List Int) (w : World) (e : Ending) (w' : World) : Prop := ∃ a cap, e = .returned (.slice a l.length cap) ∧ OwnI w' w.heap.size 2 (.slice a l.length cap) l ∧ Ext w w'
theorem low_le (p : List Int) : ∀ k, lowN p k ≤ 0
 | 0 => Int.le_refl _
 | k + 1 => by have := low_le p k; simp only [lowN]; split <;> omega
theorem high_ge (p : List Int) : ∀ k, 0 ≤ highN p k
 | 0 => Int.le_refl _
 | k + 1 => by have := high_ge p k; simp only [highN]; split <;> omega
theorem outN_len (n : Nat) (t : List Nat) (p : List Int) : ∀ k, (outN n t p k).length = n
 | 0 => by simp [outN]
 | k + 1 => by simp [outN, outN_len n t p k]
set_option maxHeartbeats 4000000 in
theorem putR_any (n : Nat) (n1 : 1 ≤ n) (n6 : n ≤ 6) (t : List Nat) (ht : ∀ k, t.getD k 0 < n) (p : List Int) (hp : ∀ i, -100000000 ≤ nth p i ∧ nth p i ≤ 100000000) (hl : t.length = p.length) (hl3 : p.length ≤ 3) (hl1 : 1 ≤ p.length) (a : Option Addr) (cap : Nat) (a2 : Option Addr) (c2 : Nat) (w : World) (hI : Ints w a (asI t)) (hJ : Ints w a2 p) :
 Calls Try.prog 95 #[.int .i64 n, .slice a t.length cap, .slice a2 p.length c2] w (RetO (putL n t p) w) := by
 have hlen : (asI t).length = t.length := by simp [asI]
 have hnt : ∀ k, k < t.length → nth (asI t) k = (t.getD k 0 : Nat) := fun k hk => by
  simp [asI, nth, List.getD_eq_getElem?_getD, List.getElem?_map, List.getElem?_eq_getElem hk]
 obtain ⟨b, off, rfl, hbl, hc1⟩ := hI.at (by omega)
 rw [hlen] at hc1
 obtain ⟨b2, o2, rfl, hb2l, hc2⟩ := hJ.at (by omega)
 have HC : Hid (∀ i, i < t.length → w.cell? ⟨b, off + i, none⟩ = some (.int .i64 (t.getD i 0 : Nat))) := hid fun i hi => by rw [← hnt i hi]; exact hc1 i hi
 have HC2 := hid hc2
 have hst1 : Hid (∀ k, lowN p (k + 1) = if nth p k < lowN p k then nth p k else lowN p k) := hid fun k => rfl
 have hst2 : Hid (∀ k, highN p (k + 1) = if highN p k < nth p k then nth p k else highN p k) := hid fun k => rfl
 have hst3 : Hid (∀ k, outN n t p (k + 1) = (outN n t p k).set (t.getD k 0) (absI (nth p k))) := hid fun k => rfl
 have h10 : Hid (lowN p 0 = 0) := hid rfl
 have h20 : Hid (highN p 0 = 0) := hid rfl
 have h30 : Hid (outN n t p 0 = List.replicate n 0) := hid rfl
 have hlo := hid (low_le p)
 have hhi := hid (high_ge p)
 have hol := hid (outN_len n t p)
 have hres : Hid (putL n t p = if (lowN p p.length < 0 ∧ 0 < highN p p.length) ∨ (lowN p p.length = 0 ∧ highN p p.length = 0) then [] else outN n t p p.length) := hid rfl
 obtain ⟨F, hF⟩ : ∃ F, lowN p = F := ⟨_, rfl⟩
 obtain ⟨G, hG⟩ : ∃ G, highN p = G := ⟨_, rfl⟩
 obtain ⟨O, hO⟩ : ∃ O, outN n t p = O := ⟨_, rfl⟩
 rw [hF] at hst1 h10 hlo hres
 rw [hG] at hst2 h20 hhi hres
 rw [hO] at hst3 h30 hol hres
 obtain ⟨R, hR⟩ : ∃ R, putL n t p = R := ⟨_, rfl⟩
 rw [hR] at hres ⊢
 rw [hl] at HC ⊢
 obtain ⟨M, hM⟩ : ∃ M, p.length = M := ⟨_, rfl⟩
 rw [hM] at HC HC2 hres hl3 hl1 ⊢
 have hp' := hid hp
 have ht' := hid ht
 clear hF hG hO hR hM hI hJ hc1 hc2 hlen hnt hl hp ht
 replace hbl := hid hbl
 replace hb2l := hid hb2l
 go_enter Try.func95, Try.ntmps95
 go_wp2_with (at_make; refine make_ints rfl _ _ 25 rfl 2 Try.underlying25 elemI64 n rfl rfl (by omega) ?_; intro w5 ho5 hx5)
 have hN5 := hid (show w.heap.size < w5.heap.size from (ho5.block _ rfl).2)
 have ho5 := hid ho5
 have hx5 := hid hx5
 have hB : w.heap.size ≤ w.heap.size := Nat.le_refl _
 obtain ⟨B, eB⟩ : ∃ B, w.heap.size = B := ⟨_, rfl⟩
 rw [eB] at ho5 hN5 hbl hb2l ⊢
 have hBB : w.heap.size ≤ B := by omega
 replace eB := hid eB
 clear hB
 go_loopw [8, 9, 10] (fun lo hi i wr => ∃ k : Nat, k ≤ M ∧ i = .int .i64 k ∧ lo = .int .i64 (F k) ∧ hi = .int .i64 (G k) ∧ Hid (OwnI wr B 2 (.slice (some ⟨B, 0, none⟩) n n) (O k)) ∧ Hid (Ext w wr)) (fun _ _ i _ => (M - intOf i).toNat)
 case atStart => exact ⟨0, by omega, rfl, by rw [h10.out], by rw [h20.out], hid (by rw [h30.out]; exact ho5.out), hid hx5.out⟩
 case round =>
  obtain ⟨k, hk, rfl, rfl, rfl, ho, hx⟩ := hrel
  by_cases hkl : k < M
  ·have j0 := hx.out.cell (HC.out k hkl)
   have j1 := hx.out.cell (HC2.out k hkl)
   have hlt := ht'.out k
   have hpk := hp'.out k
   have s1 := hst1.out k
   have s2 := hst2.out k
   have hlk := hlo.out k
   have hhk := hhi.out k
   obtain ⟨q, hq⟩ : ∃ q, t.getD k 0 = q := ⟨_, rfl⟩
   obtain ⟨y, hy⟩ : ∃ y, nth p k = y := ⟨_, rfl⟩
   have hf := ho.out.facts (j := q) (by rw [hol.out, ← hq]; exact hlt)
   have f0 := hf.1
   have f1 := hf.2.1
   have hBW := hf.2.2.2
   have hso : Hid (∀ W, Ext wr W → OwnI (World.setCell W.drew ⟨B, q, none⟩ (.int .i64 (absI y))) B 2 (.slice (some ⟨B, 0, none⟩) ((O k).set q (absI y)).length n) ((O k).set q (absI y))) := hid (fun W hW => OwnI.set (l := O k) (by rw [hol.out]; exact (ho.out.ext hW).ext exE) (absI y))
   have hll : Hid (((O k).set q (absI y)).length = n) := hid (by rw [List.length_set, hol.out])
   have s3 := hid (show (O k).set (t.getD k 0) (absI (nth p k)) = (O k).set q (absI y) by rw [hq, hy])
   rw [hq] at j0 hlt
   rw [hy] at j1 hpk s1 s2
   obtain ⟨lo, hlo'⟩ : ∃ z, F k = z := ⟨_, rfl⟩
   obtain ⟨hi, hhi'⟩ : ∃ z, G k = z := ⟨_, rfl⟩
   rw [hlo'] at s1 hlk ⊢
   rw [hhi'] at s2 hhk ⊢
   obtain ⟨v0, hv0⟩ : ∃ z, nth (O k) q = z := ⟨_, rfl⟩
   rw [hv0] at f0
   have t5 := Go.IntWalk.i64_in ((k : Int) + 1) (by omega)
   have t6 := Go.IntWalk.i64_in (-y) (by omega)
   have hkI : (k : Int) < (M : Int) := by omega
   have hqI : (q : Int) < (n : Int) := by omega
   have hBW2 := hid (Nat.lt_of_lt_of_le hbl.out (show B ≤ wr.heap.size by omega))
   clear hq hy hlo' hhi' hv0 hf
   rcases Int.lt_or_le y 0 with hy0 | hy0
   ·have ha : absI y = -y := if_pos hy0
    rw [ha] at hso hll s3
    rw [if_neg (by omega)] at s2
    rcases Int.lt_or_le y lo with g | g
    ·rw [if_pos g] at s1
     go_wp2_with fail
     go_quiet (fail)
     go_wp2_with fail
     refine name_wp (fun wq hwq => ?_)
     have xq : Ext wr wq := by rw [hwq]; exact exE
     clear hwq
     replace j0 := xq.cell j0
     replace j1 := xq.cell j1
     replace f1 := (xq.frozen (cell_lt f0)).trans f1
     replace f0 := xq.cell f0
     replace hBW := Nat.lt_of_lt_of_le hBW xq.size
     have hso := hid (hso.out wq xq)
     replace hx := hid (hx.out.trans xq)
     clear xq
     go_still_tail 16, (by kernel_rfl)
     change wpList _ _ _ _ _ (World.drew _)
     go_wp2_with fail
     go_roundw
     case rel => exact ⟨k + 1, by omega, by go_num, by rw [s1], by rw [s2], hid (by rw [hst3.out, s3.out]; have h := hso.out; rw [hll.out] at h; exact h), hid (by have := hx.out; exact exE)⟩
     case measure => simp [intOf]; omega
    ·rw [if_neg (by omega)] at s1
     go_wp2_with fail
     go_quiet (fail)
     go_wp2_with fail
     refine name_wp (fun wq hwq => ?_)
     have xq : Ext wr wq := by rw [hwq]; exact exE
     clear hwq
     replace j0 := xq.cell j0
     replace j1 := xq.cell j1
     replace f1 := (xq.frozen (cell_lt f0)).trans f1
     replace f0 := xq.cell f0
     replace hBW := Nat.lt_of_lt_of_le hBW xq.size
     have hso := hid (hso.out wq xq)
     replace hx := hid (hx.out.trans xq)
     clear xq
     go_still_tail 16, (by kernel_rfl)
     change wpList _ _ _ _ _ (World.drew _)
     go_wp2_with fail
     go_roundw
     case rel => exact ⟨k + 1, by omega, by go_num, by rw [s1], by rw [s2], hid (by rw [hst3.out, s3.out]; have h := hso.out; rw [hll.out] at h; exact h), hid (by have := hx.out; exact exE)⟩
     case measure => simp [intOf]; omega
   ·have ha : absI y = y := if_neg (by omega)
    rw [ha] at hso hll s3
    rw [if_neg (by omega)] at s1
    rcases Int.lt_or_le hi y with g | g
    ·rw [if_pos g] at s2
     go_wp2_with fail
     go_quiet (fail)
     go_wp2_with fail
     refine name_wp (fun wq hwq => ?_)
     have xq : Ext wr wq := by rw [hwq]; exact exE
     clear hwq
     replace j0 := xq.cell j0
     replace j1 := xq.cell j1
     replace f1 := (xq.frozen (cell_lt f0)).trans f1
     replace f0 := xq.cell f0
     replace hBW := Nat.lt_of_lt_of_le hBW xq.size
     have hso := hid (hso.out wq xq)
     replace hx := hid (hx.out.trans xq)
     clear xq
     go_still_tail 16, (by kernel_rfl)
     change wpList _ _ _ _ _ (World.drew _)
     go_wp2_with fail
     go_roundw
     case rel => exact ⟨k + 1, by omega, by go_num, by rw [s1], by rw [s2], hid (by rw [hst3.out, s3.out]; have h := hso.out; rw [hll.out] at h; exact h), hid (by have := hx.out; exact exE)⟩
     case measure => simp [intOf]; omega
    ·rw [if_neg (by omega)] at s2
     go_wp2_with fail
     go_quiet (fail)
     go_wp2_with fail
     refine name_wp (fun wq hwq => ?_)
     have xq : Ext wr wq := by rw [hwq]; exact exE
     clear hwq
     replace j0 := xq.cell j0
     replace j1 := xq.cell j1
     replace f1 := (xq.frozen (cell_lt f0)).trans f1
     replace f0 := xq.cell f0
     replace hBW := Nat.lt_of_lt_of_le hBW xq.size
     have hso := hid (hso.out wq xq)
     replace hx := hid (hx.out.trans xq)
     clear xq
     go_still_tail 16, (by kernel_rfl)
     change wpList _ _ _ _ _ (World.drew _)
     go_wp2_with fail
     go_roundw
     case rel => exact ⟨k + 1, by omega, by go_num, by rw [s1], by rw [s2], hid (by rw [hst3.out, s3.out]; have h := hso.out; rw [hll.out] at h; exact h), hid (by have := hx.out; exact exE)⟩
     case measure => simp [intOf]; omega
  ·have hkN : k = M := by omega
   rw [hkN] at ho ⊢
   have hnn : ¬ (M : Int) < (M : Int) := by omega
   have h1 := hlo.out M
   have h2 := hhi.out M
   have hlM := hol.out M
   obtain ⟨lo, hlo'⟩ : ∃ z, F M = z := ⟨_, rfl⟩
   obtain ⟨hi, hhi'⟩ : ∃ z, G M = z := ⟨_, rfl⟩
   rw [hlo'] at h1 hres ⊢
   rw [hhi'] at h2 hres ⊢
   have hIs := hid (show OwnI wr w.heap.size 2 (.slice (some ⟨B, 0, none⟩) n n) (O M) from ho.out.mono hBB)
   clear hkN hk hkl hlo' hhi'
   replace hlM := hid hlM
   by_cases g1 : lo < 0
   ·have g3 : (lo == 0) = false := by rw [beq_eq_false_iff_ne]; omega
    by_cases g2 : 0 < hi
    ·rw [if_pos (Or.inl ⟨g1, g2⟩)] at hres
     go_wp2_with fail
     go_ret
     exact ⟨none, 0, by rw [hres.out]; rfl, by rw [hres.out]; exact OwnI.nil _ _ _, hx.out⟩
    ·rw [if_neg (by omega)] at hres
     go_wp2_with fail
     go_ret
     exact ⟨some ⟨B, 0, none⟩, n, by rw [hres.out, hlM.out]; rfl, by rw [hres.out, hlM.out]; exact hIs.out, hx.out⟩
   ·obtain rfl : lo = 0 := by omega
    by_cases g2 : hi = 0
    ·subst g2
     rw [if_pos (Or.inr ⟨rfl, rfl⟩)] at hres
     go_wp2_with fail
     go_ret
     exact ⟨none, 0, by rw [hres.out]; rfl, by rw [hres.out]; exact OwnI.nil _ _ _, hx.out⟩
    ·have g3 : (hi == 0) = false := by rw [beq_eq_false_iff_ne]; exact g2
     rw [if_neg (by omega)] at hres
     go_wp2_with fail
     go_ret
     exact ⟨some ⟨B, 0, none⟩, n, by rw [hres.out, hlM.out]; rfl, by rw [hres.out, hlM.out]; exact hIs.out, hx.out⟩
theorem elemRowA : ElemS Try.prog 25 := elemS_mk (by kernel_rfl)
theorem cnJ_len (n : Nat) (A C : Nat → Int) (i k : Nat) : ∀ j, (cnJ n A C i k j).length = j
 | 0 => rfl
 | j + 1 => by simp [cnJ, cnJ_len n A C i k j]
theorem cnK_len (n : Nat) (A C : Nat → Int) (i : Nat) : ∀ k, k ≤ 6 → (cnK n A C i k).length ≤ 10 * k
 | 0, _ => by simp [cnK]
 | k + 1, h => by
  have := cnK_len n A C i k (by omega)
  simp only [cnK, List.length_append, cnJ_len, List.length_cons, List.length_nil]
  omega
theorem cnI_len (n : Nat) (A C : Nat → Int) : ∀ i, i ≤ 6 → (cnI n A C i).length ≤ 100 * i
 | 0, _ => by simp [cnI]
 | i + 1, h => by
  have := cnI_len n A C i (by omega)
  have := cnK_len n A C i i (by omega)
  simp only [cnI, List.length_append, List.length_cons, List.length_nil]
  omega
theorem out_prt (n : Nat) (t : List Nat) (p : List Int) (hp : ∀ i, -10000000 ≤ nth p i ∧ nth p i ≤ 10000000) : ∀ k, Prt (outN n t p k)
 | 0 => fun j => by
  have : nth (List.replicate n (0 : Int)) j = 0 := by
   simp only [nth, List.getD_eq_getElem?_getD, List.getElem?_replicate]
   split <;> rfl
  show 0 ≤ nth (List.replicate n (0 : Int)) j ∧ _
  rw [show nth (outN n t p 0) j = nth (List.replicate n (0 : Int)) j from rfl, this]; omega
 | k + 1 => fun j => by
  have h1 := out_prt n t p hp k j
  have h2 := hp k
  show 0 ≤ nth ((outN n t p k).set _ _) j ∧ nth ((outN n t p k).set _ _) j ≤ _
  rw [nth_set_]
  unfold absI
  split
  ·split <;> omega
  ·omega
theorem put_prt (n : Nat) (t : List Nat) (p : List Int) (hp : ∀ i, -10000000 ≤ nth p i ∧ nth p i ≤ 10000000) : Prt (putL n t p) := by
 unfold putL
 split
 ·intro j; simp [nth]
 ·exact out_prt n t p hp _
theorem nth_three (x y z : Int) {P : Int → Prop} (h0 : P 0) (hx : P x) (hy : P y) (hz : P z) (i : Nat) : P (nth [x, y, z] i) := by
 match i with
 | 0 => exact hx
 | 1 => exact hy
 | 2 => exact hz
 | i + 3 => simpa [nth] using h0
theorem nth_two (x y : Int) {P : Int → Prop} (h0 : P 0) (hx : P x) (hy : P y) (i : Nat) : P (nth [x, y] i) := by
 match i with
 | 0 => exact hx
 | 1 => exact hy
 | i + 2 => simpa [nth] using h0
theorem nth_one (x : Int) {P : Int → Prop} (h0 : P 0) (hx : P x) (i : Nat) : P (nth [x] i) := by
 match i with
 | 0 => exact hx
 | i + 1 => simpa [nth] using h0
def Bd3 (A : Nat → Int) : Prop := ∀ i, -1000 ≤ A i ∧ A i ≤ 1000
theorem tri_bd {A C : Nat → Int} (hA : Bd3 A) (hC : Bd3 C) (i k : Nat) : -2000000 ≤ A i * C k - C i * A k ∧ A i * C k - C i * A k ≤ 2000000 := by
 have h1 := mul_bd3 (hA i) (hC k)
 have h2 := mul_bd3 (hC i) (hA k)
 omega
theorem cnJ_prt {n : Nat} {A C : Nat → Int} (hA : Bd3 A) (hC : Bd3 C) (i k : Nat) : ∀ j, ∀ x ∈ cnJ n A C i k j, Prt x
 | 0, x, h => by cases h
 | j + 1, x, h => by
  rcases List.mem_append.1 h with h | h
  ·exact cnJ_prt hA hC i k j x h
  ·rw [List.mem_singleton.1 h]
   have h1 := tri_bd hA hC k j
   have h2 := tri_bd hA hC j i
   have h3 := tri_bd hA hC i k
   exact put_prt _ _ _ (nth_three _ _ _ (P := fun z => -10000000 ≤ z ∧ z ≤ 10000000) (by omega) (by omega) (by omega) (by omega))
theorem cnK_prt {n : Nat} {A C : Nat → Int} (hA : Bd3 A) (hC : Bd3 C) (i : Nat) : ∀ k, ∀ x ∈ cnK n A C i k, Prt x
 | 0, x, h => by cases h
 | k + 1, x, h => by
  have a1 := hA i; have a2 := hC i; have a3 := hA k; have a4 := hC k
  rcases List.mem_append.1 h with h | h
  ·rcases List.mem_append.1 h with h | h
   ·exact cnK_prt hA hC i k x h
   ·simp only [List.mem_cons, List.not_mem_nil, or_false] at h
    rcases h with rfl | rfl
    ·exact put_prt _ _ _ (nth_two _ _ (P := fun z => -10000000 ≤ z ∧ z ≤ 10000000) (by omega) (by omega) (by omega))
    ·exact put_prt _ _ _ (nth_two _ _ (P := fun z => -10000000 ≤ z ∧ z ≤ 10000000) (by omega) (by omega) (by omega))
  ·exact cnJ_prt hA hC i k k x h
theorem cnI_prt {n : Nat} {A C : Nat → Int} (hA : Bd3 A) (hC : Bd3 C) : ∀ i, ∀ x ∈ cnI n A C i, Prt x
 | 0, x, h => by cases h
 | i + 1, x, h => by
  rcases List.mem_append.1 h with h | h
  ·rcases List.mem_append.1 h with h | h
   ·exact cnI_prt hA hC i x h
   ·rw [List.mem_singleton.1 h]
    exact put_prt _ _ _ (nth_one _ (P := fun z => -10000000 ≤ z ∧ z ≤ 10000000) (by omega) (by omega))
  ·exact cnK_prt hA hC i i x h
theorem exA_bd {l : List Met} (v : VldM l) {u c : Int} (hu : 0 ≤ u ∧ u ≤ 1000) (s : Bool) : Bd3 (exA l u c s) := fun i => by
 have := badL_bd v s i
 show -1000 ≤ badL (mtl l i) s - u ∧ badL (mtl l i) s - u ≤ 1000
 omega
theorem exC_bd {l : List Met} (v : VldM l) {u c : Int} (hc : 0 ≤ c ∧ c ≤ 1000) (s : Bool) : Bd3 (exC l u c s) := fun i => by
 have := goodC_bd v s i
 show -1000 ≤ c - goodC (mtl l i) s ∧ c - goodC (mtl l i) s ≤ 1000
 omega
def edF (n : Nat) (G : List Int → Bool) (L : List (List Int)) : Nat → List (List Int)
 | 0 => []
 | k + 1 => if (row L k).length = n ∧ G (row L k) = true then edF n G L k ++ [row L k] else edF n G L k
theorem edF_len (n : Nat) (G : List Int → Bool) (L : List (List Int)) : ∀ k, (edF n G L k).length ≤ k
 | 0 => by simp [edF]
 | k + 1 => by
  have := edF_len n G L k
  simp only [edF]
  split
  ·simp; omega
  ·omega
def edg (l : List Met) (u c : Int) (s : Bool) : List (List Int) := edF l.length (isG l u c s) (cnd l u c s) (cnd l u c s).length
def RetT (t : List (List Int)) (w : World) (e : Ending) (w' : World) : Prop := ∃ a cap, e = .returned (.slice a t.length cap) ∧ Tab w' a t ∧ Ext w w'
theorem lit3 {w : World} {x y z : Int} {t : TypeId} {n : Nat} (h : n = w.heap.size) : Ints (w.alloc (.cells #[.int .i64 x, .int .i64 y, .int .i64 z] t)) (some ⟨n, 0, none⟩) [x, y, z] := by
 subst h
 intro i hi
 refine ⟨_, _, rfl, ?_⟩
 have : i = 0 ∨ i = 1 ∨ i = 2 := by simp at hi; omega
 rcases this with rfl | rfl | rfl <;> simp [nth]
theorem lt1 {i n : Nat} (h : i < n) : ∀ k, [i].getD k 0 < n
 | 0 => h
 | k + 1 => by simp; omega
theorem lt2 {i j n : Nat} (h : i < n) (h2 : j < n) : ∀ k, [i, j].getD k 0 < n
 | 0 => h
 | 1 => h2
 | k + 2 => by simp; omega
theorem lt3 {i j m n : Nat} (h : i < n) (h2 : j < n) (h3 : m < n) : ∀ k, [i, j, m].getD k 0 < n
 | 0 => h
 | 1 => h2
 | 2 => h3
 | k + 3 => by simp; omega
def BdP (p : List Int) : Prop := ∀ i, -100000000 ≤ nth p i ∧ nth p i ≤ 100000000
theorem put1_any (n : Nat) (n1 : 1 ≤ n) (n6 : n ≤ 6) (i : Nat) (hi : i < n) (x : Int) (hb : BdP [x]) (a : Option Addr) (cap : Nat) (a2 : Option Addr) (c2 : Nat) (w : World) (hI : Ints w a [(i : Int)]) (hJ : Ints w a2 [x]) :
 Calls Try.prog 95 #[.int .i64 n, .slice a 1 cap, .slice a2 1 c2] w (RetO (putL n [i] [x]) w) := putR_any n n1 n6 [i] (lt1 hi) [x] hb rfl (by simp) (by simp) a cap a2 c2 w hI hJ
theorem put2_any (n : Nat) (n1 : 1 ≤ n) (n6 : n ≤ 6) (i k : Nat) (hi : i < n) (hk : k < n) (x y : Int) (hb : BdP [x, y]) (a : Option Addr) (cap : Nat) (a2 : Option Addr) (c2 : Nat) (w : World) (hI : Ints w a [(i : Int), (k : Int)]) (hJ : Ints w a2 [x, y]) :
 Calls Try.prog 95 #[.int .i64 n, .slice a 2 cap, .slice a2 2 c2] w (RetO (putL n [i, k] [x, y]) w) := putR_any n n1 n6 [i, k] (lt2 hi hk) [x, y] hb rfl (by simp) (by simp) a cap a2 c2 w hI hJ
theorem put3_any (n : Nat) (n1 : 1 ≤ n) (n6 : n ≤ 6) (i k j : Nat) (hi : i < n) (hk : k < n) (hj : j < n) (x y z : Int) (hb : BdP [x, y, z]) (a : Option Addr) (cap : Nat) (a2 : Option Addr) (c2 : Nat) (w : World) (hI : Ints w a [(i : Int), (k : Int), (j : Int)]) (hJ : Ints w a2 [x, y, z]) :
 Calls Try.prog 95 #[.int .i64 n, .slice a 3 cap, .slice a2 3 c2] w (RetO (putL n [i, k, j] [x, y, z]) w) := putR_any n n1 n6 [i, k, j] (lt3 hi hk hj) [x, y, z] hb rfl (by simp) (by simp) a cap a2 c2 w hI hJ
set_option maxHeartbeats 8000000 in
theorem edgesR_any (l : List Met) (v : VldM l) (u c : Int) (hu : 0 ≤ u ∧ u ≤ 1000) (hc : 0 ≤ c ∧ c ≤ 1000) (s : Bool) (a : Option Addr) (cap : Nat) (w : World) (hM : Mts w a l) :
 Calls Try.prog 71 #[.slice a l.length cap, (.agg #[.int .i64 (u), .int .i64 (c)]), .bool s] w (RetT (edg l u c s) w) := by
 have n1 := v.n1; have n6 := v.n6
 have hMx := hid hM
 have hspL := hid (fun k W => spareR_any (mtl l k) u c s false (badL_bd v s k) (goodC_bd v s k) hu hc W)
 have hspC := hid (fun k W => spareR_any (mtl l k) u c s true (badL_bd v s k) (goodC_bd v s k) hu hc W)
 have hA := exA_bd v (c := c) hu s
 have hC := exC_bd v (u := u) hc s
 change Hid (∀ k W, Calls Try.prog 96 #[(.agg #[.int .i64 (mtl l k).p, .int .i64 (mtl l k).ll, .int .i64 (mtl l k).lh, .int .i64 (mtl l k).cl, .int .i64 (mtl l k).ch]), (.agg #[.int .i64 (u), .int .i64 (c)]), .bool s, .bool false] W fun e w' => e = .returned (.int .i64 (exA l u c s k)) ∧ Ext W w') at hspL
 change Hid (∀ k W, Calls Try.prog 96 #[(.agg #[.int .i64 (mtl l k).p, .int .i64 (mtl l k).ll, .int .i64 (mtl l k).lh, .int .i64 (mtl l k).cl, .int .i64 (mtl l k).ch]), (.agg #[.int .i64 (u), .int .i64 (c)]), .bool s, .bool true] W fun e w' => e = .returned (.int .i64 (exC l u c s k)) ∧ Ext W w') at hspC
 have hgd := hid (fun x (hp : Prt x) (hl : x.length = l.length) a2 c2 W hW hI => isGoodR_any l v u c hu hc s x hp hl a cap a2 c2 W hW hI)
 obtain ⟨b, off, rfl, hbl, hc1⟩ := hM.at (by omega)
 have HC := hid hc1
 have hre : Hid (edg l u c s = edF l.length (isG l u c s) (cnI l.length (exA l u c s) (exC l u c s) l.length) (cnI l.length (exA l u c s) (exC l u c s) l.length).length) := hid rfl
 have hpr := hid (cnI_prt (n := l.length) hA hC)
 obtain ⟨A, hAe⟩ : ∃ A, exA l u c s = A := ⟨_, rfl⟩
 obtain ⟨C, hCe⟩ : ∃ C, exC l u c s = C := ⟨_, rfl⟩
 obtain ⟨G, hGe⟩ : ∃ G, isG l u c s = G := ⟨_, rfl⟩
 have hgd : Hid (∀ (x : List Int), Prt x → x.length = l.length → ∀ a2 c2 W, Mts W (some ⟨b, off, none⟩) l → Ints W a2 x → Calls Try.prog 69 #[.slice (some ⟨b, off, none⟩) l.length cap, (.agg #[.int .i64 (u), .int .i64 (c)]), .bool s, .slice a2 x.length c2] W fun e w' => e = .returned (.bool (G x)) ∧ Ext W w') := hid (by rw [← hGe]; exact hgd.out)
 obtain ⟨R, hR⟩ : ∃ R, edg l u c s = R := ⟨_, rfl⟩
 rw [hR] at hre ⊢
 rw [hAe] at hA hspL hre hpr
 rw [hCe] at hC hspC hre hpr
 rw [hGe] at hre
 obtain ⟨N, hN⟩ : ∃ N, l.length = N := ⟨_, rfl⟩
 rw [hN] at HC n1 n6 hre hpr hgd ⊢
 have hA' := hid hA
 have hC' := hid hC
 have hlI := hid (fun i (h : i ≤ 6) => cnI_len N A C i h)
 have hlK := hid (fun i k (h : k ≤ 6) => cnK_len N A C i k h)
 have hlJ := hid (fun i k j => cnJ_len N A C i k j)
 have hsI : Hid (∀ i, cnI N A C (i + 1) = (cnI N A C i ++ [putL N [i] [1]]) ++ cnK N A C i i) := hid fun _ => rfl
 have hsK : Hid (∀ i k, cnK N A C i (k + 1) = (cnK N A C i k ++ [putL N [i, k] [A k, -A i], putL N [i, k] [C k, -C i]]) ++ cnJ N A C i k k) := hid fun _ _ => rfl
 have hsJ : Hid (∀ i k j, cnJ N A C i k (j + 1) = cnJ N A C i k j ++ [putL N [i, k, j] [A k * C j - C k * A j, A j * C i - C j * A i, A i * C k - C i * A k]]) := hid fun _ _ _ => rfl
 have hzI : Hid (cnI N A C 0 = []) := hid rfl
 have hzK : Hid (∀ i, cnK N A C i 0 = []) := hid fun _ => rfl
 have hzJ : Hid (∀ i k, cnJ N A C i k 0 = []) := hid fun _ _ => rfl
 obtain ⟨FI, hFI⟩ : ∃ F, cnI N A C = F := ⟨_, rfl⟩
 obtain ⟨FK, hFK⟩ : ∃ F, cnK N A C = F := ⟨_, rfl⟩
 obtain ⟨FJ, hFJ⟩ : ∃ F, cnJ N A C = F := ⟨_, rfl⟩
 rw [hFI] at hlI hsI hzI hre hpr
 rw [hFK] at hlK hsI hsK hzK
 rw [hFJ] at hlJ hsK hsJ hzJ
 clear hFI hFK hFJ hAe hCe hGe hR hM v hc1 hA hC hu hc
 replace hN := hid hN
 replace hbl := hid hbl
 go_enter Try.func71, Try.ntmps71
 go_wp2_with fail
 refine name_wp (fun w0 hw0 => ?_)
 have x0 : Ext w w0 := by rw [hw0]; exact exE
 have R0 := hid (show w0.cell? ⟨w.heap.size, 0, none⟩ = some (.int .i64 u) by rw [hw0]; simp [go_sem])
 have R1 := hid (show w0.cell? ⟨w.heap.size, 1, none⟩ = some (.int .i64 c) by rw [hw0]; simp [go_sem])
 clear hw0
 replace x0 := hid x0
 obtain ⟨T, hT⟩ : ∃ T, w.heap.size = T := ⟨_, rfl⟩
 rw [hT] at R0 R1 ⊢
 replace hT := hid hT
 obtain ⟨B, hB⟩ : ∃ B, w0.heap.size = B := ⟨_, rfl⟩
 replace hB := hid hB
 go_loopw [8, 9] (fun cv i wr => ∃ q : Nat, q ≤ N ∧ i = .int .i64 q ∧ Hid (OwnT wr B 0 25 cv (FI q)) ∧ Hid (Ext w0 wr)) (fun _ i _ => (N - intOf i).toNat)
 case atStart => exact ⟨0, by omega, rfl, hid (by rw [hzI.out]; exact OwnT.nil _ _ _ _), hid (Ext.refl _)⟩
 case round =>
  obtain ⟨q, hq, rfl, ho, hx⟩ := hrel
  by_cases hlt : q < N
  ·have hI1 : (q : Int) < (N : Int) := by omega
   have hpu := hid (fun a cap a2 c2 W h1 h2 => put1_any N n1 n6 q hlt 1 (nth_one _ (P := fun z => -100000000 ≤ z ∧ z ≤ 100000000) (by omega) (by omega)) a cap a2 c2 W h1 h2)
   have hln := hlI.out q (by omega)
   obtain ⟨cur, hcur⟩ : ∃ z, FI q = z := ⟨_, rfl⟩
   rw [hcur] at ho hln
   obtain ⟨r1, hr1⟩ : ∃ z, putL N [q] [1] = z := ⟨_, rfl⟩
   rw [hr1] at hpu
   have hst := hid (show FI (q + 1) = (cur ++ [r1]) ++ FK q q by rw [hsI.out, hcur, hr1])
   have hln2 := hid (show (cur ++ [r1]).length ≤ 1000 by simp; omega)
   have hz := hzK.out q
   clear hcur hr1
   go_wp2_with fail
   refine (hpu.out _ _ _ _ _ ((lit1 (w := wr) rfl).ext exE) (lit1 (by simp))).mono ?_; rintro e w1 ⟨a1, c1, rfl, hown, hE⟩
   have hx1 : Ext wr w1 := exE
   have hsls := hid (fun W (hW : Ext w1 W) => sls_one (c := c1) (n := r1.length) (hown.ints.ext hW) rfl hown.capL)
   have hapt := hid (apt_one (lo := 0) (c := c1) (n := r1.length) (ho.out.older hown (by simp; omega)))
   replace ho := hid (ho.out.ext hx1)
   replace hx := hid (hx.out.trans hx1)
   clear hown hE hx1
   go_wp2_with (at_builtin; refine app_rows rfl _ _ _ rfl 25 Try.underlying97 elemRowA B cur _ rfl _ 1 _ rfl (ho.out.ext exE) [.slice a1 r1.length c1] [r1] rfl (by omega) (by omega) ?c1 ?c2 ?c3 ?c4 ?c5 ?_; (case c1 => exact lits (by simp)); (case c2 => exact hsls.out _ exE); (case c3 => exact hapt.out); (case c4 => omega); (case c5 => have h := Ext.size hx.out; rw [hB.out] at h; simp; omega); intro b9 cp9 w9 own9 ext9 hb9; have own9 := hid own9; have hE9 := hid (ext9 w0 (by have := hx.out; exact exE) (Nat.le_of_eq hB.out)))
   replace hx := hid hE9.out
   clear hsls hapt ho hE9 hln
   obtain ⟨j0, j1, j2, j3, j4⟩ := (HC.out q ‹_›).ext (x0.out.trans hx.out)
   have cA := hid (fun W => hspL.out q W)
   have cB := hid (fun W => hspC.out q W)
   obtain ⟨m0, hm0⟩ : ∃ z, (mtl l q).p = z := ⟨_, rfl⟩
   obtain ⟨m1, hm1⟩ : ∃ z, (mtl l q).ll = z := ⟨_, rfl⟩
   obtain ⟨m2, hm2⟩ : ∃ z, (mtl l q).lh = z := ⟨_, rfl⟩
   obtain ⟨m3, hm3⟩ : ∃ z, (mtl l q).cl = z := ⟨_, rfl⟩
   obtain ⟨m4, hm4⟩ : ∃ z, (mtl l q).ch = z := ⟨_, rfl⟩
   rw [hm0] at j0 cA cB
   rw [hm1] at j1 cA cB
   rw [hm2] at j2 cA cB
   rw [hm3] at j3 cA cB
   rw [hm4] at j4 cA cB
   clear hm0 hm1 hm2 hm3 hm4
   have r0 := hx.out.cell R0.out
   have r1 := hx.out.cell R1.out
   refine name_act (fun A_ hA_ => ?_)
   obtain ⟨Q2, hQ2⟩ : ∃ Q2 : Exit → Act → World → Prop, Q2 = fun e a' w' => e = .normal ∧ ∃ (v0_ v1_ v2_ v5_ v7_ v8_ v9_ v12_ : Value), a' = ((((((((((((((((A_.put (some 35) (v0_)).put (some 36) (v1_)).put (some 37) (v2_)).put (some 38) (.agg #[.int .i64 m0, .int .i64 m1, .int .i64 m2, .int .i64 m3, .int .i64 m4])).put (some 39) (.agg #[.int .i64 u, .int .i64 c])).put (some 40) (v5_)).put (some 41) (.int .i64 (A q))).put (some 42) (v7_)).put (some 43) (v8_)).put (some 44) (v9_)).put (some 45) (.agg #[.int .i64 m0, .int .i64 m1, .int .i64 m2, .int .i64 m3, .int .i64 m4])).put (some 46) (.agg #[.int .i64 u, .int .i64 c])).put (some 47) (v12_)).put (some 48) (.int .i64 (C q))).put (some 10) (.int .i64 (A q))).put (some 11) (.int .i64 (C q))) ∧ Ext w9 w' := ⟨_, rfl⟩
   have hpan : ∀ c a a' w w', Q2 (.panic c) a w → Q2 (.panic c) a' w' := by rw [hQ2]; rintro c a a' w w' ⟨h, _⟩; cases h
   replace hQ2 := hid hQ2
   refine wp_mono (Q := Q2) ?_ ?_
   ·subst hA_
    have hRD_ := hid (fun w' (x_ : Ext w9 w') => And.intro (Ext.cell x_ j0) (And.intro (Ext.cell x_ j1) (And.intro (Ext.cell x_ j2) (And.intro (Ext.cell x_ j3) (And.intro (Ext.cell x_ j4) (And.intro (Ext.cell x_ r0) (Ext.cell x_ r1)))))))
    refine wp_region_held_drew (S := fun w' => Ext w9 w') (by kernel_rfl) exE fun hHeld => ?_
    refine name_any (fun W0 hW => ?_)
    have s0 : Ext w9 W0 := by rw [hW]; exact hHeld
    clear hW hHeld
    refine tkB (i := 0) (v := ?_) rfl hpan ?yl ?_
    case yl => (intro w hSw; have k_ := hRD_.out w hSw; go_simp); with_reducible rfl
    try simp only [sxA, sxB, sxC, Act.put, sxD, sxE, sxF]
    refine tkB (i := 1) (v := ?_) rfl hpan ?yl ?_
    case yl => (intro w hSw; have k_ := hRD_.out w hSw; go_simp); with_reducible rfl
    try simp only [sxA, sxB, sxC, Act.put, sxD, sxE, sxF]
    refine tkB (i := 2) (v := ?_) rfl hpan ?yl ?_
    case yl => (intro w hSw; have k_ := hRD_.out w hSw; go_simp); with_reducible rfl
    try simp only [sxA, sxB, sxC, Act.put, sxD, sxE, sxF]
    refine tkB (i := 3) (v := ?_) rfl hpan ?yl ?_
    case yl => (intro w hSw; have k_ := hRD_.out w hSw; go_simp); with_reducible rfl
    try simp only [sxA, sxB, sxC, Act.put, sxD, sxE, sxF]
    refine tkB (i := 4) (v := ?_) rfl hpan ?yl ?_
    case yl => (intro w hSw; have k_ := hRD_.out w hSw; go_simp); with_reducible rfl
    try simp only [sxA, sxB, sxC, Act.put, sxD, sxE, sxF]
    refine tkB (i := 5) (v := ?_) rfl hpan ?yl ?_
    case yl => (intro w hSw; have k_ := hRD_.out w hSw; go_simp); with_reducible rfl
    try simp only [sxA, sxB, sxC, Act.put, sxD, sxE, sxF]
    refine tkB (i := 7) (v := ?_) rfl hpan ?yl ?_
    case yl => (intro w hSw; have k_ := hRD_.out w hSw; go_simp); with_reducible rfl
    try simp only [sxA, sxB, sxC, Act.put, sxD, sxE, sxF]
    refine tkB (i := 8) (v := ?_) rfl hpan ?yl ?_
    case yl => (intro w hSw; have k_ := hRD_.out w hSw; go_simp); with_reducible rfl
    try simp only [sxA, sxB, sxC, Act.put, sxD, sxE, sxF]
    refine tkB (i := 9) (v := ?_) rfl hpan ?yl ?_
    case yl => (intro w hSw; have k_ := hRD_.out w hSw; go_simp); with_reducible rfl
    try simp only [sxA, sxB, sxC, Act.put, sxD, sxE, sxF]
    refine tkB (i := 10) (v := ?_) rfl hpan ?yl ?_
    case yl => (intro w hSw; have k_ := hRD_.out w hSw; go_simp); with_reducible rfl
    try simp only [sxA, sxB, sxC, Act.put, sxD, sxE, sxF]
    refine tkB (i := 11) (v := ?_) rfl hpan ?yl ?_
    case yl => (intro w hSw; have k_ := hRD_.out w hSw; go_simp); with_reducible rfl
    try simp only [sxA, sxB, sxC, Act.put, sxD, sxE, sxF]
    refine tkB (i := 12) (v := ?_) rfl hpan ?yl ?_
    case yl => (intro w hSw; have k_ := hRD_.out w hSw; go_simp); with_reducible rfl
    try simp only [sxA, sxB, sxC, Act.put, sxD, sxE, sxF]
    refine wpAnyH_ready (rs := [6]) (by kernel_rfl) (by simp) ?_
    refine AllReadyH.cons (o := _) rfl (fun K hK => ?_) AllReadyH.nil
    go_simp
    refine (cA.out _).mono ?_; rintro e W1 ⟨rfl, e1⟩
    have s1 := s0.trans e1
    refine hK.out _ _ s1 (fun _ => ?_)
    clear hK K
    (try simp only [sxA, sxB, sxC, Act.put, sxD, sxE, sxF])
    refine wpAnyH_ready (rs := [13]) (by kernel_rfl) (by simp) ?_
    refine AllReadyH.cons (o := _) rfl (fun K hK => ?_) AllReadyH.nil
    go_simp
    refine (cB.out _).mono ?_; rintro e W2 ⟨rfl, e2⟩
    have s2 := s1.trans e2
    refine hK.out _ _ s2 (fun _ => ?_)
    clear hK K
    (try simp only [sxA, sxB, sxC, Act.put, sxD, sxE, sxF])
    refine tkB (i := 14) (v := ?_) rfl hpan ?yl ?_
    case yl => (intro w hSw; have k_ := hRD_.out w hSw; go_simp); with_reducible rfl
    try simp only [sxA, sxB, sxC, Act.put, sxD, sxE, sxF]
    refine tkB (i := 15) (v := ?_) rfl hpan ?yl ?_
    case yl => (intro w hSw; have k_ := hRD_.out w hSw; go_simp); with_reducible rfl
    try simp only [sxA, sxB, sxC, Act.put, sxD, sxE, sxF]
    refine wpAnyH_done (by kernel_rfl) ?_ _
    try simp only [sxA, sxB, sxC, Act.put, sxD, sxE, sxF]
    rw [hQ2.out]
    refine ⟨rfl, ?u1_0_1, ?u1_1_1, ?u1_2_1, ?u1_3_1, ?u1_4_1, ?u1_5_1, ?u1_6_1, ?u1_7_1, ?eq1_1, s2⟩
    case eq1_1 => ((try simp only [sxA, sxB, sxC, Act.put, sxD, sxE, sxF]); first | done | with_reducible rfl | rfl)
   rw [hQ2.out]
   rintro e a' wa ⟨rfl, v0_, v1_, v2_, v5_, v7_, v8_, v9_, v12_, rfl, x⟩
   clear hQ2 hpan; clear Q2
   subst hA_
   simp only [sxA, sxB, sxC, Act.put, sxD, sxE, sxF]
   have hD := hid (own9.out.ext x)
   replace hx := hid (hx.out.trans x)
   clear x j0 j1 j2 j3 j4 r0 r1 cA cB
   obtain ⟨D, hDe⟩ : ∃ z, cur ++ [r1] = z := ⟨_, rfl⟩
   rw [hDe] at hD hst hln2
   rw [show cur.length + 1 = D.length by rw [← hDe]; simp] at hD
   replace hDe := hid hDe
   replace hz := hid hz
   clear own9 hb9
   go_wp2_with fail
   go_loopw [8, 12] (fun cv i wr => ∃ k : Nat, k ≤ q ∧ i = .int .i64 k ∧ Hid (OwnT wr B 0 25 cv (D ++ FK q k)) ∧ Hid (Ext w0 wr)) (fun _ i _ => (q - intOf i).toNat)
   case atStart => exact ⟨0, by omega, rfl, hid (by rw [hz.out, List.append_nil]; have h := hD.out; rw [← hDe.out] at h ⊢; simpa using h), hid hx.out⟩
   case round =>
    obtain ⟨k, hk, rfl, ho, hx⟩ := hrel
    by_cases hkl : k < q
    ·have hkN : k < N := by omega
     have hI2 : (k : Int) < (q : Int) := by omega
     obtain ⟨j0, j1, j2, j3, j4⟩ := (HC.out k ‹_›).ext (x0.out.trans hx.out)
     have cA := hid (fun W => hspL.out k W)
     have cB := hid (fun W => hspC.out k W)
     obtain ⟨m0, hm0⟩ : ∃ z, (mtl l k).p = z := ⟨_, rfl⟩
     obtain ⟨m1, hm1⟩ : ∃ z, (mtl l k).ll = z := ⟨_, rfl⟩
     obtain ⟨m2, hm2⟩ : ∃ z, (mtl l k).lh = z := ⟨_, rfl⟩
     obtain ⟨m3, hm3⟩ : ∃ z, (mtl l k).cl = z := ⟨_, rfl⟩
     obtain ⟨m4, hm4⟩ : ∃ z, (mtl l k).ch = z := ⟨_, rfl⟩
     rw [hm0] at j0 cA cB
     rw [hm1] at j1 cA cB
     rw [hm2] at j2 cA cB
     rw [hm3] at j3 cA cB
     rw [hm4] at j4 cA cB
     clear hm0 hm1 hm2 hm3 hm4
     have r0 := hx.out.cell R0.out
     have r1 := hx.out.cell R1.out
     go_wp2_with fail
     refine name_act (fun A_ hA_ => ?_)
     obtain ⟨Q2, hQ2⟩ : ∃ Q2 : Exit → Act → World → Prop, Q2 = fun e a' w' => e = .normal ∧ ∃ (v0_ v1_ v2_ v5_ v7_ v8_ v9_ v12_ : Value), a' = ((((((((((((((((A_.put (some 54) (v0_)).put (some 55) (v1_)).put (some 56) (v2_)).put (some 57) (.agg #[.int .i64 m0, .int .i64 m1, .int .i64 m2, .int .i64 m3, .int .i64 m4])).put (some 58) (.agg #[.int .i64 u, .int .i64 c])).put (some 59) (v5_)).put (some 60) (.int .i64 (A k))).put (some 61) (v7_)).put (some 62) (v8_)).put (some 63) (v9_)).put (some 64) (.agg #[.int .i64 m0, .int .i64 m1, .int .i64 m2, .int .i64 m3, .int .i64 m4])).put (some 65) (.agg #[.int .i64 u, .int .i64 c])).put (some 66) (v12_)).put (some 67) (.int .i64 (C k))).put (some 13) (.int .i64 (A k))).put (some 14) (.int .i64 (C k))) ∧ Ext wr w' := ⟨_, rfl⟩
     have hpan : ∀ c a a' w w', Q2 (.panic c) a w → Q2 (.panic c) a' w' := by rw [hQ2]; rintro c a a' w w' ⟨h, _⟩; cases h
     replace hQ2 := hid hQ2
     refine wp_mono (Q := Q2) ?_ ?_
     ·subst hA_
      have hRD_ := hid (fun w' (x_ : Ext wr w') => And.intro (Ext.cell x_ j0) (And.intro (Ext.cell x_ j1) (And.intro (Ext.cell x_ j2) (And.intro (Ext.cell x_ j3) (And.intro (Ext.cell x_ j4) (And.intro (Ext.cell x_ r0) (Ext.cell x_ r1)))))))
      refine wp_region_held_drew (S := fun w' => Ext wr w') (by kernel_rfl) exE fun hHeld => ?_
      refine name_any (fun W0 hW => ?_)
      have s0 : Ext wr W0 := by rw [hW]; exact hHeld
      clear hW hHeld
      refine tkB (i := 0) (v := ?_) rfl hpan ?yl ?_
      case yl => (intro w hSw; have k_ := hRD_.out w hSw; go_simp); with_reducible rfl
      try simp only [sxA, sxB, sxC, Act.put, sxD, sxE, sxF]
      refine tkB (i := 1) (v := ?_) rfl hpan ?yl ?_
      case yl => (intro w hSw; have k_ := hRD_.out w hSw; go_simp); with_reducible rfl
      try simp only [sxA, sxB, sxC, Act.put, sxD, sxE, sxF]
      refine tkB (i := 2) (v := ?_) rfl hpan ?yl ?_
      case yl => (intro w hSw; have k_ := hRD_.out w hSw; go_simp); with_reducible rfl
      try simp only [sxA, sxB, sxC, Act.put, sxD, sxE, sxF]
      refine tkB (i := 3) (v := ?_) rfl hpan ?yl ?_
      case yl => (intro w hSw; have k_ := hRD_.out w hSw; go_simp); with_reducible rfl
      try simp only [sxA, sxB, sxC, Act.put, sxD, sxE, sxF]
      refine tkB (i := 4) (v := ?_) rfl hpan ?yl ?_
      case yl => (intro w hSw; have k_ := hRD_.out w hSw; go_simp); with_reducible rfl
      try simp only [sxA, sxB, sxC, Act.put, sxD, sxE, sxF]
      refine tkB (i := 5) (v := ?_) rfl hpan ?yl ?_
      case yl => (intro w hSw; have k_ := hRD_.out w hSw; go_simp); with_reducible rfl
      try simp only [sxA, sxB, sxC, Act.put, sxD, sxE, sxF]
      refine tkB (i := 7) (v := ?_) rfl hpan ?yl ?_
      case yl => (intro w hSw; have k_ := hRD_.out w hSw; go_simp); with_reducible rfl
      try simp only [sxA, sxB, sxC, Act.put, sxD, sxE, sxF]
      refine tkB (i := 8) (v := ?_) rfl hpan ?yl ?_
      case yl => (intro w hSw; have k_ := hRD_.out w hSw; go_simp); with_reducible rfl
      try simp only [sxA, sxB, sxC, Act.put, sxD, sxE, sxF]
      refine tkB (i := 9) (v := ?_) rfl hpan ?yl ?_
      case yl => (intro w hSw; have k_ := hRD_.out w hSw; go_simp); with_reducible rfl
      try simp only [sxA, sxB, sxC, Act.put, sxD, sxE, sxF]
      refine tkB (i := 10) (v := ?_) rfl hpan ?yl ?_
      case yl => (intro w hSw; have k_ := hRD_.out w hSw; go_simp); with_reducible rfl
      try simp only [sxA, sxB, sxC, Act.put, sxD, sxE, sxF]
      refine tkB (i := 11) (v := ?_) rfl hpan ?yl ?_
      case yl => (intro w hSw; have k_ := hRD_.out w hSw; go_simp); with_reducible rfl
      try simp only [sxA, sxB, sxC, Act.put, sxD, sxE, sxF]
      refine tkB (i := 12) (v := ?_) rfl hpan ?yl ?_
      case yl => (intro w hSw; have k_ := hRD_.out w hSw; go_simp); with_reducible rfl
      try simp only [sxA, sxB, sxC, Act.put, sxD, sxE, sxF]
      refine wpAnyH_ready (rs := [6]) (by kernel_rfl) (by simp) ?_
      refine AllReadyH.cons (o := _) rfl (fun K hK => ?_) AllReadyH.nil
      go_simp
      refine (cA.out _).mono ?_; rintro e W1 ⟨rfl, e1⟩
      have s1 := s0.trans e1
      refine hK.out _ _ s1 (fun _ => ?_)
      clear hK K
      (try simp only [sxA, sxB, sxC, Act.put, sxD, sxE, sxF])
      refine wpAnyH_ready (rs := [13]) (by kernel_rfl) (by simp) ?_
      refine AllReadyH.cons (o := _) rfl (fun K hK => ?_) AllReadyH.nil
      go_simp
      refine (cB.out _).mono ?_; rintro e W2 ⟨rfl, e2⟩
      have s2 := s1.trans e2
      refine hK.out _ _ s2 (fun _ => ?_)
      clear hK K
      (try simp only [sxA, sxB, sxC, Act.put, sxD, sxE, sxF])
      refine tkB (i := 14) (v := ?_) rfl hpan ?yl ?_
      case yl => (intro w hSw; have k_ := hRD_.out w hSw; go_simp); with_reducible rfl
      try simp only [sxA, sxB, sxC, Act.put, sxD, sxE, sxF]
      refine tkB (i := 15) (v := ?_) rfl hpan ?yl ?_
      case yl => (intro w hSw; have k_ := hRD_.out w hSw; go_simp); with_reducible rfl
      try simp only [sxA, sxB, sxC, Act.put, sxD, sxE, sxF]
      refine wpAnyH_done (by kernel_rfl) ?_ _
      try simp only [sxA, sxB, sxC, Act.put, sxD, sxE, sxF]
      rw [hQ2.out]
      refine ⟨rfl, ?u2_0_1, ?u2_1_1, ?u2_2_1, ?u2_3_1, ?u2_4_1, ?u2_5_1, ?u2_6_1, ?u2_7_1, ?eq2_1, s2⟩
      case eq2_1 => ((try simp only [sxA, sxB, sxC, Act.put, sxD, sxE, sxF]); first | done | with_reducible rfl | rfl)
     rw [hQ2.out]
     rintro e a' wb ⟨rfl, v0_, v1_, v2_, v5_, v7_, v8_, v9_, v12_, rfl, x⟩
     clear hQ2 hpan; clear Q2
     subst hA_
     simp only [sxA, sxB, sxC, Act.put, sxD, sxE, sxF]
     replace ho := hid (ho.out.ext x)
     replace hx := hid (hx.out.trans x)
     clear x j0 j1 j2 j3 j4 r0 r1 cA cB
     have bA := hA'.out q; have bC := hC'.out q; have bA2 := hA'.out k; have bC2 := hC'.out k
     have hpu := hid (fun a cap a2 c2 W h1 h2 => put2_any N n1 n6 q k hlt hkN (A k) (-A q) (nth_two _ _ (P := fun z => -100000000 ≤ z ∧ z ≤ 100000000) (by omega) (by omega) (by omega)) a cap a2 c2 W h1 h2)
     have hpw := hid (fun a cap a2 c2 W h1 h2 => put2_any N n1 n6 q k hlt hkN (C k) (-C q) (nth_two _ _ (P := fun z => -100000000 ≤ z ∧ z ≤ 100000000) (by omega) (by omega) (by omega)) a cap a2 c2 W h1 h2)
     have t1 := Go.IntWalk.i64_in (-A q) (by omega)
     have t2 := Go.IntWalk.i64_in (-C q) (by omega)
     have hln := hlK.out q k (by omega)
     have hln3 := hln2.out
     obtain ⟨cur, hcur⟩ : ∃ z, D ++ FK q k = z := ⟨_, rfl⟩
     have hln4 : cur.length ≤ 2000 := by rw [← hcur, List.length_append]; omega
     rw [hcur] at ho
     obtain ⟨r1, hr1⟩ : ∃ z, putL N [q, k] [A k, -A q] = z := ⟨_, rfl⟩
     obtain ⟨r2, hr2⟩ : ∃ z, putL N [q, k] [C k, -C q] = z := ⟨_, rfl⟩
     rw [hr1] at hpu
     rw [hr2] at hpw
     have hstK := hid (show D ++ FK q (k + 1) = (cur ++ [r1, r2]) ++ FJ q k k by rw [hsK.out, ← hcur, hr1, hr2]; simp only [List.append_assoc])
     have hlD := hid (show (cur ++ [r1, r2]).length ≤ 3000 by simp; omega)
     have hz2 := hid (hzJ.out q k)
     clear hcur hr1 hr2 hln hln3 bA bC bA2 bC2
     go_wp2_with fail
     refine (hpu.out _ _ _ _ _ ((lit2 (w := wb) rfl).ext exE) (lit2 (by simp))).mono ?_; rintro e w1 ⟨a1, c1, rfl, hown, hE⟩
     have hx1 : Ext wb w1 := exE
     have hap1 := ho.out.older hown (by simp; omega)
     have hin1 := hown.ints
     have hcp1 := hown.capL
     replace hin1 := hid hin1; replace hcp1 := hid hcp1; replace hap1 := hid hap1
     have hs1 := hx1.size
     replace hx := hid (hx.out.trans hx1)
     have hx1' := hid hx1
     clear hown hE hx1
     go_wp2_with fail
     refine (hpw.out _ _ _ _ _ ((lit2 (w := w1) rfl).ext exE) (lit2 (by simp))).mono ?_; rintro e w2 ⟨a2, c2, rfl, hown, hE⟩
     have hx2 : Ext w1 w2 := exE
     have hsls := hid (fun W (hW : Ext w2 W) => sls_two (c := c1) (d := c2) (n := r1.length) (m := r2.length) (hin1.out.ext (hx2.trans hW)) (hown.ints.ext hW) rfl rfl hcp1.out hown.capL)
     have hapt := hid (apt_two (lo := 0) (c := c1) (n := r1.length) (c' := c2) (n' := r2.length) hap1.out (ho.out.older hown (by simp; omega)))
     replace ho := hid (ho.out.ext (hx1'.out.trans hx2))
     replace hx := hid (hx.out.trans hx2)
     clear hown hE hx1' hx2 hs1 hin1 hcp1 hap1
     go_wp2_with (at_builtin; refine app_rows rfl _ _ _ rfl 25 Try.underlying97 elemRowA B cur _ rfl _ 2 _ rfl (ho.out.ext exE) [.slice a1 r1.length c1, .slice a2 r2.length c2] [r1, r2] rfl (by omega) (by omega) ?c1 ?c2 ?c3 ?c4 ?c5 ?_; (case c1 => exact lits (by simp)); (case c2 => exact hsls.out _ exE); (case c3 => exact hapt.out); (case c4 => omega); (case c5 => have h := Ext.size hx.out; rw [hB.out] at h; simp; omega); intro b9 cp9 w9 own9 ext9 hb9; have own9 := hid own9; have hE9 := hid (ext9 w0 (by have := hx.out; exact exE) (Nat.le_of_eq hB.out)))
     replace hx := hid hE9.out
     obtain ⟨E, hEe⟩ : ∃ z, cur ++ [r1, r2] = z := ⟨_, rfl⟩
     rw [hEe] at own9 hstK hlD
     rw [show cur.length + 2 = E.length by rw [← hEe]; simp] at own9 ⊢
     replace hEe := hid hEe
     clear hsls hapt ho hE9 hln4 hb9 t1 t2
     go_loopw [8, 15] (fun cv i wr => ∃ j : Nat, j ≤ k ∧ i = .int .i64 j ∧ Hid (OwnT wr B 0 25 cv (E ++ FJ q k j)) ∧ Hid (Ext w0 wr)) (fun _ i _ => (k - intOf i).toNat)
     case atStart => exact ⟨0, by omega, rfl, hid (by rw [hz2.out, List.append_nil]; exact own9.out), hid hx.out⟩
     case round =>
      obtain ⟨j, hj, rfl, ho, hx⟩ := hrel
      by_cases hjl : j < k
      ·have hjN : j < N := by omega
       have hI3 : (j : Int) < (k : Int) := by omega
       obtain ⟨j0, j1, j2, j3, j4⟩ := (HC.out j ‹_›).ext (x0.out.trans hx.out)
       have cA := hid (fun W => hspL.out j W)
       have cB := hid (fun W => hspC.out j W)
       obtain ⟨m0, hm0⟩ : ∃ z, (mtl l j).p = z := ⟨_, rfl⟩
       obtain ⟨m1, hm1⟩ : ∃ z, (mtl l j).ll = z := ⟨_, rfl⟩
       obtain ⟨m2, hm2⟩ : ∃ z, (mtl l j).lh = z := ⟨_, rfl⟩
       obtain ⟨m3, hm3⟩ : ∃ z, (mtl l j).cl = z := ⟨_, rfl⟩
       obtain ⟨m4, hm4⟩ : ∃ z, (mtl l j).ch = z := ⟨_, rfl⟩
       rw [hm0] at j0 cA cB
       rw [hm1] at j1 cA cB
       rw [hm2] at j2 cA cB
       rw [hm3] at j3 cA cB
       rw [hm4] at j4 cA cB
       clear hm0 hm1 hm2 hm3 hm4
       have r0 := hx.out.cell R0.out
       have r1 := hx.out.cell R1.out
       go_wp2_with fail
       refine name_act (fun A_ hA_ => ?_)
       obtain ⟨Q2, hQ2⟩ : ∃ Q2 : Exit → Act → World → Prop, Q2 = fun e a' w' => e = .normal ∧ ∃ (v0_ v1_ v2_ v5_ v7_ v8_ v9_ v12_ : Value), a' = ((((((((((((((((A_.put (some 94) (v0_)).put (some 95) (v1_)).put (some 96) (v2_)).put (some 97) (.agg #[.int .i64 m0, .int .i64 m1, .int .i64 m2, .int .i64 m3, .int .i64 m4])).put (some 98) (.agg #[.int .i64 u, .int .i64 c])).put (some 99) (v5_)).put (some 100) (.int .i64 (A j))).put (some 101) (v7_)).put (some 102) (v8_)).put (some 103) (v9_)).put (some 104) (.agg #[.int .i64 m0, .int .i64 m1, .int .i64 m2, .int .i64 m3, .int .i64 m4])).put (some 105) (.agg #[.int .i64 u, .int .i64 c])).put (some 106) (v12_)).put (some 107) (.int .i64 (C j))).put (some 16) (.int .i64 (A j))).put (some 17) (.int .i64 (C j))) ∧ Ext wr w' := ⟨_, rfl⟩
       have hpan : ∀ c a a' w w', Q2 (.panic c) a w → Q2 (.panic c) a' w' := by rw [hQ2]; rintro c a a' w w' ⟨h, _⟩; cases h
       replace hQ2 := hid hQ2
       refine wp_mono (Q := Q2) ?_ ?_
       ·subst hA_
        have hRD_ := hid (fun w' (x_ : Ext wr w') => And.intro (Ext.cell x_ j0) (And.intro (Ext.cell x_ j1) (And.intro (Ext.cell x_ j2) (And.intro (Ext.cell x_ j3) (And.intro (Ext.cell x_ j4) (And.intro (Ext.cell x_ r0) (Ext.cell x_ r1)))))))
        refine wp_region_held_drew (S := fun w' => Ext wr w') (by kernel_rfl) exE fun hHeld => ?_
        refine name_any (fun W0 hW => ?_)
        have s0 : Ext wr W0 := by rw [hW]; exact hHeld
        clear hW hHeld
        refine tkB (i := 0) (v := ?_) rfl hpan ?yl ?_
        case yl => (intro w hSw; have k_ := hRD_.out w hSw; go_simp); with_reducible rfl
        try simp only [sxA, sxB, sxC, Act.put, sxD, sxE, sxF]
        refine tkB (i := 1) (v := ?_) rfl hpan ?yl ?_
        case yl => (intro w hSw; have k_ := hRD_.out w hSw; go_simp); with_reducible rfl
        try simp only [sxA, sxB, sxC, Act.put, sxD, sxE, sxF]
        refine tkB (i := 2) (v := ?_) rfl hpan ?yl ?_
        case yl => (intro w hSw; have k_ := hRD_.out w hSw; go_simp); with_reducible rfl
        try simp only [sxA, sxB, sxC, Act.put, sxD, sxE, sxF]
        refine tkB (i := 3) (v := ?_) rfl hpan ?yl ?_
        case yl => (intro w hSw; have k_ := hRD_.out w hSw; go_simp); with_reducible rfl
        try simp only [sxA, sxB, sxC, Act.put, sxD, sxE, sxF]
        refine tkB (i := 4) (v := ?_) rfl hpan ?yl ?_
        case yl => (intro w hSw; have k_ := hRD_.out w hSw; go_simp); with_reducible rfl
        try simp only [sxA, sxB, sxC, Act.put, sxD, sxE, sxF]
        refine tkB (i := 5) (v := ?_) rfl hpan ?yl ?_
        case yl => (intro w hSw; have k_ := hRD_.out w hSw; go_simp); with_reducible rfl
        try simp only [sxA, sxB, sxC, Act.put, sxD, sxE, sxF]
        refine tkB (i := 7) (v := ?_) rfl hpan ?yl ?_
        case yl => (intro w hSw; have k_ := hRD_.out w hSw; go_simp); with_reducible rfl
        try simp only [sxA, sxB, sxC, Act.put, sxD, sxE, sxF]
        refine tkB (i := 8) (v := ?_) rfl hpan ?yl ?_
        case yl => (intro w hSw; have k_ := hRD_.out w hSw; go_simp); with_reducible rfl
        try simp only [sxA, sxB, sxC, Act.put, sxD, sxE, sxF]
        refine tkB (i := 9) (v := ?_) rfl hpan ?yl ?_
        case yl => (intro w hSw; have k_ := hRD_.out w hSw; go_simp); with_reducible rfl
        try simp only [sxA, sxB, sxC, Act.put, sxD, sxE, sxF]
        refine tkB (i := 10) (v := ?_) rfl hpan ?yl ?_
        case yl => (intro w hSw; have k_ := hRD_.out w hSw; go_simp); with_reducible rfl
        try simp only [sxA, sxB, sxC, Act.put, sxD, sxE, sxF]
        refine tkB (i := 11) (v := ?_) rfl hpan ?yl ?_
        case yl => (intro w hSw; have k_ := hRD_.out w hSw; go_simp); with_reducible rfl
        try simp only [sxA, sxB, sxC, Act.put, sxD, sxE, sxF]
        refine tkB (i := 12) (v := ?_) rfl hpan ?yl ?_
        case yl => (intro w hSw; have k_ := hRD_.out w hSw; go_simp); with_reducible rfl
        try simp only [sxA, sxB, sxC, Act.put, sxD, sxE, sxF]
        refine wpAnyH_ready (rs := [6]) (by kernel_rfl) (by simp) ?_
        refine AllReadyH.cons (o := _) rfl (fun K hK => ?_) AllReadyH.nil
        go_simp
        refine (cA.out _).mono ?_; rintro e W1 ⟨rfl, e1⟩
        have s1 := s0.trans e1
        refine hK.out _ _ s1 (fun _ => ?_)
        clear hK K
        (try simp only [sxA, sxB, sxC, Act.put, sxD, sxE, sxF])
        refine wpAnyH_ready (rs := [13]) (by kernel_rfl) (by simp) ?_
        refine AllReadyH.cons (o := _) rfl (fun K hK => ?_) AllReadyH.nil
        go_simp
        refine (cB.out _).mono ?_; rintro e W2 ⟨rfl, e2⟩
        have s2 := s1.trans e2
        refine hK.out _ _ s2 (fun _ => ?_)
        clear hK K
        (try simp only [sxA, sxB, sxC, Act.put, sxD, sxE, sxF])
        refine tkB (i := 14) (v := ?_) rfl hpan ?yl ?_
        case yl => (intro w hSw; have k_ := hRD_.out w hSw; go_simp); with_reducible rfl
        try simp only [sxA, sxB, sxC, Act.put, sxD, sxE, sxF]
        refine tkB (i := 15) (v := ?_) rfl hpan ?yl ?_
        case yl => (intro w hSw; have k_ := hRD_.out w hSw; go_simp); with_reducible rfl
        try simp only [sxA, sxB, sxC, Act.put, sxD, sxE, sxF]
        refine wpAnyH_done (by kernel_rfl) ?_ _
        try simp only [sxA, sxB, sxC, Act.put, sxD, sxE, sxF]
        rw [hQ2.out]
        refine ⟨rfl, ?u3_0_1, ?u3_1_1, ?u3_2_1, ?u3_3_1, ?u3_4_1, ?u3_5_1, ?u3_6_1, ?u3_7_1, ?eq3_1, s2⟩
        case eq3_1 => ((try simp only [sxA, sxB, sxC, Act.put, sxD, sxE, sxF]); first | done | with_reducible rfl | rfl)
       rw [hQ2.out]
       rintro e a' wc ⟨rfl, v0_, v1_, v2_, v5_, v7_, v8_, v9_, v12_, rfl, x⟩
       clear hQ2 hpan; clear Q2
       subst hA_
       simp only [sxA, sxB, sxC, Act.put, sxD, sxE, sxF]
       replace ho := hid (ho.out.ext x)
       replace hx := hid (hx.out.trans x)
       clear x j0 j1 j2 j3 j4 r0 r1 cA cB
       have y1 := mul_bd3 (hA'.out k) (hC'.out j)
       have y2 := mul_bd3 (hC'.out k) (hA'.out j)
       have y3 := mul_bd3 (hA'.out j) (hC'.out q)
       have y4 := mul_bd3 (hC'.out j) (hA'.out q)
       have y5 := mul_bd3 (hA'.out q) (hC'.out k)
       have y6 := mul_bd3 (hC'.out q) (hA'.out k)
       have hpu := hid (fun a cap a2 c2 W h1 h2 => put3_any N n1 n6 q k j hlt hkN hjN (A k * C j - C k * A j) (A j * C q - C j * A q) (A q * C k - C q * A k) (nth_three _ _ _ (P := fun z => -100000000 ≤ z ∧ z ≤ 100000000) (by omega) (by omega) (by omega) (by omega)) a cap a2 c2 W h1 h2)
       have t1 := Go.IntWalk.i64_in (A k * C j) (by omega)
       have t2 := Go.IntWalk.i64_in (C k * A j) (by omega)
       have t3 := Go.IntWalk.i64_in (A j * C q) (by omega)
       have t4 := Go.IntWalk.i64_in (C j * A q) (by omega)
       have t5 := Go.IntWalk.i64_in (A q * C k) (by omega)
       have t6 := Go.IntWalk.i64_in (C q * A k) (by omega)
       have t7 := Go.IntWalk.i64_in (A k * C j - C k * A j) (by omega)
       have t8 := Go.IntWalk.i64_in (A j * C q - C j * A q) (by omega)
       have t9 := Go.IntWalk.i64_in (A q * C k - C q * A k) (by omega)
       have hlj := hlJ.out q k j
       have hln3 := hlD.out
       obtain ⟨cur, hcur⟩ : ∃ z, E ++ FJ q k j = z := ⟨_, rfl⟩
       have hln4 : cur.length ≤ 4000 := by rw [← hcur, List.length_append, hlj]; omega
       rw [hcur] at ho
       obtain ⟨r1, hr1⟩ : ∃ z, putL N [q, k, j] [A k * C j - C k * A j, A j * C q - C j * A q, A q * C k - C q * A k] = z := ⟨_, rfl⟩
       rw [hr1] at hpu
       have hstJ := hid (show E ++ FJ q k (j + 1) = cur ++ [r1] by rw [hsJ.out, ← hcur, hr1, List.append_assoc])
       clear hcur hr1 hlj hln3 y1 y2 y3 y4 y5 y6
       go_wp2_with fail
       refine (hpu.out _ _ _ _ _ ((lit3 (w := wc) rfl).ext exE) (lit3 (by simp))).mono ?_; rintro e w1 ⟨a1, c1, rfl, hown, hE⟩
       have hx1 : Ext wc w1 := exE
       have hsls := hid (fun W (hW : Ext w1 W) => sls_one (c := c1) (n := r1.length) (hown.ints.ext hW) rfl hown.capL)
       have hapt := hid (apt_one (lo := 0) (c := c1) (n := r1.length) (ho.out.older hown (by simp; omega)))
       replace ho := hid (ho.out.ext hx1)
       replace hx := hid (hx.out.trans hx1)
       clear hown hE hx1 t1 t2 t3 t4 t5 t6 t7 t8 t9
       go_wp2_with (at_builtin; refine app_rows rfl _ _ _ rfl 25 Try.underlying97 elemRowA B cur _ rfl _ 1 _ rfl (ho.out.ext exE) [.slice a1 r1.length c1] [r1] rfl (by omega) (by omega) ?c1 ?c2 ?c3 ?c4 ?c5 ?_; (case c1 => exact lits (by simp)); (case c2 => exact hsls.out _ exE); (case c3 => exact hapt.out); (case c4 => omega); (case c5 => have h := Ext.size hx.out; rw [hB.out] at h; simp; omega); intro b9 cp9 w9 own9 ext9 hb9; have own9 := hid own9; have hE9 := hid (ext9 w0 (by have := hx.out; exact exE) (Nat.le_of_eq hB.out)))
       have u5 := Go.IntWalk.i64_in ((j : Int) + 1) (by omega)
       go_wp2_with fail
       go_roundw
       case rel => exact ⟨j + 1, by omega, by go_num, hid (by rw [hstJ.out]; exact own9.out), hid hE9.out⟩
       case measure => simp [intOf]; omega
      ·have hjk : j = k := by omega
       have hI3 : ¬ (k : Int) < (k : Int) := by omega
       rw [hjk] at ho ⊢
       have u5 := Go.IntWalk.i64_in ((k : Int) + 1) (by omega)
       clear hjk hj hjl
       go_wp2_with fail
       go_roundw
       case rel => exact ⟨k + 1, by omega, by go_num, hid (by rw [hstK.out]; exact ho.out), hid hx.out⟩
       case measure => simp [intOf]; omega
    ·have hkq : k = q := by omega
     have hI2 : ¬ (q : Int) < (q : Int) := by omega
     rw [hkq] at ho ⊢
     have u5 := Go.IntWalk.i64_in ((q : Int) + 1) (by omega)
     clear hkq hk hkl
     go_wp2_with fail
     go_roundw
     case rel => exact ⟨q + 1, by omega, by go_num, hid (by rw [hst.out]; exact ho.out), hid hx.out⟩
     case measure => simp [intOf]; omega
  ·have hqN : q = N := by omega
   have hI1 : ¬ (N : Int) < (N : Int) := by omega
   rw [hqN] at ho ⊢
   have hMp : 0 < (FI N).length := by
    have h := hsI.out (N - 1)
    rw [show N - 1 + 1 = N by omega] at h
    rw [h]; simp only [List.length_append, List.length_cons, List.length_nil]; omega
   have hMl := hlI.out N (by omega)
   have hprN := hid (hpr.out N)
   obtain ⟨CL, hCL⟩ : ∃ z, FI N = z := ⟨_, rfl⟩
   rw [hCL] at ho hMp hMl hre hprN
   have hlF := hid (edF_len N G CL)
   have hsF : Hid (∀ k, edF N G CL (k + 1) = if (row CL k).length = N ∧ G (row CL k) = true then edF N G CL k ++ [row CL k] else edF N G CL k) := hid fun _ => rfl
   have hzF : Hid (edF N G CL 0 = []) := hid rfl
   obtain ⟨FE, hFE⟩ : ∃ z, edF N G CL = z := ⟨_, rfl⟩
   rw [hFE] at hlF hsF hzF hre
   obtain ⟨ta, tcap, rfl, hTab⟩ := ho.out.slice
   obtain ⟨tb, toff, rfl, htb, hTC⟩ := hTab.atC hMp
   have hprR := hid (fun k (hk : k < CL.length) => hprN.out (row CL k) (by rw [row_lt hk]; exact List.getElem_mem hk))
   obtain ⟨M, hM⟩ : ∃ z, CL.length = z := ⟨_, rfl⟩
   rw [hM] at hMp hMl hre hTC hprR ⊢
   replace hTC := hid hTC
   have hBZ0 : wr.heap.size ≤ wr.heap.size := Nat.le_refl _
   obtain ⟨BZ, hBZ⟩ : ∃ B, wr.heap.size = B := ⟨_, rfl⟩
   replace hBZ := hid hBZ
   have xx := hid (x0.out.trans hx.out)
   replace R0 := hid (hx.out.cell R0.out)
   replace R1 := hid (hx.out.cell R1.out)
   clear hTab hprN hCL hFE hq hlt hqN hI1 hBZ0 hpr hA' hC' hsI hsK hsJ hzI hzK hzJ hlI hlK hlJ ho hspL hspC
   replace hM := hid hM
   replace htb := hid htb
   replace hMp := hid hMp
   obtain ⟨wq, hwq⟩ : ∃ z, z = wr := ⟨_, rfl⟩
   subst hwq
   go_wp2_with fail
   go_loopw [18, 19] (fun cv i wr => ∃ k : Nat, k ≤ M ∧ i = .int .i64 k ∧ Hid (OwnT wr BZ 0 25 cv (FE k)) ∧ Hid (Ext wq wr)) (fun _ i _ => (M - intOf i).toNat)
   case atStart => exact ⟨0, by omega, rfl, hid (by rw [hzF.out]; exact OwnT.nil _ _ _ _), hid (Ext.refl _)⟩
   case round =>
    obtain ⟨k, hk, rfl, ho, hz⟩ := hrel
    by_cases hkl : k < M
    ·have hI1 : (k : Int) < (M : Int) := by omega
     obtain ⟨ai, ci, h1, h2, h3⟩ := hTC.out k hkl
     have hpk := hprR.out k hkl
     have hsk := hsF.out k
     have hln := hlF.out k
     have u5 := Go.IntWalk.i64_in ((k : Int) + 1) (by omega)
     obtain ⟨r, hr⟩ : ∃ z, row CL k = z := ⟨_, rfl⟩
     rw [hr] at h1 h2 h3 hpk hsk
     obtain ⟨cur, hcur⟩ : ∃ z, FE k = z := ⟨_, rfl⟩
     rw [hcur] at hsk hln ho
     have j5 := hz.out.cell h1
     have r0 := hz.out.cell R0.out
     have r1 := hz.out.cell R1.out
     have hold : ∀ b' off', 0 < r.length → ai = some ⟨b', off', none⟩ → b' < wq.heap.size := by
      intro b' off' h0 ha
      obtain ⟨b2, o2, e2, hl2, _⟩ := h2.at h0
      rw [ha] at e2; cases e2; exact hl2
     replace hold := hid hold
     have hin := hid (h2.ext hz.out)
     clear hr hcur h1 h2
     by_cases hle : r.length = N
     ·have hgk := hid (fun W hW hI => hgd.out r hpk hle ai ci W hW hI)
      rw [hle] at hgk j5 h3
      have hEq : ((N : Int) == (N : Int)) = true := by simp
      cases hG : G r with
      | true =>
       rw [if_pos ⟨hle, hG⟩] at hsk
       rw [hG] at hgk
       replace hle := hid hle
       replace hsk := hid hsk
       go_wp2_with fail
       refine name_act (fun A_ hA_ => ?_)
       obtain ⟨Q2, hQ2⟩ : ∃ Q2 : Exit → Act → World → Prop, Q2 = fun e a' w' => e = .normal ∧ ∃ (v0_ v1_ v2_ v5_ v8_ v10_ v11_ v12_ v13_ : Value), a' = (((((((((((((((((A_.put (some 145) (v0_)).put (some 146) (v1_)).put (some 147) (v2_)).put (some 148) (.slice ai N ci)).put (some 149) (.int .i64 (N : Int))).put (some 150) (v5_)).put (some 151) (.bool true)).put (some 152) (.bool true)).put (some 153) (v8_)).put (some 154) (.agg #[.int .i64 u, .int .i64 c])).put (some 155) (v10_)).put (some 156) (v11_)).put (some 157) (v12_)).put (some 158) (v13_)).put (some 159) (.slice ai N ci)).put (some 160) (.bool true)).put (some 161) (.bool true)) ∧ Ext wr w' := ⟨_, rfl⟩
       have hpan : ∀ c a a' w w', Q2 (.panic c) a w → Q2 (.panic c) a' w' := by rw [hQ2]; rintro c a a' w w' ⟨h, _⟩; cases h
       replace hQ2 := hid hQ2
       refine wp_mono (Q := Q2) ?_ ?_
       ·subst hA_
        have hRD_ := hid (fun w' (x_ : Ext wr w') => And.intro (Ext.cell x_ j5) (And.intro (Ext.cell x_ r0) (Ext.cell x_ r1)))
        refine wp_region_held_drew (S := fun w' => Ext wr w') (by kernel_rfl) exE fun hHeld => ?_
        refine name_any (fun W0 hW => ?_)
        have s0 : Ext wr W0 := by rw [hW]; exact hHeld
        clear hW hHeld
        refine tkB (i := 0) (v := ?_) rfl hpan ?yl ?_
        case yl => (intro w hSw; have k_ := hRD_.out w hSw; go_simp); with_reducible rfl
        try simp only [sxA, sxB, sxC, Act.put, sxD, sxE, sxF]
        refine tkB (i := 1) (v := ?_) rfl hpan ?yl ?_
        case yl => (intro w hSw; have k_ := hRD_.out w hSw; go_simp); with_reducible rfl
        try simp only [sxA, sxB, sxC, Act.put, sxD, sxE, sxF]
        refine tkB (i := 2) (v := ?_) rfl hpan ?yl ?_
        case yl => (intro w hSw; have k_ := hRD_.out w hSw; go_simp); with_reducible rfl
        try simp only [sxA, sxB, sxC, Act.put, sxD, sxE, sxF]
        refine tkB (i := 3) (v := ?_) rfl hpan ?yl ?_
        case yl => (intro w hSw; have k_ := hRD_.out w hSw; go_simp); with_reducible rfl
        try simp only [sxA, sxB, sxC, Act.put, sxD, sxE, sxF]
        refine tkB (i := 4) (v := ?_) rfl hpan ?yl ?_
        case yl => (intro w hSw; have k_ := hRD_.out w hSw; go_simp); with_reducible rfl
        try simp only [sxA, sxB, sxC, Act.put, sxD, sxE, sxF]
        refine tkB (i := 5) (v := ?_) rfl hpan ?yl ?_
        case yl => (intro w hSw; have k_ := hRD_.out w hSw; go_simp); with_reducible rfl
        try simp only [sxA, sxB, sxC, Act.put, sxD, sxE, sxF]
        refine tkB (i := 6) (v := .bool true) rfl hpan ?yl ?_
        case yl => (intro w hSw; have k_ := hRD_.out w hSw; go_simp; first | done | with_reducible rfl | (simp only [hEq]; done) | (simp [hEq]; done))
        try simp only [sxA, sxB, sxC, Act.put, sxD, sxE, sxF]
        refine tkB (i := 7) (v := .bool true) rfl hpan ?yl ?_
        case yl => (intro w hSw; have k_ := hRD_.out w hSw; go_simp; first | done | with_reducible rfl | (simp only [hEq]; done) | (simp [hEq]; done))
        try simp only [sxA, sxB, sxC, Act.put, sxD, sxE, sxF]
        refine tkB (i := 8) (v := ?_) rfl hpan ?yl ?_
        case yl => (intro w hSw; have k_ := hRD_.out w hSw; go_simp); with_reducible rfl
        try simp only [sxA, sxB, sxC, Act.put, sxD, sxE, sxF]
        refine tkB (i := 9) (v := ?_) rfl hpan ?yl ?_
        case yl => (intro w hSw; have k_ := hRD_.out w hSw; go_simp); with_reducible rfl
        try simp only [sxA, sxB, sxC, Act.put, sxD, sxE, sxF]
        refine tkB (i := 10) (v := ?_) rfl hpan ?yl ?_
        case yl => (intro w hSw; have k_ := hRD_.out w hSw; go_simp); with_reducible rfl
        try simp only [sxA, sxB, sxC, Act.put, sxD, sxE, sxF]
        refine tkB (i := 11) (v := ?_) rfl hpan ?yl ?_
        case yl => (intro w hSw; have k_ := hRD_.out w hSw; go_simp); with_reducible rfl
        try simp only [sxA, sxB, sxC, Act.put, sxD, sxE, sxF]
        refine tkB (i := 12) (v := ?_) rfl hpan ?yl ?_
        case yl => (intro w hSw; have k_ := hRD_.out w hSw; go_simp); with_reducible rfl
        try simp only [sxA, sxB, sxC, Act.put, sxD, sxE, sxF]
        refine tkB (i := 13) (v := ?_) rfl hpan ?yl ?_
        case yl => (intro w hSw; have k_ := hRD_.out w hSw; go_simp); with_reducible rfl
        try simp only [sxA, sxB, sxC, Act.put, sxD, sxE, sxF]
        refine tkB (i := 14) (v := ?_) rfl hpan ?yl ?_
        case yl => (intro w hSw; have k_ := hRD_.out w hSw; go_simp); with_reducible rfl
        try simp only [sxA, sxB, sxC, Act.put, sxD, sxE, sxF]
        refine wpAnyH_ready (rs := [15]) (by kernel_rfl) (by simp) ?_
        refine AllReadyH.cons (o := _) rfl (fun K hK => ?_) AllReadyH.nil
        go_simp
        refine (hgk.out _ (hMx.out.ext (xx.out.trans (hz.out.trans s0))) (hin.out.ext s0)).mono ?_; rintro e W1 ⟨rfl, e1⟩
        have s1 := s0.trans e1
        refine hK.out _ _ s1 (fun _ => ?_)
        clear hK K
        (try simp only [sxA, sxB, sxC, Act.put, sxD, sxE, sxF])
        refine tkB (i := 16) (v := .bool true) rfl hpan ?yl ?_
        case yl => (intro w hSw; have k_ := hRD_.out w hSw; go_simp; first | done | with_reducible rfl | (simp only [hEq]; done) | (simp [hEq]; done))
        try simp only [sxA, sxB, sxC, Act.put, sxD, sxE, sxF]
        refine wpAnyH_done (by kernel_rfl) ?_ _
        try simp only [sxA, sxB, sxC, Act.put, sxD, sxE, sxF]
        rw [hQ2.out]
        refine ⟨rfl, ?u4_0_1, ?u4_1_1, ?u4_2_1, ?u4_3_1, ?u4_4_1, ?u4_5_1, ?u4_6_1, ?u4_7_1, ?u4_8_1, ?eq4_1, s1⟩
        case eq4_1 => ((try simp only [sxA, sxB, sxC, Act.put, sxD, sxE, sxF]); first | done | with_reducible rfl | rfl)
       rw [hQ2.out]
       rintro e a' wa ⟨rfl, v0_, v1_, v2_, v5_, v8_, v10_, v11_, v12_, v13_, rfl, x⟩
       clear hQ2 hpan; clear Q2
       subst hA_
       simp only [sxA, sxB, sxC, Act.put, sxD, sxE, sxF]
       replace j5 := x.cell j5
       have hsls := hid (fun W (hW : Ext wa W) => sls_one (c := ci) (n := N) ((hin.out.ext x).ext hW) hle.out.symm (by rw [hle.out]; exact h3))
       have hapt := hid (apt_one (lo := 0) (c := ci) (n := N) (r := r) (fun b' off' h0 ha => ⟨fun e => by have q1 := (ho.out.block _ e).1; have q2 := hold.out b' off' h0 ha; rw [hBZ.out] at q2; omega, Nat.zero_le _⟩))
       replace ho := hid (ho.out.ext x)
       have hx := hid (hz.out.trans x)
       have hB := hBZ
       clear x r0 r1 hEq
       go_wp2_with (at_builtin; refine app_rows rfl _ _ _ rfl 25 Try.underlying97 elemRowA BZ cur _ rfl _ 1 _ rfl (ho.out.ext exE) [.slice ai N ci] [r] rfl (by omega) (by omega) ?c1 ?c2 ?c3 ?c4 ?c5 ?_; (case c1 => exact lits (by simp)); (case c2 => exact hsls.out _ exE); (case c3 => exact hapt.out); (case c4 => omega); (case c5 => have h := Ext.size hx.out; rw [hB.out] at h; simp; omega); intro b9 cp9 w9 own9 ext9 hb9; have own9 := hid own9; have hE9 := hid (ext9 wq (by have := hx.out; exact exE) (Nat.le_of_eq hB.out)))
       go_wp2_with fail
       go_roundw
       case rel => exact ⟨k + 1, by omega, by go_num, hid (by rw [hsk.out]; exact own9.out), hid hE9.out⟩
       case measure => simp [intOf]; omega
      | false =>
       rw [if_neg (by rw [hG]; simp)] at hsk
       rw [hG] at hgk
       replace hle := hid hle
       replace hsk := hid hsk
       go_wp2_with fail
       refine name_act (fun A_ hA_ => ?_)
       obtain ⟨Q2, hQ2⟩ : ∃ Q2 : Exit → Act → World → Prop, Q2 = fun e a' w' => e = .normal ∧ ∃ (v0_ v1_ v2_ v5_ v8_ v10_ v11_ v12_ v13_ : Value), a' = (((((((((((((((((A_.put (some 145) (v0_)).put (some 146) (v1_)).put (some 147) (v2_)).put (some 148) (.slice ai N ci)).put (some 149) (.int .i64 (N : Int))).put (some 150) (v5_)).put (some 151) (.bool true)).put (some 152) (.bool true)).put (some 153) (v8_)).put (some 154) (.agg #[.int .i64 u, .int .i64 c])).put (some 155) (v10_)).put (some 156) (v11_)).put (some 157) (v12_)).put (some 158) (v13_)).put (some 159) (.slice ai N ci)).put (some 160) (.bool false)).put (some 161) (.bool false)) ∧ Ext wr w' := ⟨_, rfl⟩
       have hpan : ∀ c a a' w w', Q2 (.panic c) a w → Q2 (.panic c) a' w' := by rw [hQ2]; rintro c a a' w w' ⟨h, _⟩; cases h
       replace hQ2 := hid hQ2
       refine wp_mono (Q := Q2) ?_ ?_
       ·subst hA_
        have hRD_ := hid (fun w' (x_ : Ext wr w') => And.intro (Ext.cell x_ j5) (And.intro (Ext.cell x_ r0) (Ext.cell x_ r1)))
        refine wp_region_held_drew (S := fun w' => Ext wr w') (by kernel_rfl) exE fun hHeld => ?_
        refine name_any (fun W0 hW => ?_)
        have s0 : Ext wr W0 := by rw [hW]; exact hHeld
        clear hW hHeld
        refine tkB (i := 0) (v := ?_) rfl hpan ?yl ?_
        case yl => (intro w hSw; have k_ := hRD_.out w hSw; go_simp); with_reducible rfl
        try simp only [sxA, sxB, sxC, Act.put, sxD, sxE, sxF]
        refine tkB (i := 1) (v := ?_) rfl hpan ?yl ?_
        case yl => (intro w hSw; have k_ := hRD_.out w hSw; go_simp); with_reducible rfl
        try simp only [sxA, sxB, sxC, Act.put, sxD, sxE, sxF]
        refine tkB (i := 2) (v := ?_) rfl hpan ?yl ?_
        case yl => (intro w hSw; have k_ := hRD_.out w hSw; go_simp); with_reducible rfl
        try simp only [sxA, sxB, sxC, Act.put, sxD, sxE, sxF]
        refine tkB (i := 3) (v := ?_) rfl hpan ?yl ?_
        case yl => (intro w hSw; have k_ := hRD_.out w hSw; go_simp); with_reducible rfl
        try simp only [sxA, sxB, sxC, Act.put, sxD, sxE, sxF]
        refine tkB (i := 4) (v := ?_) rfl hpan ?yl ?_
        case yl => (intro w hSw; have k_ := hRD_.out w hSw; go_simp); with_reducible rfl
        try simp only [sxA, sxB, sxC, Act.put, sxD, sxE, sxF]
        refine tkB (i := 5) (v := ?_) rfl hpan ?yl ?_
        case yl => (intro w hSw; have k_ := hRD_.out w hSw; go_simp); with_reducible rfl
        try simp only [sxA, sxB, sxC, Act.put, sxD, sxE, sxF]
        refine tkB (i := 6) (v := .bool true) rfl hpan ?yl ?_
        case yl => (intro w hSw; have k_ := hRD_.out w hSw; go_simp; first | done | with_reducible rfl | (simp only [hEq]; done) | (simp [hEq]; done))
        try simp only [sxA, sxB, sxC, Act.put, sxD, sxE, sxF]
        refine tkB (i := 7) (v := .bool true) rfl hpan ?yl ?_
        case yl => (intro w hSw; have k_ := hRD_.out w hSw; go_simp; first | done | with_reducible rfl | (simp only [hEq]; done) | (simp [hEq]; done))
        try simp only [sxA, sxB, sxC, Act.put, sxD, sxE, sxF]
        refine tkB (i := 8) (v := ?_) rfl hpan ?yl ?_
        case yl => (intro w hSw; have k_ := hRD_.out w hSw; go_simp); with_reducible rfl
        try simp only [sxA, sxB, sxC, Act.put, sxD, sxE, sxF]
        refine tkB (i := 9) (v := ?_) rfl hpan ?yl ?_
        case yl => (intro w hSw; have k_ := hRD_.out w hSw; go_simp); with_reducible rfl
        try simp only [sxA, sxB, sxC, Act.put, sxD, sxE, sxF]
        refine tkB (i := 10) (v := ?_) rfl hpan ?yl ?_
        case yl => (intro w hSw; have k_ := hRD_.out w hSw; go_simp); with_reducible rfl
        try simp only [sxA, sxB, sxC, Act.put, sxD, sxE, sxF]
        refine tkB (i := 11) (v := ?_) rfl hpan ?yl ?_
        case yl => (intro w hSw; have k_ := hRD_.out w hSw; go_simp); with_reducible rfl
        try simp only [sxA, sxB, sxC, Act.put, sxD, sxE, sxF]
        refine tkB (i := 12) (v := ?_) rfl hpan ?yl ?_
        case yl => (intro w hSw; have k_ := hRD_.out w hSw; go_simp); with_reducible rfl
        try simp only [sxA, sxB, sxC, Act.put, sxD, sxE, sxF]
        refine tkB (i := 13) (v := ?_) rfl hpan ?yl ?_
        case yl => (intro w hSw; have k_ := hRD_.out w hSw; go_simp); with_reducible rfl
        try simp only [sxA, sxB, sxC, Act.put, sxD, sxE, sxF]
        refine tkB (i := 14) (v := ?_) rfl hpan ?yl ?_
        case yl => (intro w hSw; have k_ := hRD_.out w hSw; go_simp); with_reducible rfl
        try simp only [sxA, sxB, sxC, Act.put, sxD, sxE, sxF]
        refine wpAnyH_ready (rs := [15]) (by kernel_rfl) (by simp) ?_
        refine AllReadyH.cons (o := _) rfl (fun K hK => ?_) AllReadyH.nil
        go_simp
        refine (hgk.out _ (hMx.out.ext (xx.out.trans (hz.out.trans s0))) (hin.out.ext s0)).mono ?_; rintro e W1 ⟨rfl, e1⟩
        have s1 := s0.trans e1
        refine hK.out _ _ s1 (fun _ => ?_)
        clear hK K
        (try simp only [sxA, sxB, sxC, Act.put, sxD, sxE, sxF])
        refine tkB (i := 16) (v := .bool false) rfl hpan ?yl ?_
        case yl => (intro w hSw; have k_ := hRD_.out w hSw; go_simp; first | done | with_reducible rfl | (simp only [hEq]; done) | (simp [hEq]; done))
        try simp only [sxA, sxB, sxC, Act.put, sxD, sxE, sxF]
        refine wpAnyH_done (by kernel_rfl) ?_ _
        try simp only [sxA, sxB, sxC, Act.put, sxD, sxE, sxF]
        rw [hQ2.out]
        refine ⟨rfl, ?u5_0_1, ?u5_1_1, ?u5_2_1, ?u5_3_1, ?u5_4_1, ?u5_5_1, ?u5_6_1, ?u5_7_1, ?u5_8_1, ?eq5_1, s1⟩
        case eq5_1 => ((try simp only [sxA, sxB, sxC, Act.put, sxD, sxE, sxF]); first | done | with_reducible rfl | rfl)
       rw [hQ2.out]
       rintro e a' wa ⟨rfl, v0_, v1_, v2_, v5_, v8_, v10_, v11_, v12_, v13_, rfl, x⟩
       clear hQ2 hpan; clear Q2
       subst hA_
       simp only [sxA, sxB, sxC, Act.put, sxD, sxE, sxF]
       replace ho := hid (ho.out.ext x)
       have hx := hid (hz.out.trans x)
       clear x r0 r1 hEq j5
       go_wp2_with fail
       go_roundw
       case rel => exact ⟨k + 1, by omega, by go_num, hid (by rw [hsk.out]; exact ho.out), hid hx.out⟩
       case measure => simp [intOf]; omega
     ·rw [if_neg (fun h => hle h.1)] at hsk
      have hEq : ((r.length : Int) == (N : Int)) = false := by rw [beq_eq_false_iff_ne]; omega
      replace hle := hid hle
      replace hsk := hid hsk
      go_wp2_with fail
      refine name_act (fun A_ hA_ => ?_)
      obtain ⟨Q2, hQ2⟩ : ∃ Q2 : Exit → Act → World → Prop, Q2 = fun e a' w' => e = .normal ∧ ∃ (v0_ v1_ v2_ v5_ : Value), a' = (((((((((((((((((A_.put (some 145) (v0_)).put (some 146) (v1_)).put (some 147) (v2_)).put (some 148) (.slice ai r.length ci)).put (some 149) (.int .i64 (r.length : Int))).put (some 150) (v5_)).put (some 151) (.bool false)).put (some 152) (.bool false)).put (some 153) (undef)).put (some 154) (undef)).put (some 155) (undef)).put (some 156) (undef)).put (some 157) (undef)).put (some 158) (undef)).put (some 159) (undef)).put (some 160) (undef)).put (some 161) (.bool false)) ∧ Ext wr w' := ⟨_, rfl⟩
      have hpan : ∀ c a a' w w', Q2 (.panic c) a w → Q2 (.panic c) a' w' := by rw [hQ2]; rintro c a a' w w' ⟨h, _⟩; cases h
      replace hQ2 := hid hQ2
      refine wp_mono (Q := Q2) ?_ ?_
      ·subst hA_
       have hRD_ := hid (fun w' (x_ : Ext wr w') => And.intro (Ext.cell x_ j5) (And.intro (Ext.cell x_ r0) (Ext.cell x_ r1)))
       refine wp_region_held_drew (S := fun w' => Ext wr w') (by kernel_rfl) exE fun hHeld => ?_
       refine name_any (fun W0 hW => ?_)
       have s0 : Ext wr W0 := by rw [hW]; exact hHeld
       clear hW hHeld
       refine tkB (i := 0) (v := ?_) rfl hpan ?yl ?_
       case yl => (intro w hSw; have k_ := hRD_.out w hSw; go_simp); with_reducible rfl
       try simp only [sxA, sxB, sxC, Act.put, sxD, sxE, sxF]
       refine tkB (i := 1) (v := ?_) rfl hpan ?yl ?_
       case yl => (intro w hSw; have k_ := hRD_.out w hSw; go_simp); with_reducible rfl
       try simp only [sxA, sxB, sxC, Act.put, sxD, sxE, sxF]
       refine tkB (i := 2) (v := ?_) rfl hpan ?yl ?_
       case yl => (intro w hSw; have k_ := hRD_.out w hSw; go_simp); with_reducible rfl
       try simp only [sxA, sxB, sxC, Act.put, sxD, sxE, sxF]
       refine tkB (i := 3) (v := ?_) rfl hpan ?yl ?_
       case yl => (intro w hSw; have k_ := hRD_.out w hSw; go_simp); with_reducible rfl
       try simp only [sxA, sxB, sxC, Act.put, sxD, sxE, sxF]
       refine tkB (i := 4) (v := ?_) rfl hpan ?yl ?_
       case yl => (intro w hSw; have k_ := hRD_.out w hSw; go_simp); with_reducible rfl
       try simp only [sxA, sxB, sxC, Act.put, sxD, sxE, sxF]
       refine tkB (i := 5) (v := ?_) rfl hpan ?yl ?_
       case yl => (intro w hSw; have k_ := hRD_.out w hSw; go_simp); with_reducible rfl
       try simp only [sxA, sxB, sxC, Act.put, sxD, sxE, sxF]
       refine tkB (i := 6) (v := .bool false) rfl hpan ?yl ?_
       case yl => (intro w hSw; have k_ := hRD_.out w hSw; go_simp; first | done | with_reducible rfl | (simp only [hEq]; done) | (simp [hEq]; done))
       try simp only [sxA, sxB, sxC, Act.put, sxD, sxE, sxF]
       refine tkB (i := 7) (v := .bool false) rfl hpan ?yl ?_
       case yl => (intro w hSw; have k_ := hRD_.out w hSw; go_simp; first | done | with_reducible rfl | (simp only [hEq]; done) | (simp [hEq]; done))
       try simp only [sxA, sxB, sxC, Act.put, sxD, sxE, sxF]
       refine tkA (i := 8) (v := undef) rfl (fun c a w h => hpan c _ _ _ _ h) (Or.inr ⟨by kernel_rfl, rfl⟩) (by assumption) ?_
       try simp only [sxA, sxB, sxC, Act.put, sxD, sxE, sxF]
       refine tkA (i := 9) (v := undef) rfl (fun c a w h => hpan c _ _ _ _ h) (Or.inr ⟨by kernel_rfl, rfl⟩) (by assumption) ?_
       try simp only [sxA, sxB, sxC, Act.put, sxD, sxE, sxF]
       refine tkA (i := 10) (v := undef) rfl (fun c a w h => hpan c _ _ _ _ h) (Or.inr ⟨by kernel_rfl, rfl⟩) (by assumption) ?_
       try simp only [sxA, sxB, sxC, Act.put, sxD, sxE, sxF]
       refine tkA (i := 11) (v := undef) rfl (fun c a w h => hpan c _ _ _ _ h) (Or.inr ⟨by kernel_rfl, rfl⟩) (by assumption) ?_
       try simp only [sxA, sxB, sxC, Act.put, sxD, sxE, sxF]
       refine tkA (i := 12) (v := undef) rfl (fun c a w h => hpan c _ _ _ _ h) (Or.inr ⟨by kernel_rfl, rfl⟩) (by assumption) ?_
       try simp only [sxA, sxB, sxC, Act.put, sxD, sxE, sxF]
       refine tkA (i := 13) (v := undef) rfl (fun c a w h => hpan c _ _ _ _ h) (Or.inr ⟨by kernel_rfl, rfl⟩) (by assumption) ?_
       try simp only [sxA, sxB, sxC, Act.put, sxD, sxE, sxF]
       refine tkA (i := 14) (v := undef) rfl (fun c a w h => hpan c _ _ _ _ h) (Or.inr ⟨by kernel_rfl, rfl⟩) (by assumption) ?_
       try simp only [sxA, sxB, sxC, Act.put, sxD, sxE, sxF]
       refine tkA (i := 15) (v := undef) rfl (fun c a w h => hpan c _ _ _ _ h) (Or.inr ⟨by kernel_rfl, rfl⟩) (by assumption) ?_
       try simp only [sxA, sxB, sxC, Act.put, sxD, sxE, sxF]
       refine tkB (i := 16) (v := .bool false) rfl hpan ?yl ?_
       case yl => (intro w hSw; have k_ := hRD_.out w hSw; go_simp; first | done | with_reducible rfl | (simp only [hEq]; done) | (simp [hEq]; done))
       try simp only [sxA, sxB, sxC, Act.put, sxD, sxE, sxF]
       refine wpAnyH_done (by kernel_rfl) ?_ _
       try simp only [sxA, sxB, sxC, Act.put, sxD, sxE, sxF]
       rw [hQ2.out]
       refine ⟨rfl, ?u6_0_1, ?u6_1_1, ?u6_2_1, ?u6_3_1, ?eq6_1, s0⟩
       case eq6_1 => ((try simp only [sxA, sxB, sxC, Act.put, sxD, sxE, sxF]); first | done | with_reducible rfl | rfl)
      rw [hQ2.out]
      rintro e a' wa ⟨rfl, v0_, v1_, v2_, v5_, rfl, x⟩
      clear hQ2 hpan; clear Q2
      subst hA_
      simp only [sxA, sxB, sxC, Act.put, sxD, sxE, sxF]
      replace ho := hid (ho.out.ext x)
      have hx := hid (hz.out.trans x)
      clear x r0 r1 hEq j5
      go_wp2_with fail
      go_roundw
      case rel => exact ⟨k + 1, by omega, by go_num, hid (by rw [hsk.out]; exact ho.out), hid hx.out⟩
      case measure => simp [intOf]; omega
    ·have hkM : k = M := by omega
     have hI1 : ¬ (M : Int) < (M : Int) := by omega
     rw [hkM] at ho ⊢
     clear hkM hk hkl
     rw [← hre.out] at ho
     obtain ⟨ea, ec, rfl, hT⟩ := ho.out.slice
     replace hT := hid hT
     go_wp2_with fail
     go_ret
     exact ⟨ea, ec, rfl, hT.out, xx.out.trans hz.out⟩
def nevE (l : List Met) (u c : Int) (s : Bool) : Int := if ¬ chkB l u c = 0 then chkB l u c else if (edg l u c s).length = 0 then 0 else 5
set_option maxHeartbeats 4000000 in
theorem neverErrorR_any (l : List Met) (q : FitM l) (hl : l.length ≤ 1000) (a : Option Addr) (cap : Nat) (u c : Int) (s : Bool) (w : World) (hM : Mts w a l) :
 Calls Try.prog 39 #[.slice a l.length cap, (.agg #[.int .i64 (u), .int .i64 (c)]), .bool s] w fun e w' => e = .returned (.int .i64 (nevE l u c s)) ∧ Ext w w' := by
 replace hM := hid hM
 have hc1 := hid (fun W hW => both_any l q hl a cap u c W hW)
 clear q
 go_enter Try.func39, Try.ntmps39
 go_wp2_with fail
 refine name_c (fun w0 hw0 => ?_)
 have X := hid (show Ext w w0 by rw [hw0]; exact exE)
 have x : Ext w w0 := X.out
 replace hM := hid (hM.out.ext x)
 have tu0 := hid (show w0.cell? ⟨w.heap.size, 0, none⟩ = some (.int .i64 u) by rw [hw0]; simp [go_sem])
 have tu1 := hid (show w0.cell? ⟨w.heap.size, 1, none⟩ = some (.int .i64 c) by rw [hw0]; simp [go_sem])
 clear x hw0
 obtain ⟨B0, hB0⟩ : ∃ B, w.heap.size = B := ⟨_, rfl⟩
 rw [hB0] at tu0 tu1 ⊢
 have hBB : w.heap.size ≤ B0 := by omega
 replace hB0 := hid hB0
 refine (hc1.out _ (hM.out.ext (show Ext w0 _ from exE))).mono ?_; rintro e u1 ⟨rfl, hE⟩
 have x : Ext w0 u1 := exE
 replace hM := hid (hM.out.ext x)
 replace tu0 := hid (x.cell tu0.out)
 replace tu1 := hid (x.cell tu1.out)
 replace X := hid (X.out.trans x)
 clear x hE
 by_cases g : ¬ chkB l u c = 0
 ·have g1 : (chkB l u c != 0) = true := by simpa using g
  replace g := hid g
  have r_tu0 := tu0.out
  have l_tu0 := cell_lt r_tu0
  dsimp only at l_tu0
  have r_tu1 := tu1.out
  have l_tu1 := cell_lt r_tu1
  dsimp only at l_tu1
  go_wp2_with fail
  refine (hc1.out _ (hM.out.ext (show Ext u1 _ from exE))).mono ?_; rintro e u2 ⟨rfl, hE⟩
  have x : Ext u1 u2 := exE
  clear r_tu0 l_tu0 r_tu1 l_tu1
  replace hM := hid (hM.out.ext x)
  replace tu0 := hid (x.cell tu0.out)
  replace tu1 := hid (x.cell tu1.out)
  replace X := hid (X.out.trans x)
  clear x hE
  have r_tu0 := tu0.out
  have l_tu0 := cell_lt r_tu0
  dsimp only at l_tu0
  have r_tu1 := tu1.out
  have l_tu1 := cell_lt r_tu1
  dsimp only at l_tu1
  go_wp2_with fail
  refine bodyPost_ret (v := .int .i64 (chkB l u c)) ?_ rfl ?_
  ·simp [results, Try.results39, go_sem, *]
  ·exact ⟨by rw [show nevE l u c s = chkB l u c from if_pos g.out], by have := X.out; exact exE⟩
 replace g := hid (Decidable.not_not.1 g)
 rw [g.out]
 obtain ⟨v, hu, hcc⟩ := chkB_ok g.out
 have hc3 := hid (fun W h1 => edgesR_any l v u c hu hcc s a cap W h1)
 have hp := hid (show nevE l u c s = if (edg l u c s).length = 0 then 0 else 5 from if_neg (by simp [g.out]))
 clear v hu hcc
 have r_tu0 := tu0.out
 have l_tu0 := cell_lt r_tu0
 dsimp only at l_tu0
 have r_tu1 := tu1.out
 have l_tu1 := cell_lt r_tu1
 dsimp only at l_tu1
 go_wp2_with fail
 refine (hc3.out _ (hM.out.ext (show Ext u1 _ from exE))).mono ?_; rintro e w9 ⟨ea, ec, rfl, -, hE⟩
 have x9 := hid (X.out.trans (show Ext u1 w9 from exE))
 obtain ⟨M, hM2⟩ : ∃ M, (edg l u c s).length = M := ⟨_, rfl⟩
 rw [hM2] at hp ⊢
 clear hE hM2
 by_cases h0 : M = 0
 ·subst h0
  rw [if_pos rfl] at hp
  go_wp2_with fail
  go_ret
  exact ⟨ret_int hp.out.symm, x9.out⟩
 ·rw [if_neg h0] at hp
  have h1 : (0 : Int) < (M : Int) := by omega
  replace h0 := hid h0
  go_wp2_with fail
  go_ret
  exact ⟨ret_int hp.out.symm, x9.out⟩
end Go.Proofs.Ytpnfhcnnodolbaa
