/- Texts of one proof, laid together: LaV. -/
import Derived.Test.YtpnfhcnnodolbaaZY10
import Derived.Test.YtpnfhcnnodolbaaZY7
import Derived.Test.YtpnfhcnnodolbaaZY2
import Derived.Test.YtpnfhcnnodolbaaZProvedA34
import Derived.Test.YtpnfhcnnodolbaaZY32
import Derived.Test.YtpnfhcnnodolbaaZY31
import Derived.Test.YtpnfhcnnodolbaaZY29
import Derived.Test.YtpnfhcnnodolbaaZY28
import Derived.Test.YtpnfhcnnodolbaaZY19
import Derived.Test.YtpnfhcnnodolbaaZY18
import Derived.Test.YtpnfhcnnodolbaaZY17
import Derived.Test.YtpnfhcnnodolbaaZY16
import Derived.Test.YtpnfhcnnodolbaaZY8
import Derived.Test.YtpnfhcnnodolbaaZProvedA35
import Derived.Test.YtpnfhcnnodolbaaZY12
import Derived.Test.YtpnfhcnnodolbaaZY3
import Derived.Test.YtpnfhcnnodolbaaZY4
import Derived.Test.YtpnfhcnnodolbaaZY9
import Derived.Test.YtpnfhcnnodolbaaZY1
import Derived.Test.YtpnfhcnnodolbaaZY22
import Derived.Test.YtpnfhcnnodolbaaZY20
import Derived.Test.YtpnfhcnnodolbaaZProvedA36
import Derived.Test.YtpnfhcnnodolbaaZY26
import Derived.Test.YtpnfhcnnodolbaaZY25
import Derived.Test.YtpnfhcnnodolbaaZY11
import Derived.Test.YtpnfhcnnodolbaaZY21
import Derived.Test.YtpnfhcnnodolbaaZY5
import Derived.Test.YtpnfhcnnodolbaaZY13
import Derived.Test.YtpnfhcnnodolbaaZY23
import Derived.Test.YtpnfhcnnodolbaaZY14
import Derived.Test.YtpnfhcnnodolbaaZY27
import Derived.Test.YtpnfhcnnodolbaaZY6
import Derived.Test.YtpnfhcnnodolbaaZY30
import Derived.Test.YtpnfhcnnodolbaaZY33
import Derived.Test.YtpnfhcnnodolbaaZProvedA38
import Derived.Test.YtpnfhcnnodolbaaZProvedA37
set_option linter.unusedVariables false
set_option linter.unusedSimpArgs false
set_option linter.unusedSectionVars false
set_option linter.unnecessarySimpa false
set_option maxRecDepth 100000
namespace Go.Proofs.Ytpnfhcnnodolbaa
open Go Go.RowKit Game
set_option maxHeartbeats 16000000 in
theorem alloyProved_any (l : List Met) (q : FitM l) (a : Option Addr) (cap : Nat) (u c : Int) (s : Bool) (p : List Int) (hp : ∀ i, 0 ≤ nth p i ∧ nth p i ≤ 65535) (ap : Option Addr) (cpp : Nat) (d b le co : Int) (w : World) (hM : Mts w a l) (hl : l.length ≤ 9223372036854775807) (iu : I64 u) (ic : I64 c) (hP : Wrds w ap p) (hlp : p.length ≤ 9223372036854775807) (wd : I64 d) (wb : I64 b) (wl : I64 le) (wc : I64 co) :
 Calls Try.prog 7 #[.slice a l.length cap, (.agg #[.int .i64 (u), .int .i64 (c)]), .bool s, .slice ap p.length cpp, (.agg #[.int .i64 (d), .int .i64 (b), .int .i64 (le), .int .i64 (co)])] w fun e w' => e = .returned (.bool true) ∧ Ext w w' := by
 have hf := hid (fun W (x : Ext w W) => fineL_any l q hl a cap u c W (hM.ext x))
 by_cases g : chkB l u c = 0
 case neg =>
  rw [decide_eq_false g] at hf
  replace g := hid g
  clear hM hP
  go_enter Try.func7, Try.ntmps7
  go_wp2_with fail
  refine (hf.out _ exE).mono ?_; rintro e w1 ⟨rfl, hE⟩
  have x1 := hid (show Ext w w1 from exE)
  go_wp2_with fail
  refine (works_any _).mono ?_; rintro e w2 ⟨rfl, hE2⟩
  go_wp2_with fail
  go_ret
  exact ⟨rfl, by have := x1.out; exact exE⟩
 rw [decide_eq_true g] at hf
 by_cases gpp : 20 < p.length
 ·have gIp : (20 : Int) < (p.length : Int) := by omega
  replace g := hid g
  clear hM hP
  go_enter Try.func7, Try.ntmps7
  go_wp2_with fail
  refine (hf.out _ exE).mono ?_; rintro e w1 ⟨rfl, hE⟩
  have x1 := hid (show Ext w w1 from exE)
  go_wp2_with fail
  refine (works_any _).mono ?_; rintro e w2 ⟨rfl, hE2⟩
  go_wp2_with fail
  go_ret
  exact ⟨rfl, by have := x1.out; exact exE⟩
 have gIp : ¬ (20 : Int) < (p.length : Int) := by omega
 obtain ⟨v, hu, hc⟩ := chkB_ok g
 have n1 := v.n1; have n6 := v.n6
 have hl2 : l.length ≤ 1000 := by omega
 have hcm : chkM l = 0 := by by_cases h : chkM l = 0; exact h; (unfold chkB at g; rw [if_neg h] at g; exact absurd g h)
 have hmxx := hid (fun W (x : Ext w W) => mixedL_any l.length n6 p hp hlp ap cpp W (hP.ext x))
 have vxx := pln_vld (m := l.length) hp n1
 obtain ⟨x, hdfx⟩ : ∃ x, pln l.length p = x := ⟨_, rfl⟩
 rw [hdfx] at hmxx vxx
 have fx : Hid (∀ i, I64 (nth x i)) := hid fun i => ⟨by have := vxx.nn i; omega, by have := vxx.le i; omega⟩
 have xl := hid vxx.len
 have xl2 : x.length ≤ 1000 := by rw [xl.out]; omega
 have heq : ∀ (p q : Int) w, (Op.equalIn 10000 29 (.agg #[.int .i64 p, .int .i64 q]) (.agg #[.int .i64 p, .int .i64 q])).run Try.prog w = .ok true w := fun p q w => by rw [run_eqRatio]; simp
 have c1 := cost_3 hcm (mixE_ok.2 vxx)
 have k1 := cost_small v vxx (psum_le n6 vxx.len vxx.le vxx.nn)
 rw [← c1.2.1, ← c1.2.2] at k1
 have hless : Hid (Gx l u c s x → cheE l u c s = 0 ∧ lessB (costNE l x) (costDE l x) (lstN l u c s) (lstD l u c s) = false) := hid fun gx => by rw [c1.2.1, c1.2.2]; exact lst_le g gx
 have hgd := hid (gx_des (u := u) (c := c) g (s := s) vxx)
 have hdt := hid (des_two (u := u) (c := c) g s vxx)
 have hct := hid (che_two g s)
 have hks := hid (fun h => lst_ok g s h)
 have hz := hid (lst_zero l u c s)
 have hprf : Hid (prfE l u c s d b le co = 0 → cheE l u c s = 0 → (1 ≤ prfDE l u c s d b le co ∧ prfDE l u c s d b le co ≤ 1073741824) ∧ prfNE l u c s d b le co ≤ 1000 * prfDE l u c s d b le co ∧ prfNE l u c s d b le co * lstD l u c s ≤ lstN l u c s * prfDE l u c s d b le co) := hid fun h1 h2 => prf_small g h1 h2
 have hlo := hid (prf_lo (d := d) (b := b) (le := le) (co := co) (s := s) g)
 have hcv := hid (fun h : cheE l u c s = 0 => chp_vld (s := s) g h)
 have hcg := hid (fun h : cheE l u c s = 0 => (gx_des (u := u) (c := c) (s := s) g (chp_vld g h).1).2 (chp_gx g h).1)
 have hcc : Hid (cheE l u c s = 0 → costE l (chpL l u c s) = 0 ∧ costNE l (chpL l u c s) = lstN l u c s ∧ costDE l (chpL l u c s) = lstD l u c s) := hid fun h => by have := cost_3 hcm (mixE_ok.2 (chp_vld (s := s) g h).1); refine ⟨this.1, ?_, ?_⟩; (rw [this.2.1]; unfold lstN; rw [if_pos h]; rfl); (rw [this.2.2]; unfold lstD; rw [if_pos h]; rfl)
 have hps := hid (fun h : cheE l u c s = 0 => (pr_spec g s).1 h)
 have hcr : Hid (cheE l u c s = 0 → chpR l u c s = chpL l u c s) := hid fun h => by unfold chpR; rw [if_pos h]
 have s1 := hid (fun W => smallL_any _ _ k1 W)
 have m1 := hid (fun (h : cheE l u c s = 0) W => lessR_any _ _ _ _ (OkS.mul k1 (lst_ok g s h)) (OkS.mul (lst_ok g s h) k1) W)
 have hL := hid (fun W h => leastL_any l q g a cap iu ic s W h)
 have hCh := hid (fun W h => cheapestP_any l q hl2 a cap u c iu ic s W h)
 have hPr := hid (fun W h => proof_any l q hl2 a cap u c iu ic s W h)
 have z1 := hid c1.1
 replace hM := hid hM
 have hq := hid q
 replace g := hid g
 replace hl2 := hid hl2
 clear q v hu hc hcm vxx c1 k1 hdfx hP gpp
 obtain ⟨n, hn⟩ : ∃ n, l.length = n := ⟨_, rfl⟩
 have hC1 := hid (fun a1 c1 W h1 h2 => by have := costC_any l hq.out hl2.out a cap x fx.out xl2 a1 c1 W h1 h2; rw [xl.out, hn, z1.out] at this; exact this)
 have hD1 := hid (fun a1 c1 W h1 h2 => by have := deserves_any l hq.out hl2.out a cap u c iu ic s x fx.out xl2 a1 c1 W h1 h2; rw [xl.out, hn] at this; exact this)
 have hC2 := hid (fun (h : cheE l u c s = 0) a1 c1 W h1 h2 => by have hv := (hcv.out h).1; have := costC_any l hq.out hl2.out a cap (chpL l u c s) (fun i => ⟨by have := hv.nn i; omega, by have := hv.le i; omega⟩) (by rw [hv.len]; exact hl2.out) a1 c1 W h1 h2; rw [hv.len, hn, (hcc.out h).1, (hcc.out h).2.1, (hcc.out h).2.2] at this; exact this)
 have hD2 := hid (fun (h : cheE l u c s = 0) a1 c1 W h1 h2 => by have hv := (hcv.out h).1; have := deserves_any l hq.out hl2.out a cap u c iu ic s (chpL l u c s) (fun i => ⟨by have := hv.nn i; omega, by have := hv.le i; omega⟩) (by rw [hv.len]; exact hl2.out) a1 c1 W h1 h2; rw [hv.len, hn, hcg.out h] at this; exact this)
 have hK := hid (fun (h : cheE l u c s = 0) W h1 => by have hp := hps.out h; obtain ⟨⟨b0, b1⟩, b2, b3, b4⟩ := hp.2.2.2.2; have := checkProof_any l hq.out hl2.out a cap u c iu ic s (nth (proX l u c s) 0) (nth (proX l u c s) 1) (nth (proX l u c s) 2) (nth (proX l u c s) 3) ⟨by omega, by omega⟩ ⟨by omega, by omega⟩ ⟨by omega, by omega⟩ ⟨by omega, by omega⟩ W h1; rw [hn, hp.2.1, hp.2.2.1, hp.2.2.2.1] at this; exact this)
 have hKR := hid (fun (h : cheE l u c s = 0) W h1 => by have hp := hps.out h; have := checkProofR_any l hq.out hl2.out a cap u c s (nth (proX l u c s) 0) (nth (proX l u c s) 1) (nth (proX l u c s) 2) (nth (proX l u c s) 3) W h1; rw [hn, hp.2.1, hp.2.2.1, hp.2.2.2.1] at this; exact this)
 have hKp := hid (fun W h1 => by have := checkProof_any l hq.out hl2.out a cap u c iu ic s d b le co wd wb wl wc W h1; rw [hn] at this; exact this)
 have hKq := hid (fun W h1 => by have := checkProofR_any l hq.out hl2.out a cap u c s d b le co W h1; rw [hn] at this; exact this)
 have hcl : Hid (cheE l u c s = 0 → (chpL l u c s).length = n) := hid fun h => by rw [(hcv.out h).1.len, hn]
 rw [hn] at hf hmxx n1 n6 xl hL hCh hPr ⊢
 replace hn := hid hn
 clear hcv hcg hcc z1
 have hp0 : Hid (cheE l u c s = 0 → proEr l u c s = 0) := hid fun h => (hps.out h).1
 clear hps
 have hPr : Hid (∀ W, Mts W a l → Calls Try.prog 35 #[.slice a n cap, (.agg #[.int .i64 (u), .int .i64 (c)]), .bool s] W fun e w' => e = .returned (.tuple #[(.agg #[.int .i64 (nth (proX l u c s) 0), .int .i64 (nth (proX l u c s) 1), .int .i64 (nth (proX l u c s) 2), .int .i64 (nth (proX l u c s) 3)]), .int .i64 (proEr l u c s)]) ∧ Ext W w') := hid hPr.out
 generalize costNE l x = N1 at *
 generalize costDE l x = D1 at *
 generalize lstN l u c s = LN at *
 generalize lstD l u c s = LD at *
 generalize cheE l u c s = EC at *
 generalize desE l u c s x = DE at *
 generalize prfNE l u c s d b le co = Pn at *
 generalize prfDE l u c s d b le co = Pd at *
 generalize prfE l u c s d b le co = Pe at *
 generalize chpL l u c s = CL at *
 generalize chpR l u c s = XR at *
 generalize nth (proX l u c s) 0 = q0 at *
 generalize nth (proX l u c s) 1 = q1 at *
 generalize nth (proX l u c s) 2 = q2 at *
 generalize nth (proX l u c s) 3 = q3 at *
 generalize proEr l u c s = PE at *
 rcases hct.out with gE | gE
 ·subst gE
  have k2 := hks.out rfl
  rw [hcr.out rfl] at hCh
  rw [show decide ((0 : Int) = 0) = true from rfl] at hL
  have hp0 := hp0.out rfl
  subst hp0
  have hb := hid (fun h => hprf.out h rfl)
  have hlo := hlo
  clear hz hct hks hcr hprf
  rcases hdt.out with gD | gD
  ·subst gD
   have hlf := hid (hless.out (hgd.out.1 rfl)).2
   clear hless hgd hdt
   by_cases gP : Pe = 0
   ·subst gP
    have hbb := hid (And.intro (hb.out rfl).1 (And.intro (hb.out rfl).2.1 (And.intro (hb.out rfl).2.2 hlo.out)))
    clear hb hlo
    have hw3 : Hid (-9223372036854775808 ≤ LN * Pd ∧ LN * Pd ≤ 9223372036854775807) := hid (mul_6 ⟨k2.n0, by have := k2.n1; have := k2.d1; omega⟩ hbb.out.1)
    have hw2 : Hid (0 ≤ Pn → -9223372036854775808 ≤ Pn * LD ∧ Pn * LD ≤ 9223372036854775807) := hid (fun h => by have h1 := hbb.out.2.2.1; have h2 := hw3.out; have h3 := Int.mul_nonneg h (show 0 ≤ LD by have := k2.d0; omega); omega)
    clear k2
    go_enter Try.func7, Try.ntmps7
    go_wp2_with fail
    refine (hf.out _ exE).mono ?_; rintro e w1 ⟨rfl, hE⟩
    have X := hid (show Ext w w1 from exE)
    have t_0 := hid (hE.cell (p := ⟨w.heap.size, 0, none⟩) (v := .int .i64 (u)) (by simp [go_sem]))
    have t_1 := hid (hE.cell (p := ⟨w.heap.size, 1, none⟩) (v := .int .i64 (c)) (by simp [go_sem]))
    have p_0 := hid (hE.cell (p := ⟨w.heap.size + 1, 0, none⟩) (v := .int .i64 (d)) (by simp [go_sem]))
    have p_1 := hid (hE.cell (p := ⟨w.heap.size + 1, 1, none⟩) (v := .int .i64 (b)) (by simp [go_sem]))
    have p_2 := hid (hE.cell (p := ⟨w.heap.size + 1, 2, none⟩) (v := .int .i64 (le)) (by simp [go_sem]))
    have p_3 := hid (hE.cell (p := ⟨w.heap.size + 1, 3, none⟩) (v := .int .i64 (co)) (by simp [go_sem]))
    replace hM := hid (hM.out.ext X.out)
    obtain ⟨T, hT⟩ : ∃ T, w.heap.size = T := ⟨_, rfl⟩
    rw [hT] at t_0 t_1 p_0 p_1 p_2 p_3 ⊢
    clear hE hf hT
    go_wp2_with fail
    refine name_c (fun v1 hv => ?_)
    have x1 : Ext w1 v1 := by rw [hv]; exact exE
    replace X := hid (X.out.trans x1); replace hM := hid (hM.out.ext x1); replace t_0 := hid (x1.cell t_0.out); replace t_1 := hid (x1.cell t_1.out)
    replace p_0 := hid (x1.cell p_0.out); replace p_1 := hid (x1.cell p_1.out); replace p_2 := hid (x1.cell p_2.out); replace p_3 := hid (x1.cell p_3.out)
    clear hv x1
    refine (hmxx.out _ X.out).mono ?_; rintro e u2 ⟨a1, k1, rfl, hI, hE⟩
    replace X := hid (X.out.trans hE); replace hM := hid (hM.out.ext hE); replace t_0 := hid (hE.cell t_0.out); replace t_1 := hid (hE.cell t_1.out)
    replace p_0 := hid (hE.cell p_0.out); replace p_1 := hid (hE.cell p_1.out); replace p_2 := hid (hE.cell p_2.out); replace p_3 := hid (hE.cell p_3.out)
    clear hE
    replace hI := hid hI
    rw [xl.out]
    go_wp2_with fail
    refine name_c (fun v3 hv => ?_)
    have x1 : Ext u2 v3 := by rw [hv]; exact exE
    replace X := hid (X.out.trans x1); replace hM := hid (hM.out.ext x1); replace t_0 := hid (x1.cell t_0.out); replace t_1 := hid (x1.cell t_1.out)
    replace p_0 := hid (x1.cell p_0.out); replace p_1 := hid (x1.cell p_1.out); replace p_2 := hid (x1.cell p_2.out); replace p_3 := hid (x1.cell p_3.out)
    replace hI := hid (hI.out.ext x1)
    clear hv x1
    refine (hC1.out _ _ _ hM.out hI.out).mono ?_; rintro e u4 ⟨rfl, hE⟩
    replace X := hid (X.out.trans hE); replace hM := hid (hM.out.ext hE); replace t_0 := hid (hE.cell t_0.out); replace t_1 := hid (hE.cell t_1.out)
    replace p_0 := hid (hE.cell p_0.out); replace p_1 := hid (hE.cell p_1.out); replace p_2 := hid (hE.cell p_2.out); replace p_3 := hid (hE.cell p_3.out)
    replace hI := hid (hI.out.ext hE)
    clear hE
    have o0 := t_0.out
    have lo0 := cell_lt o0; dsimp only at lo0
    have o1 := t_1.out
    go_wp2_with fail
    refine name_c (fun v5 hv => ?_)
    have x1 : Ext u4 v5 := by rw [hv]; exact exE
    have b12_0 := hid (show v5.cell? ⟨u4.heap.size, 0, none⟩ = some (.int .i64 (N1)) by rw [hv]; simp [go_sem])
    have b12_1 := hid (show v5.cell? ⟨u4.heap.size, 1, none⟩ = some (.int .i64 (D1)) by rw [hv]; simp [go_sem])
    replace X := hid (X.out.trans x1); replace hM := hid (hM.out.ext x1); replace t_0 := hid (x1.cell t_0.out); replace t_1 := hid (x1.cell t_1.out)
    replace p_0 := hid (x1.cell p_0.out); replace p_1 := hid (x1.cell p_1.out); replace p_2 := hid (x1.cell p_2.out); replace p_3 := hid (x1.cell p_3.out)
    replace hI := hid (hI.out.ext x1)
    clear o0 lo0 o1
    clear hv x1
    obtain ⟨Bb12, hBn⟩ : ∃ z, u4.heap.size = z := ⟨_, rfl⟩
    rw [hBn] at b12_0 b12_1 ⊢
    clear hBn
    refine (hD1.out _ _ _ hM.out hI.out).mono ?_; rintro e u6 ⟨rfl, hE⟩
    replace X := hid (X.out.trans hE); replace hM := hid (hM.out.ext hE); replace t_0 := hid (hE.cell t_0.out); replace t_1 := hid (hE.cell t_1.out)
    replace p_0 := hid (hE.cell p_0.out); replace p_1 := hid (hE.cell p_1.out); replace p_2 := hid (hE.cell p_2.out); replace p_3 := hid (hE.cell p_3.out)
    replace hI := hid (hI.out.ext hE); replace b12_0 := hid (hE.cell b12_0.out); replace b12_1 := hid (hE.cell b12_1.out)
    clear hE
    have o0 := t_0.out
    have lo0 := cell_lt o0; dsimp only at lo0
    have o1 := t_1.out
    go_wp2_with fail
    refine name_c (fun v7 hv => ?_)
    have x1 : Ext u6 v7 := by rw [hv]; exact exE
    replace X := hid (X.out.trans x1); replace hM := hid (hM.out.ext x1); replace t_0 := hid (x1.cell t_0.out); replace t_1 := hid (x1.cell t_1.out)
    replace p_0 := hid (x1.cell p_0.out); replace p_1 := hid (x1.cell p_1.out); replace p_2 := hid (x1.cell p_2.out); replace p_3 := hid (x1.cell p_3.out)
    replace hI := hid (hI.out.ext x1); replace b12_0 := hid (x1.cell b12_0.out); replace b12_1 := hid (x1.cell b12_1.out)
    clear o0 lo0 o1
    clear hv x1
    refine (hL.out _ hM.out).mono ?_; rintro e u8 ⟨rfl, hE⟩
    replace X := hid (X.out.trans hE); replace hM := hid (hM.out.ext hE); replace t_0 := hid (hE.cell t_0.out); replace t_1 := hid (hE.cell t_1.out)
    replace p_0 := hid (hE.cell p_0.out); replace p_1 := hid (hE.cell p_1.out); replace p_2 := hid (hE.cell p_2.out); replace p_3 := hid (hE.cell p_3.out)
    replace hI := hid (hI.out.ext hE); replace b12_0 := hid (hE.cell b12_0.out); replace b12_1 := hid (hE.cell b12_1.out)
    clear hE
    have o0 := b12_0.out
    have lo0 := cell_lt o0; dsimp only at lo0
    have o1 := b12_1.out
    go_wp2_with fail
    refine name_c (fun v9 hv => ?_)
    have x1 : Ext u8 v9 := by rw [hv]; exact exE
    have b15_0 := hid (show v9.cell? ⟨u8.heap.size, 0, none⟩ = some (.int .i64 (LN)) by rw [hv]; simp [go_sem])
    have b15_1 := hid (show v9.cell? ⟨u8.heap.size, 1, none⟩ = some (.int .i64 (LD)) by rw [hv]; simp [go_sem])
    replace X := hid (X.out.trans x1); replace hM := hid (hM.out.ext x1); replace t_0 := hid (x1.cell t_0.out); replace t_1 := hid (x1.cell t_1.out)
    replace p_0 := hid (x1.cell p_0.out); replace p_1 := hid (x1.cell p_1.out); replace p_2 := hid (x1.cell p_2.out); replace p_3 := hid (x1.cell p_3.out)
    replace hI := hid (hI.out.ext x1); replace b12_0 := hid (x1.cell b12_0.out); replace b12_1 := hid (x1.cell b12_1.out)
    clear o0 lo0 o1
    clear hv x1
    obtain ⟨Bb15, hBn⟩ : ∃ z, u8.heap.size = z := ⟨_, rfl⟩
    rw [hBn] at b15_0 b15_1 ⊢
    clear hBn
    refine (s1.out _).mono ?_; rintro e u10 ⟨rfl, hE⟩
    replace X := hid (X.out.trans hE); replace hM := hid (hM.out.ext hE); replace t_0 := hid (hE.cell t_0.out); replace t_1 := hid (hE.cell t_1.out)
    replace p_0 := hid (hE.cell p_0.out); replace p_1 := hid (hE.cell p_1.out); replace p_2 := hid (hE.cell p_2.out); replace p_3 := hid (hE.cell p_3.out)
    replace hI := hid (hI.out.ext hE); replace b12_0 := hid (hE.cell b12_0.out); replace b12_1 := hid (hE.cell b12_1.out); replace b15_0 := hid (hE.cell b15_0.out)
    replace b15_1 := hid (hE.cell b15_1.out)
    clear hE
    have o0 := b12_0.out
    have lo0 := cell_lt o0; dsimp only at lo0
    have o1 := b12_1.out
    have o2 := b15_0.out
    have lo2 := cell_lt o2; dsimp only at lo2
    have o3 := b15_1.out
    go_wp2_with fail
    refine name_c (fun v11 hv => ?_)
    have x1 : Ext u10 v11 := by rw [hv]; exact exE
    replace X := hid (X.out.trans x1); replace hM := hid (hM.out.ext x1); replace t_0 := hid (x1.cell t_0.out); replace t_1 := hid (x1.cell t_1.out)
    replace p_0 := hid (x1.cell p_0.out); replace p_1 := hid (x1.cell p_1.out); replace p_2 := hid (x1.cell p_2.out); replace p_3 := hid (x1.cell p_3.out)
    replace hI := hid (hI.out.ext x1); replace b12_0 := hid (x1.cell b12_0.out); replace b12_1 := hid (x1.cell b12_1.out); replace b15_0 := hid (x1.cell b15_0.out)
    replace b15_1 := hid (x1.cell b15_1.out)
    clear o0 lo0 o1 o2 lo2 o3
    clear hv x1
    refine (m1.out (by trivial) _).mono ?_; rintro e u12 ⟨rfl, hE⟩
    replace X := hid (X.out.trans hE); replace hM := hid (hM.out.ext hE); replace t_0 := hid (hE.cell t_0.out); replace t_1 := hid (hE.cell t_1.out)
    replace p_0 := hid (hE.cell p_0.out); replace p_1 := hid (hE.cell p_1.out); replace p_2 := hid (hE.cell p_2.out); replace p_3 := hid (hE.cell p_3.out)
    replace hI := hid (hI.out.ext hE); replace b12_0 := hid (hE.cell b12_0.out); replace b12_1 := hid (hE.cell b12_1.out); replace b15_0 := hid (hE.cell b15_0.out)
    replace b15_1 := hid (hE.cell b15_1.out)
    clear hE
    rw [hlf.out]
    have o0 := t_0.out
    have lo0 := cell_lt o0; dsimp only at lo0
    have o1 := t_1.out
    go_wp2_with fail
    refine name_c (fun v13 hv => ?_)
    have x1 : Ext u12 v13 := by rw [hv]; exact exE
    replace X := hid (X.out.trans x1); replace hM := hid (hM.out.ext x1); replace t_0 := hid (x1.cell t_0.out); replace t_1 := hid (x1.cell t_1.out)
    replace p_0 := hid (x1.cell p_0.out); replace p_1 := hid (x1.cell p_1.out); replace p_2 := hid (x1.cell p_2.out); replace p_3 := hid (x1.cell p_3.out)
    replace hI := hid (hI.out.ext x1); replace b12_0 := hid (x1.cell b12_0.out); replace b12_1 := hid (x1.cell b12_1.out); replace b15_0 := hid (x1.cell b15_0.out)
    replace b15_1 := hid (x1.cell b15_1.out)
    clear o0 lo0 o1
    clear hv x1
    refine (hCh.out _ hM.out).mono ?_; rintro e u14 ⟨a2, k2, rfl, hJ, hE⟩
    replace X := hid (X.out.trans hE); replace hM := hid (hM.out.ext hE); replace t_0 := hid (hE.cell t_0.out); replace t_1 := hid (hE.cell t_1.out)
    replace p_0 := hid (hE.cell p_0.out); replace p_1 := hid (hE.cell p_1.out); replace p_2 := hid (hE.cell p_2.out); replace p_3 := hid (hE.cell p_3.out)
    replace hI := hid (hI.out.ext hE); replace b12_0 := hid (hE.cell b12_0.out); replace b12_1 := hid (hE.cell b12_1.out); replace b15_0 := hid (hE.cell b15_0.out)
    replace b15_1 := hid (hE.cell b15_1.out)
    clear hE
    rw [hcl.out (by trivial)]
    replace hJ := hid hJ
    have o0 := t_0.out
    have lo0 := cell_lt o0; dsimp only at lo0
    have o1 := t_1.out
    go_wp2_with fail
    refine name_c (fun v15 hv => ?_)
    have x1 : Ext u14 v15 := by rw [hv]; exact exE
    replace X := hid (X.out.trans x1); replace hM := hid (hM.out.ext x1); replace t_0 := hid (x1.cell t_0.out); replace t_1 := hid (x1.cell t_1.out)
    replace p_0 := hid (x1.cell p_0.out); replace p_1 := hid (x1.cell p_1.out); replace p_2 := hid (x1.cell p_2.out); replace p_3 := hid (x1.cell p_3.out)
    replace hI := hid (hI.out.ext x1); replace b12_0 := hid (x1.cell b12_0.out); replace b12_1 := hid (x1.cell b12_1.out); replace b15_0 := hid (x1.cell b15_0.out)
    replace b15_1 := hid (x1.cell b15_1.out); replace hJ := hid (hJ.out.ext x1)
    clear o0 lo0 o1
    clear hv x1
    refine (hPr.out _ hM.out).mono ?_; rintro e u16 ⟨rfl, hE⟩
    replace X := hid (X.out.trans hE); replace hM := hid (hM.out.ext hE); replace t_0 := hid (hE.cell t_0.out); replace t_1 := hid (hE.cell t_1.out)
    replace p_0 := hid (hE.cell p_0.out); replace p_1 := hid (hE.cell p_1.out); replace p_2 := hid (hE.cell p_2.out); replace p_3 := hid (hE.cell p_3.out)
    replace hI := hid (hI.out.ext hE); replace b12_0 := hid (hE.cell b12_0.out); replace b12_1 := hid (hE.cell b12_1.out); replace b15_0 := hid (hE.cell b15_0.out)
    replace b15_1 := hid (hE.cell b15_1.out); replace hJ := hid (hJ.out.ext hE)
    clear hE
    have o0 := t_0.out
    have lo0 := cell_lt o0; dsimp only at lo0
    have o1 := t_1.out
    go_wp2_with fail
    refine name_c (fun v17 hv => ?_)
    have x1 : Ext u16 v17 := by rw [hv]; exact exE
    have b20_0 := hid (show v17.cell? ⟨u16.heap.size, 0, none⟩ = some (.int .i64 (q0)) by rw [hv]; simp [go_sem])
    have b20_1 := hid (show v17.cell? ⟨u16.heap.size, 1, none⟩ = some (.int .i64 (q1)) by rw [hv]; simp [go_sem])
    have b20_2 := hid (show v17.cell? ⟨u16.heap.size, 2, none⟩ = some (.int .i64 (q2)) by rw [hv]; simp [go_sem])
    have b20_3 := hid (show v17.cell? ⟨u16.heap.size, 3, none⟩ = some (.int .i64 (q3)) by rw [hv]; simp [go_sem])
    replace X := hid (X.out.trans x1); replace hM := hid (hM.out.ext x1); replace t_0 := hid (x1.cell t_0.out); replace t_1 := hid (x1.cell t_1.out)
    replace p_0 := hid (x1.cell p_0.out); replace p_1 := hid (x1.cell p_1.out); replace p_2 := hid (x1.cell p_2.out); replace p_3 := hid (x1.cell p_3.out)
    replace hI := hid (hI.out.ext x1); replace b12_0 := hid (x1.cell b12_0.out); replace b12_1 := hid (x1.cell b12_1.out); replace b15_0 := hid (x1.cell b15_0.out)
    replace b15_1 := hid (x1.cell b15_1.out); replace hJ := hid (hJ.out.ext x1)
    clear o0 lo0 o1
    clear hv x1
    obtain ⟨Bb20, hBn⟩ : ∃ z, u16.heap.size = z := ⟨_, rfl⟩
    rw [hBn] at b20_0 b20_1 b20_2 b20_3 ⊢
    clear hBn
    refine (hD2.out (by trivial) _ _ _ hM.out hJ.out).mono ?_; rintro e u18 ⟨rfl, hE⟩
    replace X := hid (X.out.trans hE); replace hM := hid (hM.out.ext hE); replace t_0 := hid (hE.cell t_0.out); replace t_1 := hid (hE.cell t_1.out)
    replace p_0 := hid (hE.cell p_0.out); replace p_1 := hid (hE.cell p_1.out); replace p_2 := hid (hE.cell p_2.out); replace p_3 := hid (hE.cell p_3.out)
    replace hI := hid (hI.out.ext hE); replace b12_0 := hid (hE.cell b12_0.out); replace b12_1 := hid (hE.cell b12_1.out); replace b15_0 := hid (hE.cell b15_0.out)
    replace b15_1 := hid (hE.cell b15_1.out); replace hJ := hid (hJ.out.ext hE); replace b20_0 := hid (hE.cell b20_0.out); replace b20_1 := hid (hE.cell b20_1.out)
    replace b20_2 := hid (hE.cell b20_2.out); replace b20_3 := hid (hE.cell b20_3.out)
    clear hE
    go_wp2_with fail
    refine name_c (fun v19 hv => ?_)
    have x1 : Ext u18 v19 := by rw [hv]; exact exE
    replace X := hid (X.out.trans x1); replace hM := hid (hM.out.ext x1); replace t_0 := hid (x1.cell t_0.out); replace t_1 := hid (x1.cell t_1.out)
    replace p_0 := hid (x1.cell p_0.out); replace p_1 := hid (x1.cell p_1.out); replace p_2 := hid (x1.cell p_2.out); replace p_3 := hid (x1.cell p_3.out)
    replace hI := hid (hI.out.ext x1); replace b12_0 := hid (x1.cell b12_0.out); replace b12_1 := hid (x1.cell b12_1.out); replace b15_0 := hid (x1.cell b15_0.out)
    replace b15_1 := hid (x1.cell b15_1.out); replace hJ := hid (hJ.out.ext x1); replace b20_0 := hid (x1.cell b20_0.out); replace b20_1 := hid (x1.cell b20_1.out)
    replace b20_2 := hid (x1.cell b20_2.out); replace b20_3 := hid (x1.cell b20_3.out)
    clear hv x1
    refine (hC2.out (by trivial) _ _ _ hM.out hJ.out).mono ?_; rintro e u20 ⟨rfl, hE⟩
    replace X := hid (X.out.trans hE); replace hM := hid (hM.out.ext hE); replace t_0 := hid (hE.cell t_0.out); replace t_1 := hid (hE.cell t_1.out)
    replace p_0 := hid (hE.cell p_0.out); replace p_1 := hid (hE.cell p_1.out); replace p_2 := hid (hE.cell p_2.out); replace p_3 := hid (hE.cell p_3.out)
    replace hI := hid (hI.out.ext hE); replace b12_0 := hid (hE.cell b12_0.out); replace b12_1 := hid (hE.cell b12_1.out); replace b15_0 := hid (hE.cell b15_0.out)
    replace b15_1 := hid (hE.cell b15_1.out); replace hJ := hid (hJ.out.ext hE); replace b20_0 := hid (hE.cell b20_0.out); replace b20_1 := hid (hE.cell b20_1.out)
    replace b20_2 := hid (hE.cell b20_2.out); replace b20_3 := hid (hE.cell b20_3.out)
    clear hE
    have o0 := t_0.out
    have lo0 := cell_lt o0; dsimp only at lo0
    have o1 := t_1.out
    have o2 := b20_0.out
    have lo2 := cell_lt o2; dsimp only at lo2
    have o3 := b20_1.out
    have o4 := b20_2.out
    have o5 := b20_3.out
    go_wp2_with fail
    refine name_c (fun v21 hv => ?_)
    have x1 : Ext u20 v21 := by rw [hv]; exact exE
    have b22_0 := hid (show v21.cell? ⟨u20.heap.size, 0, none⟩ = some (.int .i64 (LN)) by rw [hv]; simp [go_sem])
    have b22_1 := hid (show v21.cell? ⟨u20.heap.size, 1, none⟩ = some (.int .i64 (LD)) by rw [hv]; simp [go_sem])
    replace X := hid (X.out.trans x1); replace hM := hid (hM.out.ext x1); replace t_0 := hid (x1.cell t_0.out); replace t_1 := hid (x1.cell t_1.out)
    replace p_0 := hid (x1.cell p_0.out); replace p_1 := hid (x1.cell p_1.out); replace p_2 := hid (x1.cell p_2.out); replace p_3 := hid (x1.cell p_3.out)
    replace hI := hid (hI.out.ext x1); replace b12_0 := hid (x1.cell b12_0.out); replace b12_1 := hid (x1.cell b12_1.out); replace b15_0 := hid (x1.cell b15_0.out)
    replace b15_1 := hid (x1.cell b15_1.out); replace hJ := hid (hJ.out.ext x1); replace b20_0 := hid (x1.cell b20_0.out); replace b20_1 := hid (x1.cell b20_1.out)
    replace b20_2 := hid (x1.cell b20_2.out); replace b20_3 := hid (x1.cell b20_3.out)
    clear o0 lo0 o1 o2 lo2 o3 o4 o5
    clear hv x1
    obtain ⟨Bb22, hBn⟩ : ∃ z, u20.heap.size = z := ⟨_, rfl⟩
    rw [hBn] at b22_0 b22_1 ⊢
    clear hBn
    refine (hK.out (by trivial) _ hM.out).mono ?_; rintro e u22 ⟨rfl, hE⟩
    replace X := hid (X.out.trans hE); replace hM := hid (hM.out.ext hE); replace t_0 := hid (hE.cell t_0.out); replace t_1 := hid (hE.cell t_1.out)
    replace p_0 := hid (hE.cell p_0.out); replace p_1 := hid (hE.cell p_1.out); replace p_2 := hid (hE.cell p_2.out); replace p_3 := hid (hE.cell p_3.out)
    replace hI := hid (hI.out.ext hE); replace b12_0 := hid (hE.cell b12_0.out); replace b12_1 := hid (hE.cell b12_1.out); replace b15_0 := hid (hE.cell b15_0.out)
    replace b15_1 := hid (hE.cell b15_1.out); replace hJ := hid (hJ.out.ext hE); replace b20_0 := hid (hE.cell b20_0.out); replace b20_1 := hid (hE.cell b20_1.out)
    replace b20_2 := hid (hE.cell b20_2.out); replace b20_3 := hid (hE.cell b20_3.out); replace b22_0 := hid (hE.cell b22_0.out); replace b22_1 := hid (hE.cell b22_1.out)
    clear hE
    have o0 := t_0.out
    have lo0 := cell_lt o0; dsimp only at lo0
    have o1 := t_1.out
    have o2 := b20_0.out
    have lo2 := cell_lt o2; dsimp only at lo2
    have o3 := b20_1.out
    have o4 := b20_2.out
    have o5 := b20_3.out
    go_wp2_with fail
    refine name_c (fun v23 hv => ?_)
    have x1 : Ext u22 v23 := by rw [hv]; exact exE
    have b23_0 := hid (show v23.cell? ⟨u22.heap.size, 0, none⟩ = some (.int .i64 (LN)) by rw [hv]; simp [go_sem])
    have b23_1 := hid (show v23.cell? ⟨u22.heap.size, 1, none⟩ = some (.int .i64 (LD)) by rw [hv]; simp [go_sem])
    replace X := hid (X.out.trans x1); replace hM := hid (hM.out.ext x1); replace t_0 := hid (x1.cell t_0.out); replace t_1 := hid (x1.cell t_1.out)
    replace p_0 := hid (x1.cell p_0.out); replace p_1 := hid (x1.cell p_1.out); replace p_2 := hid (x1.cell p_2.out); replace p_3 := hid (x1.cell p_3.out)
    replace hI := hid (hI.out.ext x1); replace b12_0 := hid (x1.cell b12_0.out); replace b12_1 := hid (x1.cell b12_1.out); replace b15_0 := hid (x1.cell b15_0.out)
    replace b15_1 := hid (x1.cell b15_1.out); replace hJ := hid (hJ.out.ext x1); replace b20_0 := hid (x1.cell b20_0.out); replace b20_1 := hid (x1.cell b20_1.out)
    replace b20_2 := hid (x1.cell b20_2.out); replace b20_3 := hid (x1.cell b20_3.out); replace b22_0 := hid (x1.cell b22_0.out); replace b22_1 := hid (x1.cell b22_1.out)
    clear o0 lo0 o1 o2 lo2 o3 o4 o5
    clear hv x1
    obtain ⟨Bb23, hBn⟩ : ∃ z, u22.heap.size = z := ⟨_, rfl⟩
    rw [hBn] at b23_0 b23_1 ⊢
    clear hBn
    refine (hKR.out (by trivial) _ hM.out).mono ?_; rintro e u24 ⟨rfl, hE⟩
    replace X := hid (X.out.trans hE); replace hM := hid (hM.out.ext hE); replace t_0 := hid (hE.cell t_0.out); replace t_1 := hid (hE.cell t_1.out)
    replace p_0 := hid (hE.cell p_0.out); replace p_1 := hid (hE.cell p_1.out); replace p_2 := hid (hE.cell p_2.out); replace p_3 := hid (hE.cell p_3.out)
    replace hI := hid (hI.out.ext hE); replace b12_0 := hid (hE.cell b12_0.out); replace b12_1 := hid (hE.cell b12_1.out); replace b15_0 := hid (hE.cell b15_0.out)
    replace b15_1 := hid (hE.cell b15_1.out); replace hJ := hid (hJ.out.ext hE); replace b20_0 := hid (hE.cell b20_0.out); replace b20_1 := hid (hE.cell b20_1.out)
    replace b20_2 := hid (hE.cell b20_2.out); replace b20_3 := hid (hE.cell b20_3.out); replace b22_0 := hid (hE.cell b22_0.out); replace b22_1 := hid (hE.cell b22_1.out)
    replace b23_0 := hid (hE.cell b23_0.out); replace b23_1 := hid (hE.cell b23_1.out)
    clear hE
    have o0 := t_0.out
    have lo0 := cell_lt o0; dsimp only at lo0
    have o1 := t_1.out
    have o2 := p_0.out
    have lo2 := cell_lt o2; dsimp only at lo2
    have o3 := p_1.out
    have o4 := p_2.out
    have o5 := p_3.out
    have o6 := b22_0.out
    have lo6 := cell_lt o6; dsimp only at lo6
    have o7 := b22_1.out
    have o8 := b15_0.out
    have lo8 := cell_lt o8; dsimp only at lo8
    have o9 := b15_1.out
    have o10 := b23_0.out
    have lo10 := cell_lt o10; dsimp only at lo10
    have o11 := b23_1.out
    go_wp2_with fail
    refine name_c (fun v25 hv => ?_)
    have x1 : Ext u24 v25 := by rw [hv]; exact exE
    have b24_0 := hid (show v25.cell? ⟨u24.heap.size, 0, none⟩ = some (.int .i64 (LN)) by rw [hv]; simp [go_sem])
    have b24_1 := hid (show v25.cell? ⟨u24.heap.size, 1, none⟩ = some (.int .i64 (LD)) by rw [hv]; simp [go_sem])
    replace X := hid (X.out.trans x1); replace hM := hid (hM.out.ext x1); replace t_0 := hid (x1.cell t_0.out); replace t_1 := hid (x1.cell t_1.out)
    replace p_0 := hid (x1.cell p_0.out); replace p_1 := hid (x1.cell p_1.out); replace p_2 := hid (x1.cell p_2.out); replace p_3 := hid (x1.cell p_3.out)
    replace hI := hid (hI.out.ext x1); replace b12_0 := hid (x1.cell b12_0.out); replace b12_1 := hid (x1.cell b12_1.out); replace b15_0 := hid (x1.cell b15_0.out)
    replace b15_1 := hid (x1.cell b15_1.out); replace hJ := hid (hJ.out.ext x1); replace b20_0 := hid (x1.cell b20_0.out); replace b20_1 := hid (x1.cell b20_1.out)
    replace b20_2 := hid (x1.cell b20_2.out); replace b20_3 := hid (x1.cell b20_3.out); replace b22_0 := hid (x1.cell b22_0.out); replace b22_1 := hid (x1.cell b22_1.out)
    replace b23_0 := hid (x1.cell b23_0.out); replace b23_1 := hid (x1.cell b23_1.out)
    clear o0 lo0 o1 o2 lo2 o3 o4 o5 o6 lo6 o7 o8 lo8 o9 o10 lo10 o11
    clear hv x1
    obtain ⟨Bb24, hBn⟩ : ∃ z, u24.heap.size = z := ⟨_, rfl⟩
    rw [hBn] at b24_0 b24_1 ⊢
    clear hBn
    refine (hKp.out _ hM.out).mono ?_; rintro e u26 ⟨rfl, hE⟩
    replace X := hid (X.out.trans hE); replace hM := hid (hM.out.ext hE); replace t_0 := hid (hE.cell t_0.out); replace t_1 := hid (hE.cell t_1.out)
    replace p_0 := hid (hE.cell p_0.out); replace p_1 := hid (hE.cell p_1.out); replace p_2 := hid (hE.cell p_2.out); replace p_3 := hid (hE.cell p_3.out)
    replace hI := hid (hI.out.ext hE); replace b12_0 := hid (hE.cell b12_0.out); replace b12_1 := hid (hE.cell b12_1.out); replace b15_0 := hid (hE.cell b15_0.out)
    replace b15_1 := hid (hE.cell b15_1.out); replace hJ := hid (hJ.out.ext hE); replace b20_0 := hid (hE.cell b20_0.out); replace b20_1 := hid (hE.cell b20_1.out)
    replace b20_2 := hid (hE.cell b20_2.out); replace b20_3 := hid (hE.cell b20_3.out); replace b22_0 := hid (hE.cell b22_0.out); replace b22_1 := hid (hE.cell b22_1.out)
    replace b23_0 := hid (hE.cell b23_0.out); replace b23_1 := hid (hE.cell b23_1.out); replace b24_0 := hid (hE.cell b24_0.out); replace b24_1 := hid (hE.cell b24_1.out)
    clear hE
    have o0 := t_0.out
    have lo0 := cell_lt o0; dsimp only at lo0
    have o1 := t_1.out
    have o2 := p_0.out
    have lo2 := cell_lt o2; dsimp only at lo2
    have o3 := p_1.out
    have o4 := p_2.out
    have o5 := p_3.out
    go_wp2_with fail
    refine name_c (fun v27 hv => ?_)
    have x1 : Ext u26 v27 := by rw [hv]; exact exE
    have b26_0 := hid (show v27.cell? ⟨u26.heap.size, 0, none⟩ = some (.int .i64 (Pn)) by rw [hv]; simp [go_sem])
    have b26_1 := hid (show v27.cell? ⟨u26.heap.size, 1, none⟩ = some (.int .i64 (Pd)) by rw [hv]; simp [go_sem])
    replace X := hid (X.out.trans x1); replace hM := hid (hM.out.ext x1); replace t_0 := hid (x1.cell t_0.out); replace t_1 := hid (x1.cell t_1.out)
    replace p_0 := hid (x1.cell p_0.out); replace p_1 := hid (x1.cell p_1.out); replace p_2 := hid (x1.cell p_2.out); replace p_3 := hid (x1.cell p_3.out)
    replace hI := hid (hI.out.ext x1); replace b12_0 := hid (x1.cell b12_0.out); replace b12_1 := hid (x1.cell b12_1.out); replace b15_0 := hid (x1.cell b15_0.out)
    replace b15_1 := hid (x1.cell b15_1.out); replace hJ := hid (hJ.out.ext x1); replace b20_0 := hid (x1.cell b20_0.out); replace b20_1 := hid (x1.cell b20_1.out)
    replace b20_2 := hid (x1.cell b20_2.out); replace b20_3 := hid (x1.cell b20_3.out); replace b22_0 := hid (x1.cell b22_0.out); replace b22_1 := hid (x1.cell b22_1.out)
    replace b23_0 := hid (x1.cell b23_0.out); replace b23_1 := hid (x1.cell b23_1.out); replace b24_0 := hid (x1.cell b24_0.out); replace b24_1 := hid (x1.cell b24_1.out)
    clear o0 lo0 o1 o2 lo2 o3 o4 o5
    clear hv x1
    obtain ⟨Bb26, hBn⟩ : ∃ z, u26.heap.size = z := ⟨_, rfl⟩
    rw [hBn] at b26_0 b26_1 ⊢
    clear hBn
    refine (hKq.out _ hM.out).mono ?_; rintro e u28 ⟨rfl, hE⟩
    replace X := hid (X.out.trans hE); replace hM := hid (hM.out.ext hE); replace t_0 := hid (hE.cell t_0.out); replace t_1 := hid (hE.cell t_1.out)
    replace p_0 := hid (hE.cell p_0.out); replace p_1 := hid (hE.cell p_1.out); replace p_2 := hid (hE.cell p_2.out); replace p_3 := hid (hE.cell p_3.out)
    replace hI := hid (hI.out.ext hE); replace b12_0 := hid (hE.cell b12_0.out); replace b12_1 := hid (hE.cell b12_1.out); replace b15_0 := hid (hE.cell b15_0.out)
    replace b15_1 := hid (hE.cell b15_1.out); replace hJ := hid (hJ.out.ext hE); replace b20_0 := hid (hE.cell b20_0.out); replace b20_1 := hid (hE.cell b20_1.out)
    replace b20_2 := hid (hE.cell b20_2.out); replace b20_3 := hid (hE.cell b20_3.out); replace b22_0 := hid (hE.cell b22_0.out); replace b22_1 := hid (hE.cell b22_1.out)
    replace b23_0 := hid (hE.cell b23_0.out); replace b23_1 := hid (hE.cell b23_1.out); replace b24_0 := hid (hE.cell b24_0.out); replace b24_1 := hid (hE.cell b24_1.out)
    replace b26_0 := hid (hE.cell b26_0.out); replace b26_1 := hid (hE.cell b26_1.out)
    clear hE
    go_upto_region 25 with (fail)
    refine name_wp (fun v29 hv => ?_)
    have x1 : Ext u28 v29 := by rw [hv]; exact exE
    have b28_0 := hid (show v29.cell? ⟨u28.heap.size, 0, none⟩ = some (.int .i64 (Pn)) by rw [hv]; simp [go_sem])
    have b28_1 := hid (show v29.cell? ⟨u28.heap.size, 1, none⟩ = some (.int .i64 (Pd)) by rw [hv]; simp [go_sem])
    replace X := hid (X.out.trans x1); replace hM := hid (hM.out.ext x1); replace t_0 := hid (x1.cell t_0.out); replace t_1 := hid (x1.cell t_1.out)
    replace p_0 := hid (x1.cell p_0.out); replace p_1 := hid (x1.cell p_1.out); replace p_2 := hid (x1.cell p_2.out); replace p_3 := hid (x1.cell p_3.out)
    replace hI := hid (hI.out.ext x1); replace b12_0 := hid (x1.cell b12_0.out); replace b12_1 := hid (x1.cell b12_1.out); replace b15_0 := hid (x1.cell b15_0.out)
    replace b15_1 := hid (x1.cell b15_1.out); replace hJ := hid (hJ.out.ext x1); replace b20_0 := hid (x1.cell b20_0.out); replace b20_1 := hid (x1.cell b20_1.out)
    replace b20_2 := hid (x1.cell b20_2.out); replace b20_3 := hid (x1.cell b20_3.out); replace b22_0 := hid (x1.cell b22_0.out); replace b22_1 := hid (x1.cell b22_1.out)
    replace b23_0 := hid (x1.cell b23_0.out); replace b23_1 := hid (x1.cell b23_1.out); replace b24_0 := hid (x1.cell b24_0.out); replace b24_1 := hid (x1.cell b24_1.out)
    replace b26_0 := hid (x1.cell b26_0.out); replace b26_1 := hid (x1.cell b26_1.out)
    clear hv x1
    obtain ⟨Bb28, hBn⟩ : ∃ z, u28.heap.size = z := ⟨_, rfl⟩
    rw [hBn] at b28_0 b28_1 ⊢
    clear hBn
    obtain ⟨Qq, hQq⟩ : ∃ z, Pn.tdiv Pd = z := ⟨_, rfl⟩
    have hq9 := quo_all hbb.out.1.1 hbb.out.2.1 hbb.out.2.2.2
    rw [hQq] at hq9
    refine wp_mono (stV25 b26_0.out b26_1.out (by have := hbb.out.1.1; omega) (by have := hbb.out.1.2; omega) (by have := hbb.out.1.1; omega) hQq hq9.1 hq9.2.1 hq9.2.2) ?_
    rintro e a' v98 ⟨rfl, jW', jX', jY', jZ', nA', nB', nC', nD', nE', nF', nG', nH', nI', nJ', nK', rfl, x⟩
    replace X := hid (X.out.trans x); replace b26_0 := hid (x.cell b26_0.out); replace b26_1 := hid (x.cell b26_1.out); replace b15_0 := hid (x.cell b15_0.out); replace b15_1 := hid (x.cell b15_1.out)
    clear x hq9 hQq
    go_upto_region 27 with (fail)
    rcases Int.lt_or_le Pn 0 with hneg | hneg
    ·refine wp_mono (stVn27 b26_0.out b26_1.out hneg) ?_
     rintro e a' v99 ⟨rfl, nM', nN', nO', nP', nQ', nR', nS', nT', nU', nV', nW', nX', nY', nZ', gA', gB', gC', gD', gE', rfl, x⟩
     replace X := hid (X.out.trans x)
     go_wp2_with fail
     go_ret
     exact ⟨rfl, X.out⟩
    ·refine wp_mono (stVp27 b26_0.out b26_1.out b15_0.out b15_1.out (by omega) rfl rfl (hw2.out hneg) hw3.out hbb.out.2.2.1) ?_
     rintro e a' v99 ⟨rfl, nM', nN', nO', nP', nQ', nR', nS', nT', nU', nV', nW', nX', nY', nZ', gA', gB', gC', gD', gE', rfl, x⟩
     replace X := hid (X.out.trans x)
     go_wp2_with fail
     go_ret
     exact ⟨rfl, X.out⟩
   ·have gP2 : (Pe != 0) = true := by simpa using gP
    replace gP := hid gP
    clear k2 hb hlo
    go_enter Try.func7, Try.ntmps7
    go_wp2_with fail
    refine (hf.out _ exE).mono ?_; rintro e w1 ⟨rfl, hE⟩
    have X := hid (show Ext w w1 from exE)
    have t_0 := hid (hE.cell (p := ⟨w.heap.size, 0, none⟩) (v := .int .i64 (u)) (by simp [go_sem]))
    have t_1 := hid (hE.cell (p := ⟨w.heap.size, 1, none⟩) (v := .int .i64 (c)) (by simp [go_sem]))
    have p_0 := hid (hE.cell (p := ⟨w.heap.size + 1, 0, none⟩) (v := .int .i64 (d)) (by simp [go_sem]))
    have p_1 := hid (hE.cell (p := ⟨w.heap.size + 1, 1, none⟩) (v := .int .i64 (b)) (by simp [go_sem]))
    have p_2 := hid (hE.cell (p := ⟨w.heap.size + 1, 2, none⟩) (v := .int .i64 (le)) (by simp [go_sem]))
    have p_3 := hid (hE.cell (p := ⟨w.heap.size + 1, 3, none⟩) (v := .int .i64 (co)) (by simp [go_sem]))
    replace hM := hid (hM.out.ext X.out)
    obtain ⟨T, hT⟩ : ∃ T, w.heap.size = T := ⟨_, rfl⟩
    rw [hT] at t_0 t_1 p_0 p_1 p_2 p_3 ⊢
    clear hE hf hT
    go_wp2_with fail
    refine name_c (fun v1 hv => ?_)
    have x1 : Ext w1 v1 := by rw [hv]; exact exE
    replace X := hid (X.out.trans x1); replace hM := hid (hM.out.ext x1); replace t_0 := hid (x1.cell t_0.out); replace t_1 := hid (x1.cell t_1.out)
    replace p_0 := hid (x1.cell p_0.out); replace p_1 := hid (x1.cell p_1.out); replace p_2 := hid (x1.cell p_2.out); replace p_3 := hid (x1.cell p_3.out)
    clear hv x1
    refine (hmxx.out _ X.out).mono ?_; rintro e u2 ⟨a1, k1, rfl, hI, hE⟩
    replace X := hid (X.out.trans hE); replace hM := hid (hM.out.ext hE); replace t_0 := hid (hE.cell t_0.out); replace t_1 := hid (hE.cell t_1.out)
    replace p_0 := hid (hE.cell p_0.out); replace p_1 := hid (hE.cell p_1.out); replace p_2 := hid (hE.cell p_2.out); replace p_3 := hid (hE.cell p_3.out)
    clear hE
    replace hI := hid hI
    rw [xl.out]
    go_wp2_with fail
    refine name_c (fun v3 hv => ?_)
    have x1 : Ext u2 v3 := by rw [hv]; exact exE
    replace X := hid (X.out.trans x1); replace hM := hid (hM.out.ext x1); replace t_0 := hid (x1.cell t_0.out); replace t_1 := hid (x1.cell t_1.out)
    replace p_0 := hid (x1.cell p_0.out); replace p_1 := hid (x1.cell p_1.out); replace p_2 := hid (x1.cell p_2.out); replace p_3 := hid (x1.cell p_3.out)
    replace hI := hid (hI.out.ext x1)
    clear hv x1
    refine (hC1.out _ _ _ hM.out hI.out).mono ?_; rintro e u4 ⟨rfl, hE⟩
    replace X := hid (X.out.trans hE); replace hM := hid (hM.out.ext hE); replace t_0 := hid (hE.cell t_0.out); replace t_1 := hid (hE.cell t_1.out)
    replace p_0 := hid (hE.cell p_0.out); replace p_1 := hid (hE.cell p_1.out); replace p_2 := hid (hE.cell p_2.out); replace p_3 := hid (hE.cell p_3.out)
    replace hI := hid (hI.out.ext hE)
    clear hE
    have o0 := t_0.out
    have lo0 := cell_lt o0; dsimp only at lo0
    have o1 := t_1.out
    go_wp2_with fail
    refine name_c (fun v5 hv => ?_)
    have x1 : Ext u4 v5 := by rw [hv]; exact exE
    have b12_0 := hid (show v5.cell? ⟨u4.heap.size, 0, none⟩ = some (.int .i64 (N1)) by rw [hv]; simp [go_sem])
    have b12_1 := hid (show v5.cell? ⟨u4.heap.size, 1, none⟩ = some (.int .i64 (D1)) by rw [hv]; simp [go_sem])
    replace X := hid (X.out.trans x1); replace hM := hid (hM.out.ext x1); replace t_0 := hid (x1.cell t_0.out); replace t_1 := hid (x1.cell t_1.out)
    replace p_0 := hid (x1.cell p_0.out); replace p_1 := hid (x1.cell p_1.out); replace p_2 := hid (x1.cell p_2.out); replace p_3 := hid (x1.cell p_3.out)
    replace hI := hid (hI.out.ext x1)
    clear o0 lo0 o1
    clear hv x1
    obtain ⟨Bb12, hBn⟩ : ∃ z, u4.heap.size = z := ⟨_, rfl⟩
    rw [hBn] at b12_0 b12_1 ⊢
    clear hBn
    refine (hD1.out _ _ _ hM.out hI.out).mono ?_; rintro e u6 ⟨rfl, hE⟩
    replace X := hid (X.out.trans hE); replace hM := hid (hM.out.ext hE); replace t_0 := hid (hE.cell t_0.out); replace t_1 := hid (hE.cell t_1.out)
    replace p_0 := hid (hE.cell p_0.out); replace p_1 := hid (hE.cell p_1.out); replace p_2 := hid (hE.cell p_2.out); replace p_3 := hid (hE.cell p_3.out)
    replace hI := hid (hI.out.ext hE); replace b12_0 := hid (hE.cell b12_0.out); replace b12_1 := hid (hE.cell b12_1.out)
    clear hE
    have o0 := t_0.out
    have lo0 := cell_lt o0; dsimp only at lo0
    have o1 := t_1.out
    go_wp2_with fail
    refine name_c (fun v7 hv => ?_)
    have x1 : Ext u6 v7 := by rw [hv]; exact exE
    replace X := hid (X.out.trans x1); replace hM := hid (hM.out.ext x1); replace t_0 := hid (x1.cell t_0.out); replace t_1 := hid (x1.cell t_1.out)
    replace p_0 := hid (x1.cell p_0.out); replace p_1 := hid (x1.cell p_1.out); replace p_2 := hid (x1.cell p_2.out); replace p_3 := hid (x1.cell p_3.out)
    replace hI := hid (hI.out.ext x1); replace b12_0 := hid (x1.cell b12_0.out); replace b12_1 := hid (x1.cell b12_1.out)
    clear o0 lo0 o1
    clear hv x1
    refine (hL.out _ hM.out).mono ?_; rintro e u8 ⟨rfl, hE⟩
    replace X := hid (X.out.trans hE); replace hM := hid (hM.out.ext hE); replace t_0 := hid (hE.cell t_0.out); replace t_1 := hid (hE.cell t_1.out)
    replace p_0 := hid (hE.cell p_0.out); replace p_1 := hid (hE.cell p_1.out); replace p_2 := hid (hE.cell p_2.out); replace p_3 := hid (hE.cell p_3.out)
    replace hI := hid (hI.out.ext hE); replace b12_0 := hid (hE.cell b12_0.out); replace b12_1 := hid (hE.cell b12_1.out)
    clear hE
    have o0 := b12_0.out
    have lo0 := cell_lt o0; dsimp only at lo0
    have o1 := b12_1.out
    go_wp2_with fail
    refine name_c (fun v9 hv => ?_)
    have x1 : Ext u8 v9 := by rw [hv]; exact exE
    have b15_0 := hid (show v9.cell? ⟨u8.heap.size, 0, none⟩ = some (.int .i64 (LN)) by rw [hv]; simp [go_sem])
    have b15_1 := hid (show v9.cell? ⟨u8.heap.size, 1, none⟩ = some (.int .i64 (LD)) by rw [hv]; simp [go_sem])
    replace X := hid (X.out.trans x1); replace hM := hid (hM.out.ext x1); replace t_0 := hid (x1.cell t_0.out); replace t_1 := hid (x1.cell t_1.out)
    replace p_0 := hid (x1.cell p_0.out); replace p_1 := hid (x1.cell p_1.out); replace p_2 := hid (x1.cell p_2.out); replace p_3 := hid (x1.cell p_3.out)
    replace hI := hid (hI.out.ext x1); replace b12_0 := hid (x1.cell b12_0.out); replace b12_1 := hid (x1.cell b12_1.out)
    clear o0 lo0 o1
    clear hv x1
    obtain ⟨Bb15, hBn⟩ : ∃ z, u8.heap.size = z := ⟨_, rfl⟩
    rw [hBn] at b15_0 b15_1 ⊢
    clear hBn
    refine (s1.out _).mono ?_; rintro e u10 ⟨rfl, hE⟩
    replace X := hid (X.out.trans hE); replace hM := hid (hM.out.ext hE); replace t_0 := hid (hE.cell t_0.out); replace t_1 := hid (hE.cell t_1.out)
    replace p_0 := hid (hE.cell p_0.out); replace p_1 := hid (hE.cell p_1.out); replace p_2 := hid (hE.cell p_2.out); replace p_3 := hid (hE.cell p_3.out)
    replace hI := hid (hI.out.ext hE); replace b12_0 := hid (hE.cell b12_0.out); replace b12_1 := hid (hE.cell b12_1.out); replace b15_0 := hid (hE.cell b15_0.out)
    replace b15_1 := hid (hE.cell b15_1.out)
    clear hE
    have o0 := b12_0.out
    have lo0 := cell_lt o0; dsimp only at lo0
    have o1 := b12_1.out
    have o2 := b15_0.out
    have lo2 := cell_lt o2; dsimp only at lo2
    have o3 := b15_1.out
    go_wp2_with fail
    refine name_c (fun v11 hv => ?_)
    have x1 : Ext u10 v11 := by rw [hv]; exact exE
    replace X := hid (X.out.trans x1); replace hM := hid (hM.out.ext x1); replace t_0 := hid (x1.cell t_0.out); replace t_1 := hid (x1.cell t_1.out)
    replace p_0 := hid (x1.cell p_0.out); replace p_1 := hid (x1.cell p_1.out); replace p_2 := hid (x1.cell p_2.out); replace p_3 := hid (x1.cell p_3.out)
    replace hI := hid (hI.out.ext x1); replace b12_0 := hid (x1.cell b12_0.out); replace b12_1 := hid (x1.cell b12_1.out); replace b15_0 := hid (x1.cell b15_0.out)
    replace b15_1 := hid (x1.cell b15_1.out)
    clear o0 lo0 o1 o2 lo2 o3
    clear hv x1
    refine (m1.out (by trivial) _).mono ?_; rintro e u12 ⟨rfl, hE⟩
    replace X := hid (X.out.trans hE); replace hM := hid (hM.out.ext hE); replace t_0 := hid (hE.cell t_0.out); replace t_1 := hid (hE.cell t_1.out)
    replace p_0 := hid (hE.cell p_0.out); replace p_1 := hid (hE.cell p_1.out); replace p_2 := hid (hE.cell p_2.out); replace p_3 := hid (hE.cell p_3.out)
    replace hI := hid (hI.out.ext hE); replace b12_0 := hid (hE.cell b12_0.out); replace b12_1 := hid (hE.cell b12_1.out); replace b15_0 := hid (hE.cell b15_0.out)
    replace b15_1 := hid (hE.cell b15_1.out)
    clear hE
    rw [hlf.out]
    have o0 := t_0.out
    have lo0 := cell_lt o0; dsimp only at lo0
    have o1 := t_1.out
    go_wp2_with fail
    refine name_c (fun v13 hv => ?_)
    have x1 : Ext u12 v13 := by rw [hv]; exact exE
    replace X := hid (X.out.trans x1); replace hM := hid (hM.out.ext x1); replace t_0 := hid (x1.cell t_0.out); replace t_1 := hid (x1.cell t_1.out)
    replace p_0 := hid (x1.cell p_0.out); replace p_1 := hid (x1.cell p_1.out); replace p_2 := hid (x1.cell p_2.out); replace p_3 := hid (x1.cell p_3.out)
    replace hI := hid (hI.out.ext x1); replace b12_0 := hid (x1.cell b12_0.out); replace b12_1 := hid (x1.cell b12_1.out); replace b15_0 := hid (x1.cell b15_0.out)
    replace b15_1 := hid (x1.cell b15_1.out)
    clear o0 lo0 o1
    clear hv x1
    refine (hCh.out _ hM.out).mono ?_; rintro e u14 ⟨a2, k2, rfl, hJ, hE⟩
    replace X := hid (X.out.trans hE); replace hM := hid (hM.out.ext hE); replace t_0 := hid (hE.cell t_0.out); replace t_1 := hid (hE.cell t_1.out)
    replace p_0 := hid (hE.cell p_0.out); replace p_1 := hid (hE.cell p_1.out); replace p_2 := hid (hE.cell p_2.out); replace p_3 := hid (hE.cell p_3.out)
    replace hI := hid (hI.out.ext hE); replace b12_0 := hid (hE.cell b12_0.out); replace b12_1 := hid (hE.cell b12_1.out); replace b15_0 := hid (hE.cell b15_0.out)
    replace b15_1 := hid (hE.cell b15_1.out)
    clear hE
    rw [hcl.out (by trivial)]
    replace hJ := hid hJ
    have o0 := t_0.out
    have lo0 := cell_lt o0; dsimp only at lo0
    have o1 := t_1.out
    go_wp2_with fail
    refine name_c (fun v15 hv => ?_)
    have x1 : Ext u14 v15 := by rw [hv]; exact exE
    replace X := hid (X.out.trans x1); replace hM := hid (hM.out.ext x1); replace t_0 := hid (x1.cell t_0.out); replace t_1 := hid (x1.cell t_1.out)
    replace p_0 := hid (x1.cell p_0.out); replace p_1 := hid (x1.cell p_1.out); replace p_2 := hid (x1.cell p_2.out); replace p_3 := hid (x1.cell p_3.out)
    replace hI := hid (hI.out.ext x1); replace b12_0 := hid (x1.cell b12_0.out); replace b12_1 := hid (x1.cell b12_1.out); replace b15_0 := hid (x1.cell b15_0.out)
    replace b15_1 := hid (x1.cell b15_1.out); replace hJ := hid (hJ.out.ext x1)
    clear o0 lo0 o1
    clear hv x1
    refine (hPr.out _ hM.out).mono ?_; rintro e u16 ⟨rfl, hE⟩
    replace X := hid (X.out.trans hE); replace hM := hid (hM.out.ext hE); replace t_0 := hid (hE.cell t_0.out); replace t_1 := hid (hE.cell t_1.out)
    replace p_0 := hid (hE.cell p_0.out); replace p_1 := hid (hE.cell p_1.out); replace p_2 := hid (hE.cell p_2.out); replace p_3 := hid (hE.cell p_3.out)
    replace hI := hid (hI.out.ext hE); replace b12_0 := hid (hE.cell b12_0.out); replace b12_1 := hid (hE.cell b12_1.out); replace b15_0 := hid (hE.cell b15_0.out)
    replace b15_1 := hid (hE.cell b15_1.out); replace hJ := hid (hJ.out.ext hE)
    clear hE
    have o0 := t_0.out
    have lo0 := cell_lt o0; dsimp only at lo0
    have o1 := t_1.out
    go_wp2_with fail
    refine name_c (fun v17 hv => ?_)
    have x1 : Ext u16 v17 := by rw [hv]; exact exE
    have b20_0 := hid (show v17.cell? ⟨u16.heap.size, 0, none⟩ = some (.int .i64 (q0)) by rw [hv]; simp [go_sem])
    have b20_1 := hid (show v17.cell? ⟨u16.heap.size, 1, none⟩ = some (.int .i64 (q1)) by rw [hv]; simp [go_sem])
    have b20_2 := hid (show v17.cell? ⟨u16.heap.size, 2, none⟩ = some (.int .i64 (q2)) by rw [hv]; simp [go_sem])
    have b20_3 := hid (show v17.cell? ⟨u16.heap.size, 3, none⟩ = some (.int .i64 (q3)) by rw [hv]; simp [go_sem])
    replace X := hid (X.out.trans x1); replace hM := hid (hM.out.ext x1); replace t_0 := hid (x1.cell t_0.out); replace t_1 := hid (x1.cell t_1.out)
    replace p_0 := hid (x1.cell p_0.out); replace p_1 := hid (x1.cell p_1.out); replace p_2 := hid (x1.cell p_2.out); replace p_3 := hid (x1.cell p_3.out)
    replace hI := hid (hI.out.ext x1); replace b12_0 := hid (x1.cell b12_0.out); replace b12_1 := hid (x1.cell b12_1.out); replace b15_0 := hid (x1.cell b15_0.out)
    replace b15_1 := hid (x1.cell b15_1.out); replace hJ := hid (hJ.out.ext x1)
    clear o0 lo0 o1
    clear hv x1
    obtain ⟨Bb20, hBn⟩ : ∃ z, u16.heap.size = z := ⟨_, rfl⟩
    rw [hBn] at b20_0 b20_1 b20_2 b20_3 ⊢
    clear hBn
    refine (hD2.out (by trivial) _ _ _ hM.out hJ.out).mono ?_; rintro e u18 ⟨rfl, hE⟩
    replace X := hid (X.out.trans hE); replace hM := hid (hM.out.ext hE); replace t_0 := hid (hE.cell t_0.out); replace t_1 := hid (hE.cell t_1.out)
    replace p_0 := hid (hE.cell p_0.out); replace p_1 := hid (hE.cell p_1.out); replace p_2 := hid (hE.cell p_2.out); replace p_3 := hid (hE.cell p_3.out)
    replace hI := hid (hI.out.ext hE); replace b12_0 := hid (hE.cell b12_0.out); replace b12_1 := hid (hE.cell b12_1.out); replace b15_0 := hid (hE.cell b15_0.out)
    replace b15_1 := hid (hE.cell b15_1.out); replace hJ := hid (hJ.out.ext hE); replace b20_0 := hid (hE.cell b20_0.out); replace b20_1 := hid (hE.cell b20_1.out)
    replace b20_2 := hid (hE.cell b20_2.out); replace b20_3 := hid (hE.cell b20_3.out)
    clear hE
    go_wp2_with fail
    refine name_c (fun v19 hv => ?_)
    have x1 : Ext u18 v19 := by rw [hv]; exact exE
    replace X := hid (X.out.trans x1); replace hM := hid (hM.out.ext x1); replace t_0 := hid (x1.cell t_0.out); replace t_1 := hid (x1.cell t_1.out)
    replace p_0 := hid (x1.cell p_0.out); replace p_1 := hid (x1.cell p_1.out); replace p_2 := hid (x1.cell p_2.out); replace p_3 := hid (x1.cell p_3.out)
    replace hI := hid (hI.out.ext x1); replace b12_0 := hid (x1.cell b12_0.out); replace b12_1 := hid (x1.cell b12_1.out); replace b15_0 := hid (x1.cell b15_0.out)
    replace b15_1 := hid (x1.cell b15_1.out); replace hJ := hid (hJ.out.ext x1); replace b20_0 := hid (x1.cell b20_0.out); replace b20_1 := hid (x1.cell b20_1.out)
    replace b20_2 := hid (x1.cell b20_2.out); replace b20_3 := hid (x1.cell b20_3.out)
    clear hv x1
    refine (hC2.out (by trivial) _ _ _ hM.out hJ.out).mono ?_; rintro e u20 ⟨rfl, hE⟩
    replace X := hid (X.out.trans hE); replace hM := hid (hM.out.ext hE); replace t_0 := hid (hE.cell t_0.out); replace t_1 := hid (hE.cell t_1.out)
    replace p_0 := hid (hE.cell p_0.out); replace p_1 := hid (hE.cell p_1.out); replace p_2 := hid (hE.cell p_2.out); replace p_3 := hid (hE.cell p_3.out)
    replace hI := hid (hI.out.ext hE); replace b12_0 := hid (hE.cell b12_0.out); replace b12_1 := hid (hE.cell b12_1.out); replace b15_0 := hid (hE.cell b15_0.out)
    replace b15_1 := hid (hE.cell b15_1.out); replace hJ := hid (hJ.out.ext hE); replace b20_0 := hid (hE.cell b20_0.out); replace b20_1 := hid (hE.cell b20_1.out)
    replace b20_2 := hid (hE.cell b20_2.out); replace b20_3 := hid (hE.cell b20_3.out)
    clear hE
    have o0 := t_0.out
    have lo0 := cell_lt o0; dsimp only at lo0
    have o1 := t_1.out
    have o2 := b20_0.out
    have lo2 := cell_lt o2; dsimp only at lo2
    have o3 := b20_1.out
    have o4 := b20_2.out
    have o5 := b20_3.out
    go_wp2_with fail
    refine name_c (fun v21 hv => ?_)
    have x1 : Ext u20 v21 := by rw [hv]; exact exE
    have b22_0 := hid (show v21.cell? ⟨u20.heap.size, 0, none⟩ = some (.int .i64 (LN)) by rw [hv]; simp [go_sem])
    have b22_1 := hid (show v21.cell? ⟨u20.heap.size, 1, none⟩ = some (.int .i64 (LD)) by rw [hv]; simp [go_sem])
    replace X := hid (X.out.trans x1); replace hM := hid (hM.out.ext x1); replace t_0 := hid (x1.cell t_0.out); replace t_1 := hid (x1.cell t_1.out)
    replace p_0 := hid (x1.cell p_0.out); replace p_1 := hid (x1.cell p_1.out); replace p_2 := hid (x1.cell p_2.out); replace p_3 := hid (x1.cell p_3.out)
    replace hI := hid (hI.out.ext x1); replace b12_0 := hid (x1.cell b12_0.out); replace b12_1 := hid (x1.cell b12_1.out); replace b15_0 := hid (x1.cell b15_0.out)
    replace b15_1 := hid (x1.cell b15_1.out); replace hJ := hid (hJ.out.ext x1); replace b20_0 := hid (x1.cell b20_0.out); replace b20_1 := hid (x1.cell b20_1.out)
    replace b20_2 := hid (x1.cell b20_2.out); replace b20_3 := hid (x1.cell b20_3.out)
    clear o0 lo0 o1 o2 lo2 o3 o4 o5
    clear hv x1
    obtain ⟨Bb22, hBn⟩ : ∃ z, u20.heap.size = z := ⟨_, rfl⟩
    rw [hBn] at b22_0 b22_1 ⊢
    clear hBn
    refine (hK.out (by trivial) _ hM.out).mono ?_; rintro e u22 ⟨rfl, hE⟩
    replace X := hid (X.out.trans hE); replace hM := hid (hM.out.ext hE); replace t_0 := hid (hE.cell t_0.out); replace t_1 := hid (hE.cell t_1.out)
    replace p_0 := hid (hE.cell p_0.out); replace p_1 := hid (hE.cell p_1.out); replace p_2 := hid (hE.cell p_2.out); replace p_3 := hid (hE.cell p_3.out)
    replace hI := hid (hI.out.ext hE); replace b12_0 := hid (hE.cell b12_0.out); replace b12_1 := hid (hE.cell b12_1.out); replace b15_0 := hid (hE.cell b15_0.out)
    replace b15_1 := hid (hE.cell b15_1.out); replace hJ := hid (hJ.out.ext hE); replace b20_0 := hid (hE.cell b20_0.out); replace b20_1 := hid (hE.cell b20_1.out)
    replace b20_2 := hid (hE.cell b20_2.out); replace b20_3 := hid (hE.cell b20_3.out); replace b22_0 := hid (hE.cell b22_0.out); replace b22_1 := hid (hE.cell b22_1.out)
    clear hE
    have o0 := t_0.out
    have lo0 := cell_lt o0; dsimp only at lo0
    have o1 := t_1.out
    have o2 := b20_0.out
    have lo2 := cell_lt o2; dsimp only at lo2
    have o3 := b20_1.out
    have o4 := b20_2.out
    have o5 := b20_3.out
    go_wp2_with fail
    refine name_c (fun v23 hv => ?_)
    have x1 : Ext u22 v23 := by rw [hv]; exact exE
    have b23_0 := hid (show v23.cell? ⟨u22.heap.size, 0, none⟩ = some (.int .i64 (LN)) by rw [hv]; simp [go_sem])
    have b23_1 := hid (show v23.cell? ⟨u22.heap.size, 1, none⟩ = some (.int .i64 (LD)) by rw [hv]; simp [go_sem])
    replace X := hid (X.out.trans x1); replace hM := hid (hM.out.ext x1); replace t_0 := hid (x1.cell t_0.out); replace t_1 := hid (x1.cell t_1.out)
    replace p_0 := hid (x1.cell p_0.out); replace p_1 := hid (x1.cell p_1.out); replace p_2 := hid (x1.cell p_2.out); replace p_3 := hid (x1.cell p_3.out)
    replace hI := hid (hI.out.ext x1); replace b12_0 := hid (x1.cell b12_0.out); replace b12_1 := hid (x1.cell b12_1.out); replace b15_0 := hid (x1.cell b15_0.out)
    replace b15_1 := hid (x1.cell b15_1.out); replace hJ := hid (hJ.out.ext x1); replace b20_0 := hid (x1.cell b20_0.out); replace b20_1 := hid (x1.cell b20_1.out)
    replace b20_2 := hid (x1.cell b20_2.out); replace b20_3 := hid (x1.cell b20_3.out); replace b22_0 := hid (x1.cell b22_0.out); replace b22_1 := hid (x1.cell b22_1.out)
    clear o0 lo0 o1 o2 lo2 o3 o4 o5
    clear hv x1
    obtain ⟨Bb23, hBn⟩ : ∃ z, u22.heap.size = z := ⟨_, rfl⟩
    rw [hBn] at b23_0 b23_1 ⊢
    clear hBn
    refine (hKR.out (by trivial) _ hM.out).mono ?_; rintro e u24 ⟨rfl, hE⟩
    replace X := hid (X.out.trans hE); replace hM := hid (hM.out.ext hE); replace t_0 := hid (hE.cell t_0.out); replace t_1 := hid (hE.cell t_1.out)
    replace p_0 := hid (hE.cell p_0.out); replace p_1 := hid (hE.cell p_1.out); replace p_2 := hid (hE.cell p_2.out); replace p_3 := hid (hE.cell p_3.out)
    replace hI := hid (hI.out.ext hE); replace b12_0 := hid (hE.cell b12_0.out); replace b12_1 := hid (hE.cell b12_1.out); replace b15_0 := hid (hE.cell b15_0.out)
    replace b15_1 := hid (hE.cell b15_1.out); replace hJ := hid (hJ.out.ext hE); replace b20_0 := hid (hE.cell b20_0.out); replace b20_1 := hid (hE.cell b20_1.out)
    replace b20_2 := hid (hE.cell b20_2.out); replace b20_3 := hid (hE.cell b20_3.out); replace b22_0 := hid (hE.cell b22_0.out); replace b22_1 := hid (hE.cell b22_1.out)
    replace b23_0 := hid (hE.cell b23_0.out); replace b23_1 := hid (hE.cell b23_1.out)
    clear hE
    have o0 := t_0.out
    have lo0 := cell_lt o0; dsimp only at lo0
    have o1 := t_1.out
    have o2 := p_0.out
    have lo2 := cell_lt o2; dsimp only at lo2
    have o3 := p_1.out
    have o4 := p_2.out
    have o5 := p_3.out
    have o6 := b22_0.out
    have lo6 := cell_lt o6; dsimp only at lo6
    have o7 := b22_1.out
    have o8 := b15_0.out
    have lo8 := cell_lt o8; dsimp only at lo8
    have o9 := b15_1.out
    have o10 := b23_0.out
    have lo10 := cell_lt o10; dsimp only at lo10
    have o11 := b23_1.out
    go_wp2_with fail
    refine name_c (fun v25 hv => ?_)
    have x1 : Ext u24 v25 := by rw [hv]; exact exE
    have b24_0 := hid (show v25.cell? ⟨u24.heap.size, 0, none⟩ = some (.int .i64 (LN)) by rw [hv]; simp [go_sem])
    have b24_1 := hid (show v25.cell? ⟨u24.heap.size, 1, none⟩ = some (.int .i64 (LD)) by rw [hv]; simp [go_sem])
    replace X := hid (X.out.trans x1); replace hM := hid (hM.out.ext x1); replace t_0 := hid (x1.cell t_0.out); replace t_1 := hid (x1.cell t_1.out)
    replace p_0 := hid (x1.cell p_0.out); replace p_1 := hid (x1.cell p_1.out); replace p_2 := hid (x1.cell p_2.out); replace p_3 := hid (x1.cell p_3.out)
    replace hI := hid (hI.out.ext x1); replace b12_0 := hid (x1.cell b12_0.out); replace b12_1 := hid (x1.cell b12_1.out); replace b15_0 := hid (x1.cell b15_0.out)
    replace b15_1 := hid (x1.cell b15_1.out); replace hJ := hid (hJ.out.ext x1); replace b20_0 := hid (x1.cell b20_0.out); replace b20_1 := hid (x1.cell b20_1.out)
    replace b20_2 := hid (x1.cell b20_2.out); replace b20_3 := hid (x1.cell b20_3.out); replace b22_0 := hid (x1.cell b22_0.out); replace b22_1 := hid (x1.cell b22_1.out)
    replace b23_0 := hid (x1.cell b23_0.out); replace b23_1 := hid (x1.cell b23_1.out)
    clear o0 lo0 o1 o2 lo2 o3 o4 o5 o6 lo6 o7 o8 lo8 o9 o10 lo10 o11
    clear hv x1
    obtain ⟨Bb24, hBn⟩ : ∃ z, u24.heap.size = z := ⟨_, rfl⟩
    rw [hBn] at b24_0 b24_1 ⊢
    clear hBn
    refine (hKp.out _ hM.out).mono ?_; rintro e u26 ⟨rfl, hE⟩
    replace X := hid (X.out.trans hE); replace hM := hid (hM.out.ext hE); replace t_0 := hid (hE.cell t_0.out); replace t_1 := hid (hE.cell t_1.out)
    replace p_0 := hid (hE.cell p_0.out); replace p_1 := hid (hE.cell p_1.out); replace p_2 := hid (hE.cell p_2.out); replace p_3 := hid (hE.cell p_3.out)
    replace hI := hid (hI.out.ext hE); replace b12_0 := hid (hE.cell b12_0.out); replace b12_1 := hid (hE.cell b12_1.out); replace b15_0 := hid (hE.cell b15_0.out)
    replace b15_1 := hid (hE.cell b15_1.out); replace hJ := hid (hJ.out.ext hE); replace b20_0 := hid (hE.cell b20_0.out); replace b20_1 := hid (hE.cell b20_1.out)
    replace b20_2 := hid (hE.cell b20_2.out); replace b20_3 := hid (hE.cell b20_3.out); replace b22_0 := hid (hE.cell b22_0.out); replace b22_1 := hid (hE.cell b22_1.out)
    replace b23_0 := hid (hE.cell b23_0.out); replace b23_1 := hid (hE.cell b23_1.out); replace b24_0 := hid (hE.cell b24_0.out); replace b24_1 := hid (hE.cell b24_1.out)
    clear hE
    have o0 := t_0.out
    have lo0 := cell_lt o0; dsimp only at lo0
    have o1 := t_1.out
    have o2 := p_0.out
    have lo2 := cell_lt o2; dsimp only at lo2
    have o3 := p_1.out
    have o4 := p_2.out
    have o5 := p_3.out
    go_wp2_with fail
    refine name_c (fun v27 hv => ?_)
    have x1 : Ext u26 v27 := by rw [hv]; exact exE
    have b26_0 := hid (show v27.cell? ⟨u26.heap.size, 0, none⟩ = some (.int .i64 (Pn)) by rw [hv]; simp [go_sem])
    have b26_1 := hid (show v27.cell? ⟨u26.heap.size, 1, none⟩ = some (.int .i64 (Pd)) by rw [hv]; simp [go_sem])
    replace X := hid (X.out.trans x1); replace hM := hid (hM.out.ext x1); replace t_0 := hid (x1.cell t_0.out); replace t_1 := hid (x1.cell t_1.out)
    replace p_0 := hid (x1.cell p_0.out); replace p_1 := hid (x1.cell p_1.out); replace p_2 := hid (x1.cell p_2.out); replace p_3 := hid (x1.cell p_3.out)
    replace hI := hid (hI.out.ext x1); replace b12_0 := hid (x1.cell b12_0.out); replace b12_1 := hid (x1.cell b12_1.out); replace b15_0 := hid (x1.cell b15_0.out)
    replace b15_1 := hid (x1.cell b15_1.out); replace hJ := hid (hJ.out.ext x1); replace b20_0 := hid (x1.cell b20_0.out); replace b20_1 := hid (x1.cell b20_1.out)
    replace b20_2 := hid (x1.cell b20_2.out); replace b20_3 := hid (x1.cell b20_3.out); replace b22_0 := hid (x1.cell b22_0.out); replace b22_1 := hid (x1.cell b22_1.out)
    replace b23_0 := hid (x1.cell b23_0.out); replace b23_1 := hid (x1.cell b23_1.out); replace b24_0 := hid (x1.cell b24_0.out); replace b24_1 := hid (x1.cell b24_1.out)
    clear o0 lo0 o1 o2 lo2 o3 o4 o5
    clear hv x1
    obtain ⟨Bb26, hBn⟩ : ∃ z, u26.heap.size = z := ⟨_, rfl⟩
    rw [hBn] at b26_0 b26_1 ⊢
    clear hBn
    refine (hKq.out _ hM.out).mono ?_; rintro e u28 ⟨rfl, hE⟩
    replace X := hid (X.out.trans hE); replace hM := hid (hM.out.ext hE); replace t_0 := hid (hE.cell t_0.out); replace t_1 := hid (hE.cell t_1.out)
    replace p_0 := hid (hE.cell p_0.out); replace p_1 := hid (hE.cell p_1.out); replace p_2 := hid (hE.cell p_2.out); replace p_3 := hid (hE.cell p_3.out)
    replace hI := hid (hI.out.ext hE); replace b12_0 := hid (hE.cell b12_0.out); replace b12_1 := hid (hE.cell b12_1.out); replace b15_0 := hid (hE.cell b15_0.out)
    replace b15_1 := hid (hE.cell b15_1.out); replace hJ := hid (hJ.out.ext hE); replace b20_0 := hid (hE.cell b20_0.out); replace b20_1 := hid (hE.cell b20_1.out)
    replace b20_2 := hid (hE.cell b20_2.out); replace b20_3 := hid (hE.cell b20_3.out); replace b22_0 := hid (hE.cell b22_0.out); replace b22_1 := hid (hE.cell b22_1.out)
    replace b23_0 := hid (hE.cell b23_0.out); replace b23_1 := hid (hE.cell b23_1.out); replace b24_0 := hid (hE.cell b24_0.out); replace b24_1 := hid (hE.cell b24_1.out)
    replace b26_0 := hid (hE.cell b26_0.out); replace b26_1 := hid (hE.cell b26_1.out)
    clear hE
    go_wp2_with fail
    refine (works_any _).mono ?_; rintro e w9 ⟨rfl, hE9⟩
    have X9 := hid (X.out.trans (show Ext u28 w9 from exE))
    go_wp2_with fail
    go_ret
    exact ⟨rfl, X9.out⟩
  ·subst gD
   skip
   clear hless hgd hdt
   by_cases gP : Pe = 0
   ·subst gP
    have hbb := hid (And.intro (hb.out rfl).1 (And.intro (hb.out rfl).2.1 (And.intro (hb.out rfl).2.2 hlo.out)))
    clear hb hlo
    have hw3 : Hid (-9223372036854775808 ≤ LN * Pd ∧ LN * Pd ≤ 9223372036854775807) := hid (mul_6 ⟨k2.n0, by have := k2.n1; have := k2.d1; omega⟩ hbb.out.1)
    have hw2 : Hid (0 ≤ Pn → -9223372036854775808 ≤ Pn * LD ∧ Pn * LD ≤ 9223372036854775807) := hid (fun h => by have h1 := hbb.out.2.2.1; have h2 := hw3.out; have h3 := Int.mul_nonneg h (show 0 ≤ LD by have := k2.d0; omega); omega)
    clear k2
    go_enter Try.func7, Try.ntmps7
    go_wp2_with fail
    refine (hf.out _ exE).mono ?_; rintro e w1 ⟨rfl, hE⟩
    have X := hid (show Ext w w1 from exE)
    have t_0 := hid (hE.cell (p := ⟨w.heap.size, 0, none⟩) (v := .int .i64 (u)) (by simp [go_sem]))
    have t_1 := hid (hE.cell (p := ⟨w.heap.size, 1, none⟩) (v := .int .i64 (c)) (by simp [go_sem]))
    have p_0 := hid (hE.cell (p := ⟨w.heap.size + 1, 0, none⟩) (v := .int .i64 (d)) (by simp [go_sem]))
    have p_1 := hid (hE.cell (p := ⟨w.heap.size + 1, 1, none⟩) (v := .int .i64 (b)) (by simp [go_sem]))
    have p_2 := hid (hE.cell (p := ⟨w.heap.size + 1, 2, none⟩) (v := .int .i64 (le)) (by simp [go_sem]))
    have p_3 := hid (hE.cell (p := ⟨w.heap.size + 1, 3, none⟩) (v := .int .i64 (co)) (by simp [go_sem]))
    replace hM := hid (hM.out.ext X.out)
    obtain ⟨T, hT⟩ : ∃ T, w.heap.size = T := ⟨_, rfl⟩
    rw [hT] at t_0 t_1 p_0 p_1 p_2 p_3 ⊢
    clear hE hf hT
    go_wp2_with fail
    refine name_c (fun v1 hv => ?_)
    have x1 : Ext w1 v1 := by rw [hv]; exact exE
    replace X := hid (X.out.trans x1); replace hM := hid (hM.out.ext x1); replace t_0 := hid (x1.cell t_0.out); replace t_1 := hid (x1.cell t_1.out)
    replace p_0 := hid (x1.cell p_0.out); replace p_1 := hid (x1.cell p_1.out); replace p_2 := hid (x1.cell p_2.out); replace p_3 := hid (x1.cell p_3.out)
    clear hv x1
    refine (hmxx.out _ X.out).mono ?_; rintro e u2 ⟨a1, k1, rfl, hI, hE⟩
    replace X := hid (X.out.trans hE); replace hM := hid (hM.out.ext hE); replace t_0 := hid (hE.cell t_0.out); replace t_1 := hid (hE.cell t_1.out)
    replace p_0 := hid (hE.cell p_0.out); replace p_1 := hid (hE.cell p_1.out); replace p_2 := hid (hE.cell p_2.out); replace p_3 := hid (hE.cell p_3.out)
    clear hE
    replace hI := hid hI
    rw [xl.out]
    go_wp2_with fail
    refine name_c (fun v3 hv => ?_)
    have x1 : Ext u2 v3 := by rw [hv]; exact exE
    replace X := hid (X.out.trans x1); replace hM := hid (hM.out.ext x1); replace t_0 := hid (x1.cell t_0.out); replace t_1 := hid (x1.cell t_1.out)
    replace p_0 := hid (x1.cell p_0.out); replace p_1 := hid (x1.cell p_1.out); replace p_2 := hid (x1.cell p_2.out); replace p_3 := hid (x1.cell p_3.out)
    replace hI := hid (hI.out.ext x1)
    clear hv x1
    refine (hC1.out _ _ _ hM.out hI.out).mono ?_; rintro e u4 ⟨rfl, hE⟩
    replace X := hid (X.out.trans hE); replace hM := hid (hM.out.ext hE); replace t_0 := hid (hE.cell t_0.out); replace t_1 := hid (hE.cell t_1.out)
    replace p_0 := hid (hE.cell p_0.out); replace p_1 := hid (hE.cell p_1.out); replace p_2 := hid (hE.cell p_2.out); replace p_3 := hid (hE.cell p_3.out)
    replace hI := hid (hI.out.ext hE)
    clear hE
    have o0 := t_0.out
    have lo0 := cell_lt o0; dsimp only at lo0
    have o1 := t_1.out
    go_wp2_with fail
    refine name_c (fun v5 hv => ?_)
    have x1 : Ext u4 v5 := by rw [hv]; exact exE
    have b12_0 := hid (show v5.cell? ⟨u4.heap.size, 0, none⟩ = some (.int .i64 (N1)) by rw [hv]; simp [go_sem])
    have b12_1 := hid (show v5.cell? ⟨u4.heap.size, 1, none⟩ = some (.int .i64 (D1)) by rw [hv]; simp [go_sem])
    replace X := hid (X.out.trans x1); replace hM := hid (hM.out.ext x1); replace t_0 := hid (x1.cell t_0.out); replace t_1 := hid (x1.cell t_1.out)
    replace p_0 := hid (x1.cell p_0.out); replace p_1 := hid (x1.cell p_1.out); replace p_2 := hid (x1.cell p_2.out); replace p_3 := hid (x1.cell p_3.out)
    replace hI := hid (hI.out.ext x1)
    clear o0 lo0 o1
    clear hv x1
    obtain ⟨Bb12, hBn⟩ : ∃ z, u4.heap.size = z := ⟨_, rfl⟩
    rw [hBn] at b12_0 b12_1 ⊢
    clear hBn
    refine (hD1.out _ _ _ hM.out hI.out).mono ?_; rintro e u6 ⟨rfl, hE⟩
    replace X := hid (X.out.trans hE); replace hM := hid (hM.out.ext hE); replace t_0 := hid (hE.cell t_0.out); replace t_1 := hid (hE.cell t_1.out)
    replace p_0 := hid (hE.cell p_0.out); replace p_1 := hid (hE.cell p_1.out); replace p_2 := hid (hE.cell p_2.out); replace p_3 := hid (hE.cell p_3.out)
    replace hI := hid (hI.out.ext hE); replace b12_0 := hid (hE.cell b12_0.out); replace b12_1 := hid (hE.cell b12_1.out)
    clear hE
    have o0 := t_0.out
    have lo0 := cell_lt o0; dsimp only at lo0
    have o1 := t_1.out
    go_wp2_with fail
    refine name_c (fun v7 hv => ?_)
    have x1 : Ext u6 v7 := by rw [hv]; exact exE
    replace X := hid (X.out.trans x1); replace hM := hid (hM.out.ext x1); replace t_0 := hid (x1.cell t_0.out); replace t_1 := hid (x1.cell t_1.out)
    replace p_0 := hid (x1.cell p_0.out); replace p_1 := hid (x1.cell p_1.out); replace p_2 := hid (x1.cell p_2.out); replace p_3 := hid (x1.cell p_3.out)
    replace hI := hid (hI.out.ext x1); replace b12_0 := hid (x1.cell b12_0.out); replace b12_1 := hid (x1.cell b12_1.out)
    clear o0 lo0 o1
    clear hv x1
    refine (hL.out _ hM.out).mono ?_; rintro e u8 ⟨rfl, hE⟩
    replace X := hid (X.out.trans hE); replace hM := hid (hM.out.ext hE); replace t_0 := hid (hE.cell t_0.out); replace t_1 := hid (hE.cell t_1.out)
    replace p_0 := hid (hE.cell p_0.out); replace p_1 := hid (hE.cell p_1.out); replace p_2 := hid (hE.cell p_2.out); replace p_3 := hid (hE.cell p_3.out)
    replace hI := hid (hI.out.ext hE); replace b12_0 := hid (hE.cell b12_0.out); replace b12_1 := hid (hE.cell b12_1.out)
    clear hE
    have o0 := b12_0.out
    have lo0 := cell_lt o0; dsimp only at lo0
    have o1 := b12_1.out
    go_wp2_with fail
    refine name_c (fun v9 hv => ?_)
    have x1 : Ext u8 v9 := by rw [hv]; exact exE
    have b15_0 := hid (show v9.cell? ⟨u8.heap.size, 0, none⟩ = some (.int .i64 (LN)) by rw [hv]; simp [go_sem])
    have b15_1 := hid (show v9.cell? ⟨u8.heap.size, 1, none⟩ = some (.int .i64 (LD)) by rw [hv]; simp [go_sem])
    replace X := hid (X.out.trans x1); replace hM := hid (hM.out.ext x1); replace t_0 := hid (x1.cell t_0.out); replace t_1 := hid (x1.cell t_1.out)
    replace p_0 := hid (x1.cell p_0.out); replace p_1 := hid (x1.cell p_1.out); replace p_2 := hid (x1.cell p_2.out); replace p_3 := hid (x1.cell p_3.out)
    replace hI := hid (hI.out.ext x1); replace b12_0 := hid (x1.cell b12_0.out); replace b12_1 := hid (x1.cell b12_1.out)
    clear o0 lo0 o1
    clear hv x1
    obtain ⟨Bb15, hBn⟩ : ∃ z, u8.heap.size = z := ⟨_, rfl⟩
    rw [hBn] at b15_0 b15_1 ⊢
    clear hBn
    refine (s1.out _).mono ?_; rintro e u10 ⟨rfl, hE⟩
    replace X := hid (X.out.trans hE); replace hM := hid (hM.out.ext hE); replace t_0 := hid (hE.cell t_0.out); replace t_1 := hid (hE.cell t_1.out)
    replace p_0 := hid (hE.cell p_0.out); replace p_1 := hid (hE.cell p_1.out); replace p_2 := hid (hE.cell p_2.out); replace p_3 := hid (hE.cell p_3.out)
    replace hI := hid (hI.out.ext hE); replace b12_0 := hid (hE.cell b12_0.out); replace b12_1 := hid (hE.cell b12_1.out); replace b15_0 := hid (hE.cell b15_0.out)
    replace b15_1 := hid (hE.cell b15_1.out)
    clear hE
    have o0 := t_0.out
    have lo0 := cell_lt o0; dsimp only at lo0
    have o1 := t_1.out
    go_wp2_with fail
    refine name_c (fun v11 hv => ?_)
    have x1 : Ext u10 v11 := by rw [hv]; exact exE
    replace X := hid (X.out.trans x1); replace hM := hid (hM.out.ext x1); replace t_0 := hid (x1.cell t_0.out); replace t_1 := hid (x1.cell t_1.out)
    replace p_0 := hid (x1.cell p_0.out); replace p_1 := hid (x1.cell p_1.out); replace p_2 := hid (x1.cell p_2.out); replace p_3 := hid (x1.cell p_3.out)
    replace hI := hid (hI.out.ext x1); replace b12_0 := hid (x1.cell b12_0.out); replace b12_1 := hid (x1.cell b12_1.out); replace b15_0 := hid (x1.cell b15_0.out)
    replace b15_1 := hid (x1.cell b15_1.out)
    clear o0 lo0 o1
    clear hv x1
    refine (hCh.out _ hM.out).mono ?_; rintro e u12 ⟨a2, k2, rfl, hJ, hE⟩
    replace X := hid (X.out.trans hE); replace hM := hid (hM.out.ext hE); replace t_0 := hid (hE.cell t_0.out); replace t_1 := hid (hE.cell t_1.out)
    replace p_0 := hid (hE.cell p_0.out); replace p_1 := hid (hE.cell p_1.out); replace p_2 := hid (hE.cell p_2.out); replace p_3 := hid (hE.cell p_3.out)
    replace hI := hid (hI.out.ext hE); replace b12_0 := hid (hE.cell b12_0.out); replace b12_1 := hid (hE.cell b12_1.out); replace b15_0 := hid (hE.cell b15_0.out)
    replace b15_1 := hid (hE.cell b15_1.out)
    clear hE
    rw [hcl.out (by trivial)]
    replace hJ := hid hJ
    have o0 := t_0.out
    have lo0 := cell_lt o0; dsimp only at lo0
    have o1 := t_1.out
    go_wp2_with fail
    refine name_c (fun v13 hv => ?_)
    have x1 : Ext u12 v13 := by rw [hv]; exact exE
    replace X := hid (X.out.trans x1); replace hM := hid (hM.out.ext x1); replace t_0 := hid (x1.cell t_0.out); replace t_1 := hid (x1.cell t_1.out)
    replace p_0 := hid (x1.cell p_0.out); replace p_1 := hid (x1.cell p_1.out); replace p_2 := hid (x1.cell p_2.out); replace p_3 := hid (x1.cell p_3.out)
    replace hI := hid (hI.out.ext x1); replace b12_0 := hid (x1.cell b12_0.out); replace b12_1 := hid (x1.cell b12_1.out); replace b15_0 := hid (x1.cell b15_0.out)
    replace b15_1 := hid (x1.cell b15_1.out); replace hJ := hid (hJ.out.ext x1)
    clear o0 lo0 o1
    clear hv x1
    refine (hPr.out _ hM.out).mono ?_; rintro e u14 ⟨rfl, hE⟩
    replace X := hid (X.out.trans hE); replace hM := hid (hM.out.ext hE); replace t_0 := hid (hE.cell t_0.out); replace t_1 := hid (hE.cell t_1.out)
    replace p_0 := hid (hE.cell p_0.out); replace p_1 := hid (hE.cell p_1.out); replace p_2 := hid (hE.cell p_2.out); replace p_3 := hid (hE.cell p_3.out)
    replace hI := hid (hI.out.ext hE); replace b12_0 := hid (hE.cell b12_0.out); replace b12_1 := hid (hE.cell b12_1.out); replace b15_0 := hid (hE.cell b15_0.out)
    replace b15_1 := hid (hE.cell b15_1.out); replace hJ := hid (hJ.out.ext hE)
    clear hE
    have o0 := t_0.out
    have lo0 := cell_lt o0; dsimp only at lo0
    have o1 := t_1.out
    go_wp2_with fail
    refine name_c (fun v15 hv => ?_)
    have x1 : Ext u14 v15 := by rw [hv]; exact exE
    have b20_0 := hid (show v15.cell? ⟨u14.heap.size, 0, none⟩ = some (.int .i64 (q0)) by rw [hv]; simp [go_sem])
    have b20_1 := hid (show v15.cell? ⟨u14.heap.size, 1, none⟩ = some (.int .i64 (q1)) by rw [hv]; simp [go_sem])
    have b20_2 := hid (show v15.cell? ⟨u14.heap.size, 2, none⟩ = some (.int .i64 (q2)) by rw [hv]; simp [go_sem])
    have b20_3 := hid (show v15.cell? ⟨u14.heap.size, 3, none⟩ = some (.int .i64 (q3)) by rw [hv]; simp [go_sem])
    replace X := hid (X.out.trans x1); replace hM := hid (hM.out.ext x1); replace t_0 := hid (x1.cell t_0.out); replace t_1 := hid (x1.cell t_1.out)
    replace p_0 := hid (x1.cell p_0.out); replace p_1 := hid (x1.cell p_1.out); replace p_2 := hid (x1.cell p_2.out); replace p_3 := hid (x1.cell p_3.out)
    replace hI := hid (hI.out.ext x1); replace b12_0 := hid (x1.cell b12_0.out); replace b12_1 := hid (x1.cell b12_1.out); replace b15_0 := hid (x1.cell b15_0.out)
    replace b15_1 := hid (x1.cell b15_1.out); replace hJ := hid (hJ.out.ext x1)
    clear o0 lo0 o1
    clear hv x1
    obtain ⟨Bb20, hBn⟩ : ∃ z, u14.heap.size = z := ⟨_, rfl⟩
    rw [hBn] at b20_0 b20_1 b20_2 b20_3 ⊢
    clear hBn
    refine (hD2.out (by trivial) _ _ _ hM.out hJ.out).mono ?_; rintro e u16 ⟨rfl, hE⟩
    replace X := hid (X.out.trans hE); replace hM := hid (hM.out.ext hE); replace t_0 := hid (hE.cell t_0.out); replace t_1 := hid (hE.cell t_1.out)
    replace p_0 := hid (hE.cell p_0.out); replace p_1 := hid (hE.cell p_1.out); replace p_2 := hid (hE.cell p_2.out); replace p_3 := hid (hE.cell p_3.out)
    replace hI := hid (hI.out.ext hE); replace b12_0 := hid (hE.cell b12_0.out); replace b12_1 := hid (hE.cell b12_1.out); replace b15_0 := hid (hE.cell b15_0.out)
    replace b15_1 := hid (hE.cell b15_1.out); replace hJ := hid (hJ.out.ext hE); replace b20_0 := hid (hE.cell b20_0.out); replace b20_1 := hid (hE.cell b20_1.out)
    replace b20_2 := hid (hE.cell b20_2.out); replace b20_3 := hid (hE.cell b20_3.out)
    clear hE
    go_wp2_with fail
    refine name_c (fun v17 hv => ?_)
    have x1 : Ext u16 v17 := by rw [hv]; exact exE
    replace X := hid (X.out.trans x1); replace hM := hid (hM.out.ext x1); replace t_0 := hid (x1.cell t_0.out); replace t_1 := hid (x1.cell t_1.out)
    replace p_0 := hid (x1.cell p_0.out); replace p_1 := hid (x1.cell p_1.out); replace p_2 := hid (x1.cell p_2.out); replace p_3 := hid (x1.cell p_3.out)
    replace hI := hid (hI.out.ext x1); replace b12_0 := hid (x1.cell b12_0.out); replace b12_1 := hid (x1.cell b12_1.out); replace b15_0 := hid (x1.cell b15_0.out)
    replace b15_1 := hid (x1.cell b15_1.out); replace hJ := hid (hJ.out.ext x1); replace b20_0 := hid (x1.cell b20_0.out); replace b20_1 := hid (x1.cell b20_1.out)
    replace b20_2 := hid (x1.cell b20_2.out); replace b20_3 := hid (x1.cell b20_3.out)
    clear hv x1
    refine (hC2.out (by trivial) _ _ _ hM.out hJ.out).mono ?_; rintro e u18 ⟨rfl, hE⟩
    replace X := hid (X.out.trans hE); replace hM := hid (hM.out.ext hE); replace t_0 := hid (hE.cell t_0.out); replace t_1 := hid (hE.cell t_1.out)
    replace p_0 := hid (hE.cell p_0.out); replace p_1 := hid (hE.cell p_1.out); replace p_2 := hid (hE.cell p_2.out); replace p_3 := hid (hE.cell p_3.out)
    replace hI := hid (hI.out.ext hE); replace b12_0 := hid (hE.cell b12_0.out); replace b12_1 := hid (hE.cell b12_1.out); replace b15_0 := hid (hE.cell b15_0.out)
    replace b15_1 := hid (hE.cell b15_1.out); replace hJ := hid (hJ.out.ext hE); replace b20_0 := hid (hE.cell b20_0.out); replace b20_1 := hid (hE.cell b20_1.out)
    replace b20_2 := hid (hE.cell b20_2.out); replace b20_3 := hid (hE.cell b20_3.out)
    clear hE
    have o0 := t_0.out
    have lo0 := cell_lt o0; dsimp only at lo0
    have o1 := t_1.out
    have o2 := b20_0.out
    have lo2 := cell_lt o2; dsimp only at lo2
    have o3 := b20_1.out
    have o4 := b20_2.out
    have o5 := b20_3.out
    go_wp2_with fail
    refine name_c (fun v19 hv => ?_)
    have x1 : Ext u18 v19 := by rw [hv]; exact exE
    have b22_0 := hid (show v19.cell? ⟨u18.heap.size, 0, none⟩ = some (.int .i64 (LN)) by rw [hv]; simp [go_sem])
    have b22_1 := hid (show v19.cell? ⟨u18.heap.size, 1, none⟩ = some (.int .i64 (LD)) by rw [hv]; simp [go_sem])
    replace X := hid (X.out.trans x1); replace hM := hid (hM.out.ext x1); replace t_0 := hid (x1.cell t_0.out); replace t_1 := hid (x1.cell t_1.out)
    replace p_0 := hid (x1.cell p_0.out); replace p_1 := hid (x1.cell p_1.out); replace p_2 := hid (x1.cell p_2.out); replace p_3 := hid (x1.cell p_3.out)
    replace hI := hid (hI.out.ext x1); replace b12_0 := hid (x1.cell b12_0.out); replace b12_1 := hid (x1.cell b12_1.out); replace b15_0 := hid (x1.cell b15_0.out)
    replace b15_1 := hid (x1.cell b15_1.out); replace hJ := hid (hJ.out.ext x1); replace b20_0 := hid (x1.cell b20_0.out); replace b20_1 := hid (x1.cell b20_1.out)
    replace b20_2 := hid (x1.cell b20_2.out); replace b20_3 := hid (x1.cell b20_3.out)
    clear o0 lo0 o1 o2 lo2 o3 o4 o5
    clear hv x1
    obtain ⟨Bb22, hBn⟩ : ∃ z, u18.heap.size = z := ⟨_, rfl⟩
    rw [hBn] at b22_0 b22_1 ⊢
    clear hBn
    refine (hK.out (by trivial) _ hM.out).mono ?_; rintro e u20 ⟨rfl, hE⟩
    replace X := hid (X.out.trans hE); replace hM := hid (hM.out.ext hE); replace t_0 := hid (hE.cell t_0.out); replace t_1 := hid (hE.cell t_1.out)
    replace p_0 := hid (hE.cell p_0.out); replace p_1 := hid (hE.cell p_1.out); replace p_2 := hid (hE.cell p_2.out); replace p_3 := hid (hE.cell p_3.out)
    replace hI := hid (hI.out.ext hE); replace b12_0 := hid (hE.cell b12_0.out); replace b12_1 := hid (hE.cell b12_1.out); replace b15_0 := hid (hE.cell b15_0.out)
    replace b15_1 := hid (hE.cell b15_1.out); replace hJ := hid (hJ.out.ext hE); replace b20_0 := hid (hE.cell b20_0.out); replace b20_1 := hid (hE.cell b20_1.out)
    replace b20_2 := hid (hE.cell b20_2.out); replace b20_3 := hid (hE.cell b20_3.out); replace b22_0 := hid (hE.cell b22_0.out); replace b22_1 := hid (hE.cell b22_1.out)
    clear hE
    have o0 := t_0.out
    have lo0 := cell_lt o0; dsimp only at lo0
    have o1 := t_1.out
    have o2 := b20_0.out
    have lo2 := cell_lt o2; dsimp only at lo2
    have o3 := b20_1.out
    have o4 := b20_2.out
    have o5 := b20_3.out
    go_wp2_with fail
    refine name_c (fun v21 hv => ?_)
    have x1 : Ext u20 v21 := by rw [hv]; exact exE
    have b23_0 := hid (show v21.cell? ⟨u20.heap.size, 0, none⟩ = some (.int .i64 (LN)) by rw [hv]; simp [go_sem])
    have b23_1 := hid (show v21.cell? ⟨u20.heap.size, 1, none⟩ = some (.int .i64 (LD)) by rw [hv]; simp [go_sem])
    replace X := hid (X.out.trans x1); replace hM := hid (hM.out.ext x1); replace t_0 := hid (x1.cell t_0.out); replace t_1 := hid (x1.cell t_1.out)
    replace p_0 := hid (x1.cell p_0.out); replace p_1 := hid (x1.cell p_1.out); replace p_2 := hid (x1.cell p_2.out); replace p_3 := hid (x1.cell p_3.out)
    replace hI := hid (hI.out.ext x1); replace b12_0 := hid (x1.cell b12_0.out); replace b12_1 := hid (x1.cell b12_1.out); replace b15_0 := hid (x1.cell b15_0.out)
    replace b15_1 := hid (x1.cell b15_1.out); replace hJ := hid (hJ.out.ext x1); replace b20_0 := hid (x1.cell b20_0.out); replace b20_1 := hid (x1.cell b20_1.out)
    replace b20_2 := hid (x1.cell b20_2.out); replace b20_3 := hid (x1.cell b20_3.out); replace b22_0 := hid (x1.cell b22_0.out); replace b22_1 := hid (x1.cell b22_1.out)
    clear o0 lo0 o1 o2 lo2 o3 o4 o5
    clear hv x1
    obtain ⟨Bb23, hBn⟩ : ∃ z, u20.heap.size = z := ⟨_, rfl⟩
    rw [hBn] at b23_0 b23_1 ⊢
    clear hBn
    refine (hKR.out (by trivial) _ hM.out).mono ?_; rintro e u22 ⟨rfl, hE⟩
    replace X := hid (X.out.trans hE); replace hM := hid (hM.out.ext hE); replace t_0 := hid (hE.cell t_0.out); replace t_1 := hid (hE.cell t_1.out)
    replace p_0 := hid (hE.cell p_0.out); replace p_1 := hid (hE.cell p_1.out); replace p_2 := hid (hE.cell p_2.out); replace p_3 := hid (hE.cell p_3.out)
    replace hI := hid (hI.out.ext hE); replace b12_0 := hid (hE.cell b12_0.out); replace b12_1 := hid (hE.cell b12_1.out); replace b15_0 := hid (hE.cell b15_0.out)
    replace b15_1 := hid (hE.cell b15_1.out); replace hJ := hid (hJ.out.ext hE); replace b20_0 := hid (hE.cell b20_0.out); replace b20_1 := hid (hE.cell b20_1.out)
    replace b20_2 := hid (hE.cell b20_2.out); replace b20_3 := hid (hE.cell b20_3.out); replace b22_0 := hid (hE.cell b22_0.out); replace b22_1 := hid (hE.cell b22_1.out)
    replace b23_0 := hid (hE.cell b23_0.out); replace b23_1 := hid (hE.cell b23_1.out)
    clear hE
    have o0 := t_0.out
    have lo0 := cell_lt o0; dsimp only at lo0
    have o1 := t_1.out
    have o2 := p_0.out
    have lo2 := cell_lt o2; dsimp only at lo2
    have o3 := p_1.out
    have o4 := p_2.out
    have o5 := p_3.out
    have o6 := b22_0.out
    have lo6 := cell_lt o6; dsimp only at lo6
    have o7 := b22_1.out
    have o8 := b15_0.out
    have lo8 := cell_lt o8; dsimp only at lo8
    have o9 := b15_1.out
    have o10 := b23_0.out
    have lo10 := cell_lt o10; dsimp only at lo10
    have o11 := b23_1.out
    go_wp2_with fail
    refine name_c (fun v23 hv => ?_)
    have x1 : Ext u22 v23 := by rw [hv]; exact exE
    have b24_0 := hid (show v23.cell? ⟨u22.heap.size, 0, none⟩ = some (.int .i64 (LN)) by rw [hv]; simp [go_sem])
    have b24_1 := hid (show v23.cell? ⟨u22.heap.size, 1, none⟩ = some (.int .i64 (LD)) by rw [hv]; simp [go_sem])
    replace X := hid (X.out.trans x1); replace hM := hid (hM.out.ext x1); replace t_0 := hid (x1.cell t_0.out); replace t_1 := hid (x1.cell t_1.out)
    replace p_0 := hid (x1.cell p_0.out); replace p_1 := hid (x1.cell p_1.out); replace p_2 := hid (x1.cell p_2.out); replace p_3 := hid (x1.cell p_3.out)
    replace hI := hid (hI.out.ext x1); replace b12_0 := hid (x1.cell b12_0.out); replace b12_1 := hid (x1.cell b12_1.out); replace b15_0 := hid (x1.cell b15_0.out)
    replace b15_1 := hid (x1.cell b15_1.out); replace hJ := hid (hJ.out.ext x1); replace b20_0 := hid (x1.cell b20_0.out); replace b20_1 := hid (x1.cell b20_1.out)
    replace b20_2 := hid (x1.cell b20_2.out); replace b20_3 := hid (x1.cell b20_3.out); replace b22_0 := hid (x1.cell b22_0.out); replace b22_1 := hid (x1.cell b22_1.out)
    replace b23_0 := hid (x1.cell b23_0.out); replace b23_1 := hid (x1.cell b23_1.out)
    clear o0 lo0 o1 o2 lo2 o3 o4 o5 o6 lo6 o7 o8 lo8 o9 o10 lo10 o11
    clear hv x1
    obtain ⟨Bb24, hBn⟩ : ∃ z, u22.heap.size = z := ⟨_, rfl⟩
    rw [hBn] at b24_0 b24_1 ⊢
    clear hBn
    refine (hKp.out _ hM.out).mono ?_; rintro e u24 ⟨rfl, hE⟩
    replace X := hid (X.out.trans hE); replace hM := hid (hM.out.ext hE); replace t_0 := hid (hE.cell t_0.out); replace t_1 := hid (hE.cell t_1.out)
    replace p_0 := hid (hE.cell p_0.out); replace p_1 := hid (hE.cell p_1.out); replace p_2 := hid (hE.cell p_2.out); replace p_3 := hid (hE.cell p_3.out)
    replace hI := hid (hI.out.ext hE); replace b12_0 := hid (hE.cell b12_0.out); replace b12_1 := hid (hE.cell b12_1.out); replace b15_0 := hid (hE.cell b15_0.out)
    replace b15_1 := hid (hE.cell b15_1.out); replace hJ := hid (hJ.out.ext hE); replace b20_0 := hid (hE.cell b20_0.out); replace b20_1 := hid (hE.cell b20_1.out)
    replace b20_2 := hid (hE.cell b20_2.out); replace b20_3 := hid (hE.cell b20_3.out); replace b22_0 := hid (hE.cell b22_0.out); replace b22_1 := hid (hE.cell b22_1.out)
    replace b23_0 := hid (hE.cell b23_0.out); replace b23_1 := hid (hE.cell b23_1.out); replace b24_0 := hid (hE.cell b24_0.out); replace b24_1 := hid (hE.cell b24_1.out)
    clear hE
    have o0 := t_0.out
    have lo0 := cell_lt o0; dsimp only at lo0
    have o1 := t_1.out
    have o2 := p_0.out
    have lo2 := cell_lt o2; dsimp only at lo2
    have o3 := p_1.out
    have o4 := p_2.out
    have o5 := p_3.out
    go_wp2_with fail
    refine name_c (fun v25 hv => ?_)
    have x1 : Ext u24 v25 := by rw [hv]; exact exE
    have b26_0 := hid (show v25.cell? ⟨u24.heap.size, 0, none⟩ = some (.int .i64 (Pn)) by rw [hv]; simp [go_sem])
    have b26_1 := hid (show v25.cell? ⟨u24.heap.size, 1, none⟩ = some (.int .i64 (Pd)) by rw [hv]; simp [go_sem])
    replace X := hid (X.out.trans x1); replace hM := hid (hM.out.ext x1); replace t_0 := hid (x1.cell t_0.out); replace t_1 := hid (x1.cell t_1.out)
    replace p_0 := hid (x1.cell p_0.out); replace p_1 := hid (x1.cell p_1.out); replace p_2 := hid (x1.cell p_2.out); replace p_3 := hid (x1.cell p_3.out)
    replace hI := hid (hI.out.ext x1); replace b12_0 := hid (x1.cell b12_0.out); replace b12_1 := hid (x1.cell b12_1.out); replace b15_0 := hid (x1.cell b15_0.out)
    replace b15_1 := hid (x1.cell b15_1.out); replace hJ := hid (hJ.out.ext x1); replace b20_0 := hid (x1.cell b20_0.out); replace b20_1 := hid (x1.cell b20_1.out)
    replace b20_2 := hid (x1.cell b20_2.out); replace b20_3 := hid (x1.cell b20_3.out); replace b22_0 := hid (x1.cell b22_0.out); replace b22_1 := hid (x1.cell b22_1.out)
    replace b23_0 := hid (x1.cell b23_0.out); replace b23_1 := hid (x1.cell b23_1.out); replace b24_0 := hid (x1.cell b24_0.out); replace b24_1 := hid (x1.cell b24_1.out)
    clear o0 lo0 o1 o2 lo2 o3 o4 o5
    clear hv x1
    obtain ⟨Bb26, hBn⟩ : ∃ z, u24.heap.size = z := ⟨_, rfl⟩
    rw [hBn] at b26_0 b26_1 ⊢
    clear hBn
    refine (hKq.out _ hM.out).mono ?_; rintro e u26 ⟨rfl, hE⟩
    replace X := hid (X.out.trans hE); replace hM := hid (hM.out.ext hE); replace t_0 := hid (hE.cell t_0.out); replace t_1 := hid (hE.cell t_1.out)
    replace p_0 := hid (hE.cell p_0.out); replace p_1 := hid (hE.cell p_1.out); replace p_2 := hid (hE.cell p_2.out); replace p_3 := hid (hE.cell p_3.out)
    replace hI := hid (hI.out.ext hE); replace b12_0 := hid (hE.cell b12_0.out); replace b12_1 := hid (hE.cell b12_1.out); replace b15_0 := hid (hE.cell b15_0.out)
    replace b15_1 := hid (hE.cell b15_1.out); replace hJ := hid (hJ.out.ext hE); replace b20_0 := hid (hE.cell b20_0.out); replace b20_1 := hid (hE.cell b20_1.out)
    replace b20_2 := hid (hE.cell b20_2.out); replace b20_3 := hid (hE.cell b20_3.out); replace b22_0 := hid (hE.cell b22_0.out); replace b22_1 := hid (hE.cell b22_1.out)
    replace b23_0 := hid (hE.cell b23_0.out); replace b23_1 := hid (hE.cell b23_1.out); replace b24_0 := hid (hE.cell b24_0.out); replace b24_1 := hid (hE.cell b24_1.out)
    replace b26_0 := hid (hE.cell b26_0.out); replace b26_1 := hid (hE.cell b26_1.out)
    clear hE
    go_upto_region 25 with (fail)
    refine name_wp (fun v27 hv => ?_)
    have x1 : Ext u26 v27 := by rw [hv]; exact exE
    have b28_0 := hid (show v27.cell? ⟨u26.heap.size, 0, none⟩ = some (.int .i64 (Pn)) by rw [hv]; simp [go_sem])
    have b28_1 := hid (show v27.cell? ⟨u26.heap.size, 1, none⟩ = some (.int .i64 (Pd)) by rw [hv]; simp [go_sem])
    replace X := hid (X.out.trans x1); replace hM := hid (hM.out.ext x1); replace t_0 := hid (x1.cell t_0.out); replace t_1 := hid (x1.cell t_1.out)
    replace p_0 := hid (x1.cell p_0.out); replace p_1 := hid (x1.cell p_1.out); replace p_2 := hid (x1.cell p_2.out); replace p_3 := hid (x1.cell p_3.out)
    replace hI := hid (hI.out.ext x1); replace b12_0 := hid (x1.cell b12_0.out); replace b12_1 := hid (x1.cell b12_1.out); replace b15_0 := hid (x1.cell b15_0.out)
    replace b15_1 := hid (x1.cell b15_1.out); replace hJ := hid (hJ.out.ext x1); replace b20_0 := hid (x1.cell b20_0.out); replace b20_1 := hid (x1.cell b20_1.out)
    replace b20_2 := hid (x1.cell b20_2.out); replace b20_3 := hid (x1.cell b20_3.out); replace b22_0 := hid (x1.cell b22_0.out); replace b22_1 := hid (x1.cell b22_1.out)
    replace b23_0 := hid (x1.cell b23_0.out); replace b23_1 := hid (x1.cell b23_1.out); replace b24_0 := hid (x1.cell b24_0.out); replace b24_1 := hid (x1.cell b24_1.out)
    replace b26_0 := hid (x1.cell b26_0.out); replace b26_1 := hid (x1.cell b26_1.out)
    clear hv x1
    obtain ⟨Bb28, hBn⟩ : ∃ z, u26.heap.size = z := ⟨_, rfl⟩
    rw [hBn] at b28_0 b28_1 ⊢
    clear hBn
    obtain ⟨Qq, hQq⟩ : ∃ z, Pn.tdiv Pd = z := ⟨_, rfl⟩
    have hq9 := quo_all hbb.out.1.1 hbb.out.2.1 hbb.out.2.2.2
    rw [hQq] at hq9
    refine wp_mono (stV25 b26_0.out b26_1.out (by have := hbb.out.1.1; omega) (by have := hbb.out.1.2; omega) (by have := hbb.out.1.1; omega) hQq hq9.1 hq9.2.1 hq9.2.2) ?_
    rintro e a' v98 ⟨rfl, jW', jX', jY', jZ', nA', nB', nC', nD', nE', nF', nG', nH', nI', nJ', nK', rfl, x⟩
    replace X := hid (X.out.trans x); replace b26_0 := hid (x.cell b26_0.out); replace b26_1 := hid (x.cell b26_1.out); replace b15_0 := hid (x.cell b15_0.out); replace b15_1 := hid (x.cell b15_1.out)
    clear x hq9 hQq
    go_upto_region 27 with (fail)
    rcases Int.lt_or_le Pn 0 with hneg | hneg
    ·refine wp_mono (stVn27 b26_0.out b26_1.out hneg) ?_
     rintro e a' v99 ⟨rfl, nM', nN', nO', nP', nQ', nR', nS', nT', nU', nV', nW', nX', nY', nZ', gA', gB', gC', gD', gE', rfl, x⟩
     replace X := hid (X.out.trans x)
     go_wp2_with fail
     go_ret
     exact ⟨rfl, X.out⟩
    ·refine wp_mono (stVp27 b26_0.out b26_1.out b15_0.out b15_1.out (by omega) rfl rfl (hw2.out hneg) hw3.out hbb.out.2.2.1) ?_
     rintro e a' v99 ⟨rfl, nM', nN', nO', nP', nQ', nR', nS', nT', nU', nV', nW', nX', nY', nZ', gA', gB', gC', gD', gE', rfl, x⟩
     replace X := hid (X.out.trans x)
     go_wp2_with fail
     go_ret
     exact ⟨rfl, X.out⟩
   ·have gP2 : (Pe != 0) = true := by simpa using gP
    replace gP := hid gP
    clear k2 hb hlo
    go_enter Try.func7, Try.ntmps7
    go_wp2_with fail
    refine (hf.out _ exE).mono ?_; rintro e w1 ⟨rfl, hE⟩
    have X := hid (show Ext w w1 from exE)
    have t_0 := hid (hE.cell (p := ⟨w.heap.size, 0, none⟩) (v := .int .i64 (u)) (by simp [go_sem]))
    have t_1 := hid (hE.cell (p := ⟨w.heap.size, 1, none⟩) (v := .int .i64 (c)) (by simp [go_sem]))
    have p_0 := hid (hE.cell (p := ⟨w.heap.size + 1, 0, none⟩) (v := .int .i64 (d)) (by simp [go_sem]))
    have p_1 := hid (hE.cell (p := ⟨w.heap.size + 1, 1, none⟩) (v := .int .i64 (b)) (by simp [go_sem]))
    have p_2 := hid (hE.cell (p := ⟨w.heap.size + 1, 2, none⟩) (v := .int .i64 (le)) (by simp [go_sem]))
    have p_3 := hid (hE.cell (p := ⟨w.heap.size + 1, 3, none⟩) (v := .int .i64 (co)) (by simp [go_sem]))
    replace hM := hid (hM.out.ext X.out)
    obtain ⟨T, hT⟩ : ∃ T, w.heap.size = T := ⟨_, rfl⟩
    rw [hT] at t_0 t_1 p_0 p_1 p_2 p_3 ⊢
    clear hE hf hT
    go_wp2_with fail
    refine name_c (fun v1 hv => ?_)
    have x1 : Ext w1 v1 := by rw [hv]; exact exE
    replace X := hid (X.out.trans x1); replace hM := hid (hM.out.ext x1); replace t_0 := hid (x1.cell t_0.out); replace t_1 := hid (x1.cell t_1.out)
    replace p_0 := hid (x1.cell p_0.out); replace p_1 := hid (x1.cell p_1.out); replace p_2 := hid (x1.cell p_2.out); replace p_3 := hid (x1.cell p_3.out)
    clear hv x1
    refine (hmxx.out _ X.out).mono ?_; rintro e u2 ⟨a1, k1, rfl, hI, hE⟩
    replace X := hid (X.out.trans hE); replace hM := hid (hM.out.ext hE); replace t_0 := hid (hE.cell t_0.out); replace t_1 := hid (hE.cell t_1.out)
    replace p_0 := hid (hE.cell p_0.out); replace p_1 := hid (hE.cell p_1.out); replace p_2 := hid (hE.cell p_2.out); replace p_3 := hid (hE.cell p_3.out)
    clear hE
    replace hI := hid hI
    rw [xl.out]
    go_wp2_with fail
    refine name_c (fun v3 hv => ?_)
    have x1 : Ext u2 v3 := by rw [hv]; exact exE
    replace X := hid (X.out.trans x1); replace hM := hid (hM.out.ext x1); replace t_0 := hid (x1.cell t_0.out); replace t_1 := hid (x1.cell t_1.out)
    replace p_0 := hid (x1.cell p_0.out); replace p_1 := hid (x1.cell p_1.out); replace p_2 := hid (x1.cell p_2.out); replace p_3 := hid (x1.cell p_3.out)
    replace hI := hid (hI.out.ext x1)
    clear hv x1
    refine (hC1.out _ _ _ hM.out hI.out).mono ?_; rintro e u4 ⟨rfl, hE⟩
    replace X := hid (X.out.trans hE); replace hM := hid (hM.out.ext hE); replace t_0 := hid (hE.cell t_0.out); replace t_1 := hid (hE.cell t_1.out)
    replace p_0 := hid (hE.cell p_0.out); replace p_1 := hid (hE.cell p_1.out); replace p_2 := hid (hE.cell p_2.out); replace p_3 := hid (hE.cell p_3.out)
    replace hI := hid (hI.out.ext hE)
    clear hE
    have o0 := t_0.out
    have lo0 := cell_lt o0; dsimp only at lo0
    have o1 := t_1.out
    go_wp2_with fail
    refine name_c (fun v5 hv => ?_)
    have x1 : Ext u4 v5 := by rw [hv]; exact exE
    have b12_0 := hid (show v5.cell? ⟨u4.heap.size, 0, none⟩ = some (.int .i64 (N1)) by rw [hv]; simp [go_sem])
    have b12_1 := hid (show v5.cell? ⟨u4.heap.size, 1, none⟩ = some (.int .i64 (D1)) by rw [hv]; simp [go_sem])
    replace X := hid (X.out.trans x1); replace hM := hid (hM.out.ext x1); replace t_0 := hid (x1.cell t_0.out); replace t_1 := hid (x1.cell t_1.out)
    replace p_0 := hid (x1.cell p_0.out); replace p_1 := hid (x1.cell p_1.out); replace p_2 := hid (x1.cell p_2.out); replace p_3 := hid (x1.cell p_3.out)
    replace hI := hid (hI.out.ext x1)
    clear o0 lo0 o1
    clear hv x1
    obtain ⟨Bb12, hBn⟩ : ∃ z, u4.heap.size = z := ⟨_, rfl⟩
    rw [hBn] at b12_0 b12_1 ⊢
    clear hBn
    refine (hD1.out _ _ _ hM.out hI.out).mono ?_; rintro e u6 ⟨rfl, hE⟩
    replace X := hid (X.out.trans hE); replace hM := hid (hM.out.ext hE); replace t_0 := hid (hE.cell t_0.out); replace t_1 := hid (hE.cell t_1.out)
    replace p_0 := hid (hE.cell p_0.out); replace p_1 := hid (hE.cell p_1.out); replace p_2 := hid (hE.cell p_2.out); replace p_3 := hid (hE.cell p_3.out)
    replace hI := hid (hI.out.ext hE); replace b12_0 := hid (hE.cell b12_0.out); replace b12_1 := hid (hE.cell b12_1.out)
    clear hE
    have o0 := t_0.out
    have lo0 := cell_lt o0; dsimp only at lo0
    have o1 := t_1.out
    go_wp2_with fail
    refine name_c (fun v7 hv => ?_)
    have x1 : Ext u6 v7 := by rw [hv]; exact exE
    replace X := hid (X.out.trans x1); replace hM := hid (hM.out.ext x1); replace t_0 := hid (x1.cell t_0.out); replace t_1 := hid (x1.cell t_1.out)
    replace p_0 := hid (x1.cell p_0.out); replace p_1 := hid (x1.cell p_1.out); replace p_2 := hid (x1.cell p_2.out); replace p_3 := hid (x1.cell p_3.out)
    replace hI := hid (hI.out.ext x1); replace b12_0 := hid (x1.cell b12_0.out); replace b12_1 := hid (x1.cell b12_1.out)
    clear o0 lo0 o1
    clear hv x1
    refine (hL.out _ hM.out).mono ?_; rintro e u8 ⟨rfl, hE⟩
    replace X := hid (X.out.trans hE); replace hM := hid (hM.out.ext hE); replace t_0 := hid (hE.cell t_0.out); replace t_1 := hid (hE.cell t_1.out)
    replace p_0 := hid (hE.cell p_0.out); replace p_1 := hid (hE.cell p_1.out); replace p_2 := hid (hE.cell p_2.out); replace p_3 := hid (hE.cell p_3.out)
    replace hI := hid (hI.out.ext hE); replace b12_0 := hid (hE.cell b12_0.out); replace b12_1 := hid (hE.cell b12_1.out)
    clear hE
    have o0 := b12_0.out
    have lo0 := cell_lt o0; dsimp only at lo0
    have o1 := b12_1.out
    go_wp2_with fail
    refine name_c (fun v9 hv => ?_)
    have x1 : Ext u8 v9 := by rw [hv]; exact exE
    have b15_0 := hid (show v9.cell? ⟨u8.heap.size, 0, none⟩ = some (.int .i64 (LN)) by rw [hv]; simp [go_sem])
    have b15_1 := hid (show v9.cell? ⟨u8.heap.size, 1, none⟩ = some (.int .i64 (LD)) by rw [hv]; simp [go_sem])
    replace X := hid (X.out.trans x1); replace hM := hid (hM.out.ext x1); replace t_0 := hid (x1.cell t_0.out); replace t_1 := hid (x1.cell t_1.out)
    replace p_0 := hid (x1.cell p_0.out); replace p_1 := hid (x1.cell p_1.out); replace p_2 := hid (x1.cell p_2.out); replace p_3 := hid (x1.cell p_3.out)
    replace hI := hid (hI.out.ext x1); replace b12_0 := hid (x1.cell b12_0.out); replace b12_1 := hid (x1.cell b12_1.out)
    clear o0 lo0 o1
    clear hv x1
    obtain ⟨Bb15, hBn⟩ : ∃ z, u8.heap.size = z := ⟨_, rfl⟩
    rw [hBn] at b15_0 b15_1 ⊢
    clear hBn
    refine (s1.out _).mono ?_; rintro e u10 ⟨rfl, hE⟩
    replace X := hid (X.out.trans hE); replace hM := hid (hM.out.ext hE); replace t_0 := hid (hE.cell t_0.out); replace t_1 := hid (hE.cell t_1.out)
    replace p_0 := hid (hE.cell p_0.out); replace p_1 := hid (hE.cell p_1.out); replace p_2 := hid (hE.cell p_2.out); replace p_3 := hid (hE.cell p_3.out)
    replace hI := hid (hI.out.ext hE); replace b12_0 := hid (hE.cell b12_0.out); replace b12_1 := hid (hE.cell b12_1.out); replace b15_0 := hid (hE.cell b15_0.out)
    replace b15_1 := hid (hE.cell b15_1.out)
    clear hE
    have o0 := t_0.out
    have lo0 := cell_lt o0; dsimp only at lo0
    have o1 := t_1.out
    go_wp2_with fail
    refine name_c (fun v11 hv => ?_)
    have x1 : Ext u10 v11 := by rw [hv]; exact exE
    replace X := hid (X.out.trans x1); replace hM := hid (hM.out.ext x1); replace t_0 := hid (x1.cell t_0.out); replace t_1 := hid (x1.cell t_1.out)
    replace p_0 := hid (x1.cell p_0.out); replace p_1 := hid (x1.cell p_1.out); replace p_2 := hid (x1.cell p_2.out); replace p_3 := hid (x1.cell p_3.out)
    replace hI := hid (hI.out.ext x1); replace b12_0 := hid (x1.cell b12_0.out); replace b12_1 := hid (x1.cell b12_1.out); replace b15_0 := hid (x1.cell b15_0.out)
    replace b15_1 := hid (x1.cell b15_1.out)
    clear o0 lo0 o1
    clear hv x1
    refine (hCh.out _ hM.out).mono ?_; rintro e u12 ⟨a2, k2, rfl, hJ, hE⟩
    replace X := hid (X.out.trans hE); replace hM := hid (hM.out.ext hE); replace t_0 := hid (hE.cell t_0.out); replace t_1 := hid (hE.cell t_1.out)
    replace p_0 := hid (hE.cell p_0.out); replace p_1 := hid (hE.cell p_1.out); replace p_2 := hid (hE.cell p_2.out); replace p_3 := hid (hE.cell p_3.out)
    replace hI := hid (hI.out.ext hE); replace b12_0 := hid (hE.cell b12_0.out); replace b12_1 := hid (hE.cell b12_1.out); replace b15_0 := hid (hE.cell b15_0.out)
    replace b15_1 := hid (hE.cell b15_1.out)
    clear hE
    rw [hcl.out (by trivial)]
    replace hJ := hid hJ
    have o0 := t_0.out
    have lo0 := cell_lt o0; dsimp only at lo0
    have o1 := t_1.out
    go_wp2_with fail
    refine name_c (fun v13 hv => ?_)
    have x1 : Ext u12 v13 := by rw [hv]; exact exE
    replace X := hid (X.out.trans x1); replace hM := hid (hM.out.ext x1); replace t_0 := hid (x1.cell t_0.out); replace t_1 := hid (x1.cell t_1.out)
    replace p_0 := hid (x1.cell p_0.out); replace p_1 := hid (x1.cell p_1.out); replace p_2 := hid (x1.cell p_2.out); replace p_3 := hid (x1.cell p_3.out)
    replace hI := hid (hI.out.ext x1); replace b12_0 := hid (x1.cell b12_0.out); replace b12_1 := hid (x1.cell b12_1.out); replace b15_0 := hid (x1.cell b15_0.out)
    replace b15_1 := hid (x1.cell b15_1.out); replace hJ := hid (hJ.out.ext x1)
    clear o0 lo0 o1
    clear hv x1
    refine (hPr.out _ hM.out).mono ?_; rintro e u14 ⟨rfl, hE⟩
    replace X := hid (X.out.trans hE); replace hM := hid (hM.out.ext hE); replace t_0 := hid (hE.cell t_0.out); replace t_1 := hid (hE.cell t_1.out)
    replace p_0 := hid (hE.cell p_0.out); replace p_1 := hid (hE.cell p_1.out); replace p_2 := hid (hE.cell p_2.out); replace p_3 := hid (hE.cell p_3.out)
    replace hI := hid (hI.out.ext hE); replace b12_0 := hid (hE.cell b12_0.out); replace b12_1 := hid (hE.cell b12_1.out); replace b15_0 := hid (hE.cell b15_0.out)
    replace b15_1 := hid (hE.cell b15_1.out); replace hJ := hid (hJ.out.ext hE)
    clear hE
    have o0 := t_0.out
    have lo0 := cell_lt o0; dsimp only at lo0
    have o1 := t_1.out
    go_wp2_with fail
    refine name_c (fun v15 hv => ?_)
    have x1 : Ext u14 v15 := by rw [hv]; exact exE
    have b20_0 := hid (show v15.cell? ⟨u14.heap.size, 0, none⟩ = some (.int .i64 (q0)) by rw [hv]; simp [go_sem])
    have b20_1 := hid (show v15.cell? ⟨u14.heap.size, 1, none⟩ = some (.int .i64 (q1)) by rw [hv]; simp [go_sem])
    have b20_2 := hid (show v15.cell? ⟨u14.heap.size, 2, none⟩ = some (.int .i64 (q2)) by rw [hv]; simp [go_sem])
    have b20_3 := hid (show v15.cell? ⟨u14.heap.size, 3, none⟩ = some (.int .i64 (q3)) by rw [hv]; simp [go_sem])
    replace X := hid (X.out.trans x1); replace hM := hid (hM.out.ext x1); replace t_0 := hid (x1.cell t_0.out); replace t_1 := hid (x1.cell t_1.out)
    replace p_0 := hid (x1.cell p_0.out); replace p_1 := hid (x1.cell p_1.out); replace p_2 := hid (x1.cell p_2.out); replace p_3 := hid (x1.cell p_3.out)
    replace hI := hid (hI.out.ext x1); replace b12_0 := hid (x1.cell b12_0.out); replace b12_1 := hid (x1.cell b12_1.out); replace b15_0 := hid (x1.cell b15_0.out)
    replace b15_1 := hid (x1.cell b15_1.out); replace hJ := hid (hJ.out.ext x1)
    clear o0 lo0 o1
    clear hv x1
    obtain ⟨Bb20, hBn⟩ : ∃ z, u14.heap.size = z := ⟨_, rfl⟩
    rw [hBn] at b20_0 b20_1 b20_2 b20_3 ⊢
    clear hBn
    refine (hD2.out (by trivial) _ _ _ hM.out hJ.out).mono ?_; rintro e u16 ⟨rfl, hE⟩
    replace X := hid (X.out.trans hE); replace hM := hid (hM.out.ext hE); replace t_0 := hid (hE.cell t_0.out); replace t_1 := hid (hE.cell t_1.out)
    replace p_0 := hid (hE.cell p_0.out); replace p_1 := hid (hE.cell p_1.out); replace p_2 := hid (hE.cell p_2.out); replace p_3 := hid (hE.cell p_3.out)
    replace hI := hid (hI.out.ext hE); replace b12_0 := hid (hE.cell b12_0.out); replace b12_1 := hid (hE.cell b12_1.out); replace b15_0 := hid (hE.cell b15_0.out)
    replace b15_1 := hid (hE.cell b15_1.out); replace hJ := hid (hJ.out.ext hE); replace b20_0 := hid (hE.cell b20_0.out); replace b20_1 := hid (hE.cell b20_1.out)
    replace b20_2 := hid (hE.cell b20_2.out); replace b20_3 := hid (hE.cell b20_3.out)
    clear hE
    go_wp2_with fail
    refine name_c (fun v17 hv => ?_)
    have x1 : Ext u16 v17 := by rw [hv]; exact exE
    replace X := hid (X.out.trans x1); replace hM := hid (hM.out.ext x1); replace t_0 := hid (x1.cell t_0.out); replace t_1 := hid (x1.cell t_1.out)
    replace p_0 := hid (x1.cell p_0.out); replace p_1 := hid (x1.cell p_1.out); replace p_2 := hid (x1.cell p_2.out); replace p_3 := hid (x1.cell p_3.out)
    replace hI := hid (hI.out.ext x1); replace b12_0 := hid (x1.cell b12_0.out); replace b12_1 := hid (x1.cell b12_1.out); replace b15_0 := hid (x1.cell b15_0.out)
    replace b15_1 := hid (x1.cell b15_1.out); replace hJ := hid (hJ.out.ext x1); replace b20_0 := hid (x1.cell b20_0.out); replace b20_1 := hid (x1.cell b20_1.out)
    replace b20_2 := hid (x1.cell b20_2.out); replace b20_3 := hid (x1.cell b20_3.out)
    clear hv x1
    refine (hC2.out (by trivial) _ _ _ hM.out hJ.out).mono ?_; rintro e u18 ⟨rfl, hE⟩
    replace X := hid (X.out.trans hE); replace hM := hid (hM.out.ext hE); replace t_0 := hid (hE.cell t_0.out); replace t_1 := hid (hE.cell t_1.out)
    replace p_0 := hid (hE.cell p_0.out); replace p_1 := hid (hE.cell p_1.out); replace p_2 := hid (hE.cell p_2.out); replace p_3 := hid (hE.cell p_3.out)
    replace hI := hid (hI.out.ext hE); replace b12_0 := hid (hE.cell b12_0.out); replace b12_1 := hid (hE.cell b12_1.out); replace b15_0 := hid (hE.cell b15_0.out)
    replace b15_1 := hid (hE.cell b15_1.out); replace hJ := hid (hJ.out.ext hE); replace b20_0 := hid (hE.cell b20_0.out); replace b20_1 := hid (hE.cell b20_1.out)
    replace b20_2 := hid (hE.cell b20_2.out); replace b20_3 := hid (hE.cell b20_3.out)
    clear hE
    have o0 := t_0.out
    have lo0 := cell_lt o0; dsimp only at lo0
    have o1 := t_1.out
    have o2 := b20_0.out
    have lo2 := cell_lt o2; dsimp only at lo2
    have o3 := b20_1.out
    have o4 := b20_2.out
    have o5 := b20_3.out
    go_wp2_with fail
    refine name_c (fun v19 hv => ?_)
    have x1 : Ext u18 v19 := by rw [hv]; exact exE
    have b22_0 := hid (show v19.cell? ⟨u18.heap.size, 0, none⟩ = some (.int .i64 (LN)) by rw [hv]; simp [go_sem])
    have b22_1 := hid (show v19.cell? ⟨u18.heap.size, 1, none⟩ = some (.int .i64 (LD)) by rw [hv]; simp [go_sem])
    replace X := hid (X.out.trans x1); replace hM := hid (hM.out.ext x1); replace t_0 := hid (x1.cell t_0.out); replace t_1 := hid (x1.cell t_1.out)
    replace p_0 := hid (x1.cell p_0.out); replace p_1 := hid (x1.cell p_1.out); replace p_2 := hid (x1.cell p_2.out); replace p_3 := hid (x1.cell p_3.out)
    replace hI := hid (hI.out.ext x1); replace b12_0 := hid (x1.cell b12_0.out); replace b12_1 := hid (x1.cell b12_1.out); replace b15_0 := hid (x1.cell b15_0.out)
    replace b15_1 := hid (x1.cell b15_1.out); replace hJ := hid (hJ.out.ext x1); replace b20_0 := hid (x1.cell b20_0.out); replace b20_1 := hid (x1.cell b20_1.out)
    replace b20_2 := hid (x1.cell b20_2.out); replace b20_3 := hid (x1.cell b20_3.out)
    clear o0 lo0 o1 o2 lo2 o3 o4 o5
    clear hv x1
    obtain ⟨Bb22, hBn⟩ : ∃ z, u18.heap.size = z := ⟨_, rfl⟩
    rw [hBn] at b22_0 b22_1 ⊢
    clear hBn
    refine (hK.out (by trivial) _ hM.out).mono ?_; rintro e u20 ⟨rfl, hE⟩
    replace X := hid (X.out.trans hE); replace hM := hid (hM.out.ext hE); replace t_0 := hid (hE.cell t_0.out); replace t_1 := hid (hE.cell t_1.out)
    replace p_0 := hid (hE.cell p_0.out); replace p_1 := hid (hE.cell p_1.out); replace p_2 := hid (hE.cell p_2.out); replace p_3 := hid (hE.cell p_3.out)
    replace hI := hid (hI.out.ext hE); replace b12_0 := hid (hE.cell b12_0.out); replace b12_1 := hid (hE.cell b12_1.out); replace b15_0 := hid (hE.cell b15_0.out)
    replace b15_1 := hid (hE.cell b15_1.out); replace hJ := hid (hJ.out.ext hE); replace b20_0 := hid (hE.cell b20_0.out); replace b20_1 := hid (hE.cell b20_1.out)
    replace b20_2 := hid (hE.cell b20_2.out); replace b20_3 := hid (hE.cell b20_3.out); replace b22_0 := hid (hE.cell b22_0.out); replace b22_1 := hid (hE.cell b22_1.out)
    clear hE
    have o0 := t_0.out
    have lo0 := cell_lt o0; dsimp only at lo0
    have o1 := t_1.out
    have o2 := b20_0.out
    have lo2 := cell_lt o2; dsimp only at lo2
    have o3 := b20_1.out
    have o4 := b20_2.out
    have o5 := b20_3.out
    go_wp2_with fail
    refine name_c (fun v21 hv => ?_)
    have x1 : Ext u20 v21 := by rw [hv]; exact exE
    have b23_0 := hid (show v21.cell? ⟨u20.heap.size, 0, none⟩ = some (.int .i64 (LN)) by rw [hv]; simp [go_sem])
    have b23_1 := hid (show v21.cell? ⟨u20.heap.size, 1, none⟩ = some (.int .i64 (LD)) by rw [hv]; simp [go_sem])
    replace X := hid (X.out.trans x1); replace hM := hid (hM.out.ext x1); replace t_0 := hid (x1.cell t_0.out); replace t_1 := hid (x1.cell t_1.out)
    replace p_0 := hid (x1.cell p_0.out); replace p_1 := hid (x1.cell p_1.out); replace p_2 := hid (x1.cell p_2.out); replace p_3 := hid (x1.cell p_3.out)
    replace hI := hid (hI.out.ext x1); replace b12_0 := hid (x1.cell b12_0.out); replace b12_1 := hid (x1.cell b12_1.out); replace b15_0 := hid (x1.cell b15_0.out)
    replace b15_1 := hid (x1.cell b15_1.out); replace hJ := hid (hJ.out.ext x1); replace b20_0 := hid (x1.cell b20_0.out); replace b20_1 := hid (x1.cell b20_1.out)
    replace b20_2 := hid (x1.cell b20_2.out); replace b20_3 := hid (x1.cell b20_3.out); replace b22_0 := hid (x1.cell b22_0.out); replace b22_1 := hid (x1.cell b22_1.out)
    clear o0 lo0 o1 o2 lo2 o3 o4 o5
    clear hv x1
    obtain ⟨Bb23, hBn⟩ : ∃ z, u20.heap.size = z := ⟨_, rfl⟩
    rw [hBn] at b23_0 b23_1 ⊢
    clear hBn
    refine (hKR.out (by trivial) _ hM.out).mono ?_; rintro e u22 ⟨rfl, hE⟩
    replace X := hid (X.out.trans hE); replace hM := hid (hM.out.ext hE); replace t_0 := hid (hE.cell t_0.out); replace t_1 := hid (hE.cell t_1.out)
    replace p_0 := hid (hE.cell p_0.out); replace p_1 := hid (hE.cell p_1.out); replace p_2 := hid (hE.cell p_2.out); replace p_3 := hid (hE.cell p_3.out)
    replace hI := hid (hI.out.ext hE); replace b12_0 := hid (hE.cell b12_0.out); replace b12_1 := hid (hE.cell b12_1.out); replace b15_0 := hid (hE.cell b15_0.out)
    replace b15_1 := hid (hE.cell b15_1.out); replace hJ := hid (hJ.out.ext hE); replace b20_0 := hid (hE.cell b20_0.out); replace b20_1 := hid (hE.cell b20_1.out)
    replace b20_2 := hid (hE.cell b20_2.out); replace b20_3 := hid (hE.cell b20_3.out); replace b22_0 := hid (hE.cell b22_0.out); replace b22_1 := hid (hE.cell b22_1.out)
    replace b23_0 := hid (hE.cell b23_0.out); replace b23_1 := hid (hE.cell b23_1.out)
    clear hE
    have o0 := t_0.out
    have lo0 := cell_lt o0; dsimp only at lo0
    have o1 := t_1.out
    have o2 := p_0.out
    have lo2 := cell_lt o2; dsimp only at lo2
    have o3 := p_1.out
    have o4 := p_2.out
    have o5 := p_3.out
    have o6 := b22_0.out
    have lo6 := cell_lt o6; dsimp only at lo6
    have o7 := b22_1.out
    have o8 := b15_0.out
    have lo8 := cell_lt o8; dsimp only at lo8
    have o9 := b15_1.out
    have o10 := b23_0.out
    have lo10 := cell_lt o10; dsimp only at lo10
    have o11 := b23_1.out
    go_wp2_with fail
    refine name_c (fun v23 hv => ?_)
    have x1 : Ext u22 v23 := by rw [hv]; exact exE
    have b24_0 := hid (show v23.cell? ⟨u22.heap.size, 0, none⟩ = some (.int .i64 (LN)) by rw [hv]; simp [go_sem])
    have b24_1 := hid (show v23.cell? ⟨u22.heap.size, 1, none⟩ = some (.int .i64 (LD)) by rw [hv]; simp [go_sem])
    replace X := hid (X.out.trans x1); replace hM := hid (hM.out.ext x1); replace t_0 := hid (x1.cell t_0.out); replace t_1 := hid (x1.cell t_1.out)
    replace p_0 := hid (x1.cell p_0.out); replace p_1 := hid (x1.cell p_1.out); replace p_2 := hid (x1.cell p_2.out); replace p_3 := hid (x1.cell p_3.out)
    replace hI := hid (hI.out.ext x1); replace b12_0 := hid (x1.cell b12_0.out); replace b12_1 := hid (x1.cell b12_1.out); replace b15_0 := hid (x1.cell b15_0.out)
    replace b15_1 := hid (x1.cell b15_1.out); replace hJ := hid (hJ.out.ext x1); replace b20_0 := hid (x1.cell b20_0.out); replace b20_1 := hid (x1.cell b20_1.out)
    replace b20_2 := hid (x1.cell b20_2.out); replace b20_3 := hid (x1.cell b20_3.out); replace b22_0 := hid (x1.cell b22_0.out); replace b22_1 := hid (x1.cell b22_1.out)
    replace b23_0 := hid (x1.cell b23_0.out); replace b23_1 := hid (x1.cell b23_1.out)
    clear o0 lo0 o1 o2 lo2 o3 o4 o5 o6 lo6 o7 o8 lo8 o9 o10 lo10 o11
    clear hv x1
    obtain ⟨Bb24, hBn⟩ : ∃ z, u22.heap.size = z := ⟨_, rfl⟩
    rw [hBn] at b24_0 b24_1 ⊢
    clear hBn
    refine (hKp.out _ hM.out).mono ?_; rintro e u24 ⟨rfl, hE⟩
    replace X := hid (X.out.trans hE); replace hM := hid (hM.out.ext hE); replace t_0 := hid (hE.cell t_0.out); replace t_1 := hid (hE.cell t_1.out)
    replace p_0 := hid (hE.cell p_0.out); replace p_1 := hid (hE.cell p_1.out); replace p_2 := hid (hE.cell p_2.out); replace p_3 := hid (hE.cell p_3.out)
    replace hI := hid (hI.out.ext hE); replace b12_0 := hid (hE.cell b12_0.out); replace b12_1 := hid (hE.cell b12_1.out); replace b15_0 := hid (hE.cell b15_0.out)
    replace b15_1 := hid (hE.cell b15_1.out); replace hJ := hid (hJ.out.ext hE); replace b20_0 := hid (hE.cell b20_0.out); replace b20_1 := hid (hE.cell b20_1.out)
    replace b20_2 := hid (hE.cell b20_2.out); replace b20_3 := hid (hE.cell b20_3.out); replace b22_0 := hid (hE.cell b22_0.out); replace b22_1 := hid (hE.cell b22_1.out)
    replace b23_0 := hid (hE.cell b23_0.out); replace b23_1 := hid (hE.cell b23_1.out); replace b24_0 := hid (hE.cell b24_0.out); replace b24_1 := hid (hE.cell b24_1.out)
    clear hE
    have o0 := t_0.out
    have lo0 := cell_lt o0; dsimp only at lo0
    have o1 := t_1.out
    have o2 := p_0.out
    have lo2 := cell_lt o2; dsimp only at lo2
    have o3 := p_1.out
    have o4 := p_2.out
    have o5 := p_3.out
    go_wp2_with fail
    refine name_c (fun v25 hv => ?_)
    have x1 : Ext u24 v25 := by rw [hv]; exact exE
    have b26_0 := hid (show v25.cell? ⟨u24.heap.size, 0, none⟩ = some (.int .i64 (Pn)) by rw [hv]; simp [go_sem])
    have b26_1 := hid (show v25.cell? ⟨u24.heap.size, 1, none⟩ = some (.int .i64 (Pd)) by rw [hv]; simp [go_sem])
    replace X := hid (X.out.trans x1); replace hM := hid (hM.out.ext x1); replace t_0 := hid (x1.cell t_0.out); replace t_1 := hid (x1.cell t_1.out)
    replace p_0 := hid (x1.cell p_0.out); replace p_1 := hid (x1.cell p_1.out); replace p_2 := hid (x1.cell p_2.out); replace p_3 := hid (x1.cell p_3.out)
    replace hI := hid (hI.out.ext x1); replace b12_0 := hid (x1.cell b12_0.out); replace b12_1 := hid (x1.cell b12_1.out); replace b15_0 := hid (x1.cell b15_0.out)
    replace b15_1 := hid (x1.cell b15_1.out); replace hJ := hid (hJ.out.ext x1); replace b20_0 := hid (x1.cell b20_0.out); replace b20_1 := hid (x1.cell b20_1.out)
    replace b20_2 := hid (x1.cell b20_2.out); replace b20_3 := hid (x1.cell b20_3.out); replace b22_0 := hid (x1.cell b22_0.out); replace b22_1 := hid (x1.cell b22_1.out)
    replace b23_0 := hid (x1.cell b23_0.out); replace b23_1 := hid (x1.cell b23_1.out); replace b24_0 := hid (x1.cell b24_0.out); replace b24_1 := hid (x1.cell b24_1.out)
    clear o0 lo0 o1 o2 lo2 o3 o4 o5
    clear hv x1
    obtain ⟨Bb26, hBn⟩ : ∃ z, u24.heap.size = z := ⟨_, rfl⟩
    rw [hBn] at b26_0 b26_1 ⊢
    clear hBn
    refine (hKq.out _ hM.out).mono ?_; rintro e u26 ⟨rfl, hE⟩
    replace X := hid (X.out.trans hE); replace hM := hid (hM.out.ext hE); replace t_0 := hid (hE.cell t_0.out); replace t_1 := hid (hE.cell t_1.out)
    replace p_0 := hid (hE.cell p_0.out); replace p_1 := hid (hE.cell p_1.out); replace p_2 := hid (hE.cell p_2.out); replace p_3 := hid (hE.cell p_3.out)
    replace hI := hid (hI.out.ext hE); replace b12_0 := hid (hE.cell b12_0.out); replace b12_1 := hid (hE.cell b12_1.out); replace b15_0 := hid (hE.cell b15_0.out)
    replace b15_1 := hid (hE.cell b15_1.out); replace hJ := hid (hJ.out.ext hE); replace b20_0 := hid (hE.cell b20_0.out); replace b20_1 := hid (hE.cell b20_1.out)
    replace b20_2 := hid (hE.cell b20_2.out); replace b20_3 := hid (hE.cell b20_3.out); replace b22_0 := hid (hE.cell b22_0.out); replace b22_1 := hid (hE.cell b22_1.out)
    replace b23_0 := hid (hE.cell b23_0.out); replace b23_1 := hid (hE.cell b23_1.out); replace b24_0 := hid (hE.cell b24_0.out); replace b24_1 := hid (hE.cell b24_1.out)
    replace b26_0 := hid (hE.cell b26_0.out); replace b26_1 := hid (hE.cell b26_1.out)
    clear hE
    go_wp2_with fail
    refine (works_any _).mono ?_; rintro e w9 ⟨rfl, hE9⟩
    have X9 := hid (X.out.trans (show Ext u26 w9 from exE))
    go_wp2_with fail
    go_ret
    exact ⟨rfl, X9.out⟩
 ·subst gE
  rw [show decide ((17 : Int) = 0) = false from rfl] at hL
  have gD : DE = 17 := hdt.out.resolve_left fun h => by have := (hless.out (hgd.out.1 h)).1; omega
  subst gD
  clear hz hct hks hcr hprf hless hgd hdt hlo
  by_cases gP : Pe = 0
  ·subst gP
   go_enter Try.func7, Try.ntmps7
   go_wp2_with fail
   refine (hf.out _ exE).mono ?_; rintro e w1 ⟨rfl, hE⟩
   have X := hid (show Ext w w1 from exE)
   have t_0 := hid (hE.cell (p := ⟨w.heap.size, 0, none⟩) (v := .int .i64 (u)) (by simp [go_sem]))
   have t_1 := hid (hE.cell (p := ⟨w.heap.size, 1, none⟩) (v := .int .i64 (c)) (by simp [go_sem]))
   have p_0 := hid (hE.cell (p := ⟨w.heap.size + 1, 0, none⟩) (v := .int .i64 (d)) (by simp [go_sem]))
   have p_1 := hid (hE.cell (p := ⟨w.heap.size + 1, 1, none⟩) (v := .int .i64 (b)) (by simp [go_sem]))
   have p_2 := hid (hE.cell (p := ⟨w.heap.size + 1, 2, none⟩) (v := .int .i64 (le)) (by simp [go_sem]))
   have p_3 := hid (hE.cell (p := ⟨w.heap.size + 1, 3, none⟩) (v := .int .i64 (co)) (by simp [go_sem]))
   replace hM := hid (hM.out.ext X.out)
   obtain ⟨T, hT⟩ : ∃ T, w.heap.size = T := ⟨_, rfl⟩
   rw [hT] at t_0 t_1 p_0 p_1 p_2 p_3 ⊢
   clear hE hf hT
   go_wp2_with fail
   refine name_c (fun v1 hv => ?_)
   have x1 : Ext w1 v1 := by rw [hv]; exact exE
   replace X := hid (X.out.trans x1); replace hM := hid (hM.out.ext x1); replace t_0 := hid (x1.cell t_0.out); replace t_1 := hid (x1.cell t_1.out)
   replace p_0 := hid (x1.cell p_0.out); replace p_1 := hid (x1.cell p_1.out); replace p_2 := hid (x1.cell p_2.out); replace p_3 := hid (x1.cell p_3.out)
   clear hv x1
   refine (hmxx.out _ X.out).mono ?_; rintro e u2 ⟨a1, k1, rfl, hI, hE⟩
   replace X := hid (X.out.trans hE); replace hM := hid (hM.out.ext hE); replace t_0 := hid (hE.cell t_0.out); replace t_1 := hid (hE.cell t_1.out)
   replace p_0 := hid (hE.cell p_0.out); replace p_1 := hid (hE.cell p_1.out); replace p_2 := hid (hE.cell p_2.out); replace p_3 := hid (hE.cell p_3.out)
   clear hE
   replace hI := hid hI
   rw [xl.out]
   go_wp2_with fail
   refine name_c (fun v3 hv => ?_)
   have x1 : Ext u2 v3 := by rw [hv]; exact exE
   replace X := hid (X.out.trans x1); replace hM := hid (hM.out.ext x1); replace t_0 := hid (x1.cell t_0.out); replace t_1 := hid (x1.cell t_1.out)
   replace p_0 := hid (x1.cell p_0.out); replace p_1 := hid (x1.cell p_1.out); replace p_2 := hid (x1.cell p_2.out); replace p_3 := hid (x1.cell p_3.out)
   replace hI := hid (hI.out.ext x1)
   clear hv x1
   refine (hC1.out _ _ _ hM.out hI.out).mono ?_; rintro e u4 ⟨rfl, hE⟩
   replace X := hid (X.out.trans hE); replace hM := hid (hM.out.ext hE); replace t_0 := hid (hE.cell t_0.out); replace t_1 := hid (hE.cell t_1.out)
   replace p_0 := hid (hE.cell p_0.out); replace p_1 := hid (hE.cell p_1.out); replace p_2 := hid (hE.cell p_2.out); replace p_3 := hid (hE.cell p_3.out)
   replace hI := hid (hI.out.ext hE)
   clear hE
   have o0 := t_0.out
   have lo0 := cell_lt o0; dsimp only at lo0
   have o1 := t_1.out
   go_wp2_with fail
   refine name_c (fun v5 hv => ?_)
   have x1 : Ext u4 v5 := by rw [hv]; exact exE
   have b12_0 := hid (show v5.cell? ⟨u4.heap.size, 0, none⟩ = some (.int .i64 (N1)) by rw [hv]; simp [go_sem])
   have b12_1 := hid (show v5.cell? ⟨u4.heap.size, 1, none⟩ = some (.int .i64 (D1)) by rw [hv]; simp [go_sem])
   replace X := hid (X.out.trans x1); replace hM := hid (hM.out.ext x1); replace t_0 := hid (x1.cell t_0.out); replace t_1 := hid (x1.cell t_1.out)
   replace p_0 := hid (x1.cell p_0.out); replace p_1 := hid (x1.cell p_1.out); replace p_2 := hid (x1.cell p_2.out); replace p_3 := hid (x1.cell p_3.out)
   replace hI := hid (hI.out.ext x1)
   clear o0 lo0 o1
   clear hv x1
   obtain ⟨Bb12, hBn⟩ : ∃ z, u4.heap.size = z := ⟨_, rfl⟩
   rw [hBn] at b12_0 b12_1 ⊢
   clear hBn
   refine (hD1.out _ _ _ hM.out hI.out).mono ?_; rintro e u6 ⟨rfl, hE⟩
   replace X := hid (X.out.trans hE); replace hM := hid (hM.out.ext hE); replace t_0 := hid (hE.cell t_0.out); replace t_1 := hid (hE.cell t_1.out)
   replace p_0 := hid (hE.cell p_0.out); replace p_1 := hid (hE.cell p_1.out); replace p_2 := hid (hE.cell p_2.out); replace p_3 := hid (hE.cell p_3.out)
   replace hI := hid (hI.out.ext hE); replace b12_0 := hid (hE.cell b12_0.out); replace b12_1 := hid (hE.cell b12_1.out)
   clear hE
   have o0 := t_0.out
   have lo0 := cell_lt o0; dsimp only at lo0
   have o1 := t_1.out
   go_wp2_with fail
   refine name_c (fun v7 hv => ?_)
   have x1 : Ext u6 v7 := by rw [hv]; exact exE
   replace X := hid (X.out.trans x1); replace hM := hid (hM.out.ext x1); replace t_0 := hid (x1.cell t_0.out); replace t_1 := hid (x1.cell t_1.out)
   replace p_0 := hid (x1.cell p_0.out); replace p_1 := hid (x1.cell p_1.out); replace p_2 := hid (x1.cell p_2.out); replace p_3 := hid (x1.cell p_3.out)
   replace hI := hid (hI.out.ext x1); replace b12_0 := hid (x1.cell b12_0.out); replace b12_1 := hid (x1.cell b12_1.out)
   clear o0 lo0 o1
   clear hv x1
   refine (hL.out _ hM.out).mono ?_; rintro e u8 ⟨rfl, hE⟩
   replace X := hid (X.out.trans hE); replace hM := hid (hM.out.ext hE); replace t_0 := hid (hE.cell t_0.out); replace t_1 := hid (hE.cell t_1.out)
   replace p_0 := hid (hE.cell p_0.out); replace p_1 := hid (hE.cell p_1.out); replace p_2 := hid (hE.cell p_2.out); replace p_3 := hid (hE.cell p_3.out)
   replace hI := hid (hI.out.ext hE); replace b12_0 := hid (hE.cell b12_0.out); replace b12_1 := hid (hE.cell b12_1.out)
   clear hE
   have o0 := b12_0.out
   have lo0 := cell_lt o0; dsimp only at lo0
   have o1 := b12_1.out
   go_wp2_with fail
   refine name_c (fun v9 hv => ?_)
   have x1 : Ext u8 v9 := by rw [hv]; exact exE
   have b15_0 := hid (show v9.cell? ⟨u8.heap.size, 0, none⟩ = some (.int .i64 (LN)) by rw [hv]; simp [go_sem])
   have b15_1 := hid (show v9.cell? ⟨u8.heap.size, 1, none⟩ = some (.int .i64 (LD)) by rw [hv]; simp [go_sem])
   replace X := hid (X.out.trans x1); replace hM := hid (hM.out.ext x1); replace t_0 := hid (x1.cell t_0.out); replace t_1 := hid (x1.cell t_1.out)
   replace p_0 := hid (x1.cell p_0.out); replace p_1 := hid (x1.cell p_1.out); replace p_2 := hid (x1.cell p_2.out); replace p_3 := hid (x1.cell p_3.out)
   replace hI := hid (hI.out.ext x1); replace b12_0 := hid (x1.cell b12_0.out); replace b12_1 := hid (x1.cell b12_1.out)
   clear o0 lo0 o1
   clear hv x1
   obtain ⟨Bb15, hBn⟩ : ∃ z, u8.heap.size = z := ⟨_, rfl⟩
   rw [hBn] at b15_0 b15_1 ⊢
   clear hBn
   refine (s1.out _).mono ?_; rintro e u10 ⟨rfl, hE⟩
   replace X := hid (X.out.trans hE); replace hM := hid (hM.out.ext hE); replace t_0 := hid (hE.cell t_0.out); replace t_1 := hid (hE.cell t_1.out)
   replace p_0 := hid (hE.cell p_0.out); replace p_1 := hid (hE.cell p_1.out); replace p_2 := hid (hE.cell p_2.out); replace p_3 := hid (hE.cell p_3.out)
   replace hI := hid (hI.out.ext hE); replace b12_0 := hid (hE.cell b12_0.out); replace b12_1 := hid (hE.cell b12_1.out); replace b15_0 := hid (hE.cell b15_0.out)
   replace b15_1 := hid (hE.cell b15_1.out)
   clear hE
   have o0 := t_0.out
   have lo0 := cell_lt o0; dsimp only at lo0
   have o1 := t_1.out
   have o2 := p_0.out
   have lo2 := cell_lt o2; dsimp only at lo2
   have o3 := p_1.out
   have o4 := p_2.out
   have o5 := p_3.out
   go_wp2_with fail
   refine name_c (fun v11 hv => ?_)
   have x1 : Ext u10 v11 := by rw [hv]; exact exE
   replace X := hid (X.out.trans x1); replace hM := hid (hM.out.ext x1); replace t_0 := hid (x1.cell t_0.out); replace t_1 := hid (x1.cell t_1.out)
   replace p_0 := hid (x1.cell p_0.out); replace p_1 := hid (x1.cell p_1.out); replace p_2 := hid (x1.cell p_2.out); replace p_3 := hid (x1.cell p_3.out)
   replace hI := hid (hI.out.ext x1); replace b12_0 := hid (x1.cell b12_0.out); replace b12_1 := hid (x1.cell b12_1.out); replace b15_0 := hid (x1.cell b15_0.out)
   replace b15_1 := hid (x1.cell b15_1.out)
   clear o0 lo0 o1 o2 lo2 o3 o4 o5
   clear hv x1
   refine (hKp.out _ hM.out).mono ?_; rintro e u12 ⟨rfl, hE⟩
   replace X := hid (X.out.trans hE); replace hM := hid (hM.out.ext hE); replace t_0 := hid (hE.cell t_0.out); replace t_1 := hid (hE.cell t_1.out)
   replace p_0 := hid (hE.cell p_0.out); replace p_1 := hid (hE.cell p_1.out); replace p_2 := hid (hE.cell p_2.out); replace p_3 := hid (hE.cell p_3.out)
   replace hI := hid (hI.out.ext hE); replace b12_0 := hid (hE.cell b12_0.out); replace b12_1 := hid (hE.cell b12_1.out); replace b15_0 := hid (hE.cell b15_0.out)
   replace b15_1 := hid (hE.cell b15_1.out)
   clear hE
   have o0 := t_0.out
   have lo0 := cell_lt o0; dsimp only at lo0
   have o1 := t_1.out
   have o2 := p_0.out
   have lo2 := cell_lt o2; dsimp only at lo2
   have o3 := p_1.out
   have o4 := p_2.out
   have o5 := p_3.out
   go_wp2_with fail
   refine name_c (fun v13 hv => ?_)
   have x1 : Ext u12 v13 := by rw [hv]; exact exE
   have b26_0 := hid (show v13.cell? ⟨u12.heap.size, 0, none⟩ = some (.int .i64 (Pn)) by rw [hv]; simp [go_sem])
   have b26_1 := hid (show v13.cell? ⟨u12.heap.size, 1, none⟩ = some (.int .i64 (Pd)) by rw [hv]; simp [go_sem])
   replace X := hid (X.out.trans x1); replace hM := hid (hM.out.ext x1); replace t_0 := hid (x1.cell t_0.out); replace t_1 := hid (x1.cell t_1.out)
   replace p_0 := hid (x1.cell p_0.out); replace p_1 := hid (x1.cell p_1.out); replace p_2 := hid (x1.cell p_2.out); replace p_3 := hid (x1.cell p_3.out)
   replace hI := hid (hI.out.ext x1); replace b12_0 := hid (x1.cell b12_0.out); replace b12_1 := hid (x1.cell b12_1.out); replace b15_0 := hid (x1.cell b15_0.out)
   replace b15_1 := hid (x1.cell b15_1.out)
   clear o0 lo0 o1 o2 lo2 o3 o4 o5
   clear hv x1
   obtain ⟨Bb26, hBn⟩ : ∃ z, u12.heap.size = z := ⟨_, rfl⟩
   rw [hBn] at b26_0 b26_1 ⊢
   clear hBn
   refine (hKq.out _ hM.out).mono ?_; rintro e u14 ⟨rfl, hE⟩
   replace X := hid (X.out.trans hE); replace hM := hid (hM.out.ext hE); replace t_0 := hid (hE.cell t_0.out); replace t_1 := hid (hE.cell t_1.out)
   replace p_0 := hid (hE.cell p_0.out); replace p_1 := hid (hE.cell p_1.out); replace p_2 := hid (hE.cell p_2.out); replace p_3 := hid (hE.cell p_3.out)
   replace hI := hid (hI.out.ext hE); replace b12_0 := hid (hE.cell b12_0.out); replace b12_1 := hid (hE.cell b12_1.out); replace b15_0 := hid (hE.cell b15_0.out)
   replace b15_1 := hid (hE.cell b15_1.out); replace b26_0 := hid (hE.cell b26_0.out); replace b26_1 := hid (hE.cell b26_1.out)
   clear hE
   go_wp2_with fail
   refine (works_any _).mono ?_; rintro e w9 ⟨rfl, hE9⟩
   have X9 := hid (X.out.trans (show Ext u14 w9 from exE))
   go_wp2_with fail
   go_ret
   exact ⟨rfl, X9.out⟩
  ·have gP2 : (Pe != 0) = true := by simpa using gP
   replace gP := hid gP
   go_enter Try.func7, Try.ntmps7
   go_wp2_with fail
   refine (hf.out _ exE).mono ?_; rintro e w1 ⟨rfl, hE⟩
   have X := hid (show Ext w w1 from exE)
   have t_0 := hid (hE.cell (p := ⟨w.heap.size, 0, none⟩) (v := .int .i64 (u)) (by simp [go_sem]))
   have t_1 := hid (hE.cell (p := ⟨w.heap.size, 1, none⟩) (v := .int .i64 (c)) (by simp [go_sem]))
   have p_0 := hid (hE.cell (p := ⟨w.heap.size + 1, 0, none⟩) (v := .int .i64 (d)) (by simp [go_sem]))
   have p_1 := hid (hE.cell (p := ⟨w.heap.size + 1, 1, none⟩) (v := .int .i64 (b)) (by simp [go_sem]))
   have p_2 := hid (hE.cell (p := ⟨w.heap.size + 1, 2, none⟩) (v := .int .i64 (le)) (by simp [go_sem]))
   have p_3 := hid (hE.cell (p := ⟨w.heap.size + 1, 3, none⟩) (v := .int .i64 (co)) (by simp [go_sem]))
   replace hM := hid (hM.out.ext X.out)
   obtain ⟨T, hT⟩ : ∃ T, w.heap.size = T := ⟨_, rfl⟩
   rw [hT] at t_0 t_1 p_0 p_1 p_2 p_3 ⊢
   clear hE hf hT
   go_wp2_with fail
   refine name_c (fun v1 hv => ?_)
   have x1 : Ext w1 v1 := by rw [hv]; exact exE
   replace X := hid (X.out.trans x1); replace hM := hid (hM.out.ext x1); replace t_0 := hid (x1.cell t_0.out); replace t_1 := hid (x1.cell t_1.out)
   replace p_0 := hid (x1.cell p_0.out); replace p_1 := hid (x1.cell p_1.out); replace p_2 := hid (x1.cell p_2.out); replace p_3 := hid (x1.cell p_3.out)
   clear hv x1
   refine (hmxx.out _ X.out).mono ?_; rintro e u2 ⟨a1, k1, rfl, hI, hE⟩
   replace X := hid (X.out.trans hE); replace hM := hid (hM.out.ext hE); replace t_0 := hid (hE.cell t_0.out); replace t_1 := hid (hE.cell t_1.out)
   replace p_0 := hid (hE.cell p_0.out); replace p_1 := hid (hE.cell p_1.out); replace p_2 := hid (hE.cell p_2.out); replace p_3 := hid (hE.cell p_3.out)
   clear hE
   replace hI := hid hI
   rw [xl.out]
   go_wp2_with fail
   refine name_c (fun v3 hv => ?_)
   have x1 : Ext u2 v3 := by rw [hv]; exact exE
   replace X := hid (X.out.trans x1); replace hM := hid (hM.out.ext x1); replace t_0 := hid (x1.cell t_0.out); replace t_1 := hid (x1.cell t_1.out)
   replace p_0 := hid (x1.cell p_0.out); replace p_1 := hid (x1.cell p_1.out); replace p_2 := hid (x1.cell p_2.out); replace p_3 := hid (x1.cell p_3.out)
   replace hI := hid (hI.out.ext x1)
   clear hv x1
   refine (hC1.out _ _ _ hM.out hI.out).mono ?_; rintro e u4 ⟨rfl, hE⟩
   replace X := hid (X.out.trans hE); replace hM := hid (hM.out.ext hE); replace t_0 := hid (hE.cell t_0.out); replace t_1 := hid (hE.cell t_1.out)
   replace p_0 := hid (hE.cell p_0.out); replace p_1 := hid (hE.cell p_1.out); replace p_2 := hid (hE.cell p_2.out); replace p_3 := hid (hE.cell p_3.out)
   replace hI := hid (hI.out.ext hE)
   clear hE
   have o0 := t_0.out
   have lo0 := cell_lt o0; dsimp only at lo0
   have o1 := t_1.out
   go_wp2_with fail
   refine name_c (fun v5 hv => ?_)
   have x1 : Ext u4 v5 := by rw [hv]; exact exE
   have b12_0 := hid (show v5.cell? ⟨u4.heap.size, 0, none⟩ = some (.int .i64 (N1)) by rw [hv]; simp [go_sem])
   have b12_1 := hid (show v5.cell? ⟨u4.heap.size, 1, none⟩ = some (.int .i64 (D1)) by rw [hv]; simp [go_sem])
   replace X := hid (X.out.trans x1); replace hM := hid (hM.out.ext x1); replace t_0 := hid (x1.cell t_0.out); replace t_1 := hid (x1.cell t_1.out)
   replace p_0 := hid (x1.cell p_0.out); replace p_1 := hid (x1.cell p_1.out); replace p_2 := hid (x1.cell p_2.out); replace p_3 := hid (x1.cell p_3.out)
   replace hI := hid (hI.out.ext x1)
   clear o0 lo0 o1
   clear hv x1
   obtain ⟨Bb12, hBn⟩ : ∃ z, u4.heap.size = z := ⟨_, rfl⟩
   rw [hBn] at b12_0 b12_1 ⊢
   clear hBn
   refine (hD1.out _ _ _ hM.out hI.out).mono ?_; rintro e u6 ⟨rfl, hE⟩
   replace X := hid (X.out.trans hE); replace hM := hid (hM.out.ext hE); replace t_0 := hid (hE.cell t_0.out); replace t_1 := hid (hE.cell t_1.out)
   replace p_0 := hid (hE.cell p_0.out); replace p_1 := hid (hE.cell p_1.out); replace p_2 := hid (hE.cell p_2.out); replace p_3 := hid (hE.cell p_3.out)
   replace hI := hid (hI.out.ext hE); replace b12_0 := hid (hE.cell b12_0.out); replace b12_1 := hid (hE.cell b12_1.out)
   clear hE
   have o0 := t_0.out
   have lo0 := cell_lt o0; dsimp only at lo0
   have o1 := t_1.out
   go_wp2_with fail
   refine name_c (fun v7 hv => ?_)
   have x1 : Ext u6 v7 := by rw [hv]; exact exE
   replace X := hid (X.out.trans x1); replace hM := hid (hM.out.ext x1); replace t_0 := hid (x1.cell t_0.out); replace t_1 := hid (x1.cell t_1.out)
   replace p_0 := hid (x1.cell p_0.out); replace p_1 := hid (x1.cell p_1.out); replace p_2 := hid (x1.cell p_2.out); replace p_3 := hid (x1.cell p_3.out)
   replace hI := hid (hI.out.ext x1); replace b12_0 := hid (x1.cell b12_0.out); replace b12_1 := hid (x1.cell b12_1.out)
   clear o0 lo0 o1
   clear hv x1
   refine (hL.out _ hM.out).mono ?_; rintro e u8 ⟨rfl, hE⟩
   replace X := hid (X.out.trans hE); replace hM := hid (hM.out.ext hE); replace t_0 := hid (hE.cell t_0.out); replace t_1 := hid (hE.cell t_1.out)
   replace p_0 := hid (hE.cell p_0.out); replace p_1 := hid (hE.cell p_1.out); replace p_2 := hid (hE.cell p_2.out); replace p_3 := hid (hE.cell p_3.out)
   replace hI := hid (hI.out.ext hE); replace b12_0 := hid (hE.cell b12_0.out); replace b12_1 := hid (hE.cell b12_1.out)
   clear hE
   have o0 := b12_0.out
   have lo0 := cell_lt o0; dsimp only at lo0
   have o1 := b12_1.out
   go_wp2_with fail
   refine name_c (fun v9 hv => ?_)
   have x1 : Ext u8 v9 := by rw [hv]; exact exE
   have b15_0 := hid (show v9.cell? ⟨u8.heap.size, 0, none⟩ = some (.int .i64 (LN)) by rw [hv]; simp [go_sem])
   have b15_1 := hid (show v9.cell? ⟨u8.heap.size, 1, none⟩ = some (.int .i64 (LD)) by rw [hv]; simp [go_sem])
   replace X := hid (X.out.trans x1); replace hM := hid (hM.out.ext x1); replace t_0 := hid (x1.cell t_0.out); replace t_1 := hid (x1.cell t_1.out)
   replace p_0 := hid (x1.cell p_0.out); replace p_1 := hid (x1.cell p_1.out); replace p_2 := hid (x1.cell p_2.out); replace p_3 := hid (x1.cell p_3.out)
   replace hI := hid (hI.out.ext x1); replace b12_0 := hid (x1.cell b12_0.out); replace b12_1 := hid (x1.cell b12_1.out)
   clear o0 lo0 o1
   clear hv x1
   obtain ⟨Bb15, hBn⟩ : ∃ z, u8.heap.size = z := ⟨_, rfl⟩
   rw [hBn] at b15_0 b15_1 ⊢
   clear hBn
   refine (s1.out _).mono ?_; rintro e u10 ⟨rfl, hE⟩
   replace X := hid (X.out.trans hE); replace hM := hid (hM.out.ext hE); replace t_0 := hid (hE.cell t_0.out); replace t_1 := hid (hE.cell t_1.out)
   replace p_0 := hid (hE.cell p_0.out); replace p_1 := hid (hE.cell p_1.out); replace p_2 := hid (hE.cell p_2.out); replace p_3 := hid (hE.cell p_3.out)
   replace hI := hid (hI.out.ext hE); replace b12_0 := hid (hE.cell b12_0.out); replace b12_1 := hid (hE.cell b12_1.out); replace b15_0 := hid (hE.cell b15_0.out)
   replace b15_1 := hid (hE.cell b15_1.out)
   clear hE
   have o0 := t_0.out
   have lo0 := cell_lt o0; dsimp only at lo0
   have o1 := t_1.out
   have o2 := p_0.out
   have lo2 := cell_lt o2; dsimp only at lo2
   have o3 := p_1.out
   have o4 := p_2.out
   have o5 := p_3.out
   go_wp2_with fail
   refine name_c (fun v11 hv => ?_)
   have x1 : Ext u10 v11 := by rw [hv]; exact exE
   replace X := hid (X.out.trans x1); replace hM := hid (hM.out.ext x1); replace t_0 := hid (x1.cell t_0.out); replace t_1 := hid (x1.cell t_1.out)
   replace p_0 := hid (x1.cell p_0.out); replace p_1 := hid (x1.cell p_1.out); replace p_2 := hid (x1.cell p_2.out); replace p_3 := hid (x1.cell p_3.out)
   replace hI := hid (hI.out.ext x1); replace b12_0 := hid (x1.cell b12_0.out); replace b12_1 := hid (x1.cell b12_1.out); replace b15_0 := hid (x1.cell b15_0.out)
   replace b15_1 := hid (x1.cell b15_1.out)
   clear o0 lo0 o1 o2 lo2 o3 o4 o5
   clear hv x1
   refine (hKp.out _ hM.out).mono ?_; rintro e u12 ⟨rfl, hE⟩
   replace X := hid (X.out.trans hE); replace hM := hid (hM.out.ext hE); replace t_0 := hid (hE.cell t_0.out); replace t_1 := hid (hE.cell t_1.out)
   replace p_0 := hid (hE.cell p_0.out); replace p_1 := hid (hE.cell p_1.out); replace p_2 := hid (hE.cell p_2.out); replace p_3 := hid (hE.cell p_3.out)
   replace hI := hid (hI.out.ext hE); replace b12_0 := hid (hE.cell b12_0.out); replace b12_1 := hid (hE.cell b12_1.out); replace b15_0 := hid (hE.cell b15_0.out)
   replace b15_1 := hid (hE.cell b15_1.out)
   clear hE
   have o0 := t_0.out
   have lo0 := cell_lt o0; dsimp only at lo0
   have o1 := t_1.out
   have o2 := p_0.out
   have lo2 := cell_lt o2; dsimp only at lo2
   have o3 := p_1.out
   have o4 := p_2.out
   have o5 := p_3.out
   go_wp2_with fail
   refine name_c (fun v13 hv => ?_)
   have x1 : Ext u12 v13 := by rw [hv]; exact exE
   have b26_0 := hid (show v13.cell? ⟨u12.heap.size, 0, none⟩ = some (.int .i64 (Pn)) by rw [hv]; simp [go_sem])
   have b26_1 := hid (show v13.cell? ⟨u12.heap.size, 1, none⟩ = some (.int .i64 (Pd)) by rw [hv]; simp [go_sem])
   replace X := hid (X.out.trans x1); replace hM := hid (hM.out.ext x1); replace t_0 := hid (x1.cell t_0.out); replace t_1 := hid (x1.cell t_1.out)
   replace p_0 := hid (x1.cell p_0.out); replace p_1 := hid (x1.cell p_1.out); replace p_2 := hid (x1.cell p_2.out); replace p_3 := hid (x1.cell p_3.out)
   replace hI := hid (hI.out.ext x1); replace b12_0 := hid (x1.cell b12_0.out); replace b12_1 := hid (x1.cell b12_1.out); replace b15_0 := hid (x1.cell b15_0.out)
   replace b15_1 := hid (x1.cell b15_1.out)
   clear o0 lo0 o1 o2 lo2 o3 o4 o5
   clear hv x1
   obtain ⟨Bb26, hBn⟩ : ∃ z, u12.heap.size = z := ⟨_, rfl⟩
   rw [hBn] at b26_0 b26_1 ⊢
   clear hBn
   refine (hKq.out _ hM.out).mono ?_; rintro e u14 ⟨rfl, hE⟩
   replace X := hid (X.out.trans hE); replace hM := hid (hM.out.ext hE); replace t_0 := hid (hE.cell t_0.out); replace t_1 := hid (hE.cell t_1.out)
   replace p_0 := hid (hE.cell p_0.out); replace p_1 := hid (hE.cell p_1.out); replace p_2 := hid (hE.cell p_2.out); replace p_3 := hid (hE.cell p_3.out)
   replace hI := hid (hI.out.ext hE); replace b12_0 := hid (hE.cell b12_0.out); replace b12_1 := hid (hE.cell b12_1.out); replace b15_0 := hid (hE.cell b15_0.out)
   replace b15_1 := hid (hE.cell b15_1.out); replace b26_0 := hid (hE.cell b26_0.out); replace b26_1 := hid (hE.cell b26_1.out)
   clear hE
   go_wp2_with fail
   refine (works_any _).mono ?_; rintro e w9 ⟨rfl, hE9⟩
   have X9 := hid (X.out.trans (show Ext u14 w9 from exE))
   go_wp2_with fail
   go_ret
   exact ⟨rfl, X9.out⟩
end Go.Proofs.Ytpnfhcnnodolbaa
