/- Texts of one proof, laid together: Lv, Prv. -/
import Derived.Test.YtommhgcgaclflaaZB7
import Derived.Test.YtommhgcgaclflaaZMore35
import Derived.Test.YtommhgcgaclflaaBox
namespace Go.Proofs.Ytommhgcgaclflaa
set_option linter.unusedVariables false
set_option linter.unusedSimpArgs false
set_option linter.unusedSectionVars false
set_option linter.unnecessarySimpa false
open Go Go.RowKit Game
set_option maxRecDepth 100000

theorem far2 {W : World} {b c o : Nat} {v x y : Value} (h : W.cell? ⟨b, o, none⟩ = some v) (hne : b ≠ c) : ((W.setCell ⟨c, 0, none⟩ x).setCell ⟨c, 1, none⟩ y).cell? ⟨b, o, none⟩ = some v := by
 rw [World.cell?_setCell_far _ _ _ _ (Ne.symm hne), World.cell?_setCell_far _ _ _ _ (Ne.symm hne)]; exact h
theorem rat_fix {a b : Int} (hb : 0 < b) : ratN (ratN a b) (ratD a b) = ratN a b ∧ ratD (ratN a b) (ratD a b) = ratD a b := by
 obtain ⟨h1, h2, h3⟩ := rat_spec a hb
 refine rat_eq h3 hb ?_
 generalize ratN a b = n at *
 generalize ratD a b = d at *
 generalize (Int.gcd a b : Int) = g at *
 subst h1 h2
 grind
theorem psum_le {p : List Int} (h : ∀ i, 0 ≤ nth p i ∧ nth p i ≤ 100000000) (hl : p.length ≤ 4) : psum p ≤ 400000000 := by
 have := (sm_bd (n := p.length) (f := nth p) (B := 100000000) fun i _ => h i).2
 unfold psum; omega
theorem su_small {t : List (List Int)} (v : VldT t) {p : List Int} (vp : VldP p t.length) :
 1 ≤ sureD t p ∧ sureD t p ≤ 400000000 ∧ -100 * sureD t p ≤ sureN t p ∧ sureN t p ≤ 100 * sureD t p ∧ ratN (sureN t p) (sureD t p) = sureN t p ∧ ratD (sureN t p) (sureD t p) = sureD t p := by
 have hp := vp.ps
 have hle := psum_le (fun i => ⟨vp.nn i, vp.le i⟩) (by rw [vp.len]; exact v.m4)
 have hf := rat_fix (a := lst_ t p) hp
 obtain ⟨h1, h2, h3⟩ := rat_spec (lst_ t p) hp
 have hr := rat_le (a := lst_ t p) hp
 have hb : -100 * psum p ≤ lst_ t p ∧ lst_ t p ≤ 100 * psum p := by
  obtain ⟨k, hk, e⟩ := mnTo_at (agn t p) (n := wid t) (by have := v.n1; omega)
  unfold lst_
  rw [← e]
  exact agn_bd (fun i => vp.nn i) (fun i k => v.lo i k) (fun i k => v.hi i k) k
 have hg : 0 < (Int.gcd (lst_ t p) (psum p) : Int) := gcd_pos hp
 have e1 : sureN t p = ratN (lst_ t p) (psum p) := rfl
 have e2 : sureD t p = ratD (lst_ t p) (psum p) := rfl
 rw [← e1] at hf h1
 rw [← e2] at hf h2 h3 hr
 generalize sureN t p = n at *
 generalize sureD t p = d at *
 generalize (Int.gcd (lst_ t p) (psum p) : Int) = g at *
 refine ⟨by omega, by omega, ?_, ?_, hf.1, hf.2⟩
 ·have h : -100 * (d * g) ≤ n * g := by rw [← h1, ← h2]; exact hb.1
  refine Int.le_of_mul_le_mul_right (a := g) ?_ hg
  rw [Int.mul_assoc]; exact h
 ·have h : n * g ≤ 100 * (d * g) := by rw [← h1, ← h2]; exact hb.2
  refine Int.le_of_mul_le_mul_right (a := g) ?_ hg
  rw [Int.mul_assoc]; exact h
theorem val_small {t : List (List Int)} (v : VldT t) : 1 ≤ (val t).2 ∧ (val t).2 ≤ 192000000 ∧ -100 * (val t).2 ≤ (val t).1 ∧ (val t).1 ≤ 100 * (val t).2 ∧ ratN (val t).1 (val t).2 = (val t).1 ∧ ratD (val t).1 (val t).2 = (val t).2 := by
 obtain ⟨h1, h2, h3⟩ := bestX_spec v
 have h4 := planL_su_bd v h1 h2
 have h5 := su_small v (planL_vld v h1 h2)
 rw [← h3]
 exact ⟨h5.1, h4.2.2.2, h5.2.2.1, h5.2.2.2.1, h5.2.2.2.2.1, h5.2.2.2.2.2⟩
theorem best_prf {t : List (List Int)} (g : chkT t = 0) : proofE t (bestL t) (bestL (turn t)) = 0 ∧ proofN t (bestL t) (bestL (turn t)) = (val t).1 ∧ proofD t (bestL t) (bestL (turn t)) = (val t).2 := by
 have v := chkT_ok.1 g
 have v2 := turn_vld v
 have p1 := bestL_vld v
 have p2 := bestL_vld v2
 have h1 := bestL_su v
 have h2 := bestL_su v2
 rw [val_turn v] at h2
 have s1 : sureE t (bestL t) = 0 := sureE_ok.2 ⟨v, p1⟩
 have s2 : boundE t (bestL (turn t)) = 0 := by
  unfold boundE
  rw [if_neg (by simp [g])]
  rw [turn_len] at p2
  exact planE_ok.2 p2
 have a1 : sureNE t (bestL t) = (val t).1 := by unfold sureNE; rw [if_pos s1]; exact congrArg Prod.fst h1
 have a2 : sureDE t (bestL t) = (val t).2 := by unfold sureDE; rw [if_pos s1]; exact congrArg Prod.snd h1
 have b1 : boundNE t (bestL (turn t)) = (val t).1 := by
  unfold boundNE; rw [if_pos s2]
  have : sureN (turn t) (bestL (turn t)) = -(val t).1 := congrArg Prod.fst h2
  omega
 have b2 : boundDE t (bestL (turn t)) = (val t).2 := by unfold boundDE; rw [if_pos s2]; exact congrArg Prod.snd h2
 have e : proofE t (bestL t) (bestL (turn t)) = 0 := by
  unfold proofE
  rw [if_neg (by simp [s1]), if_neg (by simp [s2]), if_pos ⟨by rw [a1, b1], by rw [a2, b2]⟩]
 refine ⟨e, ?_, ?_⟩
 ·unfold proofN; rw [if_pos e, a1]
 ·unfold proofD; rw [if_pos e, a2]
theorem best_i64 {t : List (List Int)} (v : VldT t) (i : Nat) : I64 (nth (bestL t) i) := by
 have h := bestL_vld v
 have h1 := h.nn i
 have h2 := h.le i
 exact ⟨by omega, by omega⟩

set_option maxHeartbeats 2000000 in
theorem columnsF_any (t : List (List Int)) (g : chkT t = 0) (a : Option Addr) (cap : Nat) (w : World) (hT : Tab w a t) :
 Calls Try.prog 30 #[(.agg #[.slice a t.length cap])] w fun e w' => ∃ gg c, e = .returned (.tuple #[.slice (some ⟨gg, 0, none⟩) (wid t) c, .int .i64 0]) ∧ (Ints w' (some ⟨gg, 0, none⟩) (bestL (turn t)) ∧ w.heap.size ≤ gg) ∧ Ext w w' := by
 have hT' := hid hT
 have v := chkT_ok.1 g
 have v2 := turn_vld v
 have hop := hid (fun W hW => open_yes t v a cap W hW)
 have hbe := hid (fun D W h => best_any (turn t) v2 D W h)
 have htl : (bestL (turn t)).length = wid t := by rw [(bestL_vld v2).len, turn_len]
 unfold RetB at hbe
 rw [htl] at hbe
 obtain ⟨n, hn⟩ : ∃ n, wid t = n := ⟨_, rfl⟩
 rw [hn] at hbe ⊢
 replace g := hid g
 clear v v2 hn hT htl
 go_enter Try.func30, Try.ntmps30
 go_wp2_with fail
 refine (hop.out _ (hT'.out.ext (by repeat (with_reducible first | assumption | exact Ext.refl _ | refine Ext.drew ?_ | refine Ext.drewN ?_ _ | refine Ext.alloc ?_ _ | refine xS ?_ _ | refine xT ?_ (by assumption))))).mono ?_; rintro e w1 ⟨D, E, rfl, hD, hD2, hE⟩
 replace hD2 := hid hD2
 have hz := hid hE.size
 clear hD
 go_wp2_with fail
 refine (hbe.out E _ (hD2.out.ext (by repeat (with_reducible first | assumption | exact Ext.refl _ | refine Ext.drew ?_ | refine Ext.drewN ?_ _ | refine Ext.alloc ?_ _ | refine xS ?_ _ | refine xT ?_ (by assumption))))).mono ?_; rintro e w2 ⟨gb, rfl, hgb, hI, hE2⟩
 have hI := hid hI
 have hgb := hid hgb
 go_wp2_with fail
 go_ret2
 exact ⟨gb, _, rfl, ⟨hI.out.ext (by repeat (with_reducible first | assumption | exact Ext.refl _ | refine Ext.drew ?_ | refine Ext.drewN ?_ _ | refine Ext.alloc ?_ _ | refine xS ?_ _ | refine xT ?_ (by assumption))), by have h1 := hz.out; have h2 := hgb.out; have h3 := (show Ext w (w.alloc (.cells #[.slice a t.length cap] 24)) from (by repeat (with_reducible first | assumption | exact Ext.refl _ | refine Ext.drew ?_ | refine Ext.drewN ?_ _ | refine Ext.alloc ?_ _ | refine xS ?_ _ | refine xT ?_ (by assumption)))).size; omega⟩, (by repeat (with_reducible first | assumption | exact Ext.refl _ | refine Ext.drew ?_ | refine Ext.drewN ?_ _ | refine Ext.alloc ?_ _ | refine xS ?_ _ | refine xT ?_ (by assumption)))⟩

set_option maxHeartbeats 2000000 in
theorem rowsF_any (t : List (List Int)) (g : chkT t = 0) (a : Option Addr) (cap : Nat) (w : World) (hT : Tab w a t) :
 Calls Try.prog 29 #[(.agg #[.slice a t.length cap])] w fun e w' => ∃ gg c, e = .returned (.tuple #[.slice (some ⟨gg, 0, none⟩) t.length c, .int .i64 0]) ∧ (Ints w' (some ⟨gg, 0, none⟩) (bestL t) ∧ w.heap.size ≤ gg) ∧ Ext w w' := by
 have hT' := hid hT
 have v := chkT_ok.1 g
 have hop := hid (fun W hW => open_yes t v a cap W hW)
 have hbe := hid (fun D W h => best_any t v D W h)
 have hpl : (bestL t).length = t.length := (bestL_vld v).len
 have h04 := v.m1
 have h44 := v.m4
 obtain ⟨n, hn⟩ : ∃ n, (bestL t).length = n := ⟨_, rfl⟩
 have hn4 : n ≤ 4 := by omega
 have hn1 : 0 < n := by omega
 have hnn := hid hn
 have hnt := hid (show t.length = n by omega)
 replace g := hid g
 clear v hpl hT
 go_enter Try.func29, Try.ntmps29
 go_wp2_with fail
 refine (hop.out _ (hT'.out.ext (by repeat (with_reducible first | assumption | exact Ext.refl _ | refine Ext.drew ?_ | refine Ext.drewN ?_ _ | refine Ext.alloc ?_ _ | refine xS ?_ _ | refine xT ?_ (by assumption))))).mono ?_; rintro e w1 ⟨D, E, rfl, hD, hD2, hE⟩
 replace hD := hid hD
 have hE1 := hid hE
 clear hD2 hE
 go_wp2_with fail
 refine (hbe.out D _ (hD.out.ext (by repeat (with_reducible first | assumption | exact Ext.refl _ | refine Ext.drew ?_ | refine Ext.drewN ?_ _ | refine Ext.alloc ?_ _ | refine xS ?_ _ | refine xT ?_ (by assumption))))).mono ?_; rintro e w2 ⟨gb, rfl, hgb, hI, hE2⟩
 rw [hnn.out]
 have hI := hid hI
 have x2 := hid (show Ext w w2 from by have := hE1.out; exact (by repeat (with_reducible first | assumption | exact Ext.refl _ | refine Ext.drew ?_ | refine Ext.drewN ?_ _ | refine Ext.alloc ?_ _ | refine xS ?_ _ | refine xT ?_ (by assumption))))
 clear hE2 hgb hn
 have hin0 : (0 : Int) ≤ (n : Int) := by omega
 have hcl1 : n = (List.replicate n (0 : Int)).length := by simp
 have hcl2 : (bestL t).length = (List.replicate n (0 : Int)).length := by rw [hnn.out]; simp
 have hcl3 : 0 < (bestL t).length := by rw [hnn.out]; omega
 replace hcl1 := hid hcl1
 replace hcl2 := hid hcl2
 replace hcl3 := hid hcl3
 go_wp2_with (first | (at_make; refine make_ints rfl _ _ 25 rfl 2 Try.underlying25 elemI64 n rfl rfl (by omega) ?_; intro w5 ho5 hx5; have ho5 := hid ho5; have hx5' := hid hx5; have hI5 := hid (hI.out.ext hx5'.out); clear hx5) | (with_reducible refine copyI_wp (o := ⟨some 25, _, _, _, _, _⟩) rfl (.tmp 23) (.tmp 24) 25 rfl 2 Try.underlying25 elemI64 w2.heap.size w2.heap.size n n (List.replicate n 0) (bestL t) ?h1 (some ⟨gb, 0, none⟩) n n ?h2 hcl1.out hnn.out.symm hcl2.out hcl3.out ho5.out hI5.out ?_))
 case h1 => rfl
 case h2 => rfl
 intro w6 hI6 hg6
 go_wp2_with fail
 go_ret2
 exact ⟨w2.heap.size, n, by rw [hnt.out]; rfl, ⟨hI6, x2.out.size⟩, Ext.grown (x2.out.trans hx5'.out) hg6 (fun j e => by cases e; exact x2.out.size)⟩

set_option maxHeartbeats 8000000 in
theorem valueL_any (t : List (List Int)) (q : FitT t) (g : chkT t = 0) (a : Option Addr) (cap : Nat) (w : World) (hT : Tab w a t) :
 Calls Try.prog 41 #[(.agg #[.slice a t.length cap])] w fun e w' => ∃ ar cr ak ck, e = .returned (.tuple #[.agg #[.int .i64 (val t).1, .int .i64 (val t).2], .slice ar t.length cr, .slice ak (wid t) ck, .bool true]) ∧ Ints w' ar (bestL t) ∧ Ints w' ak (bestL (turn t)) ∧ Ext w w' := by
 have v := chkT_ok.1 g
 have m4 := v.m4; have n4 := v.n4
 have hl1 : t.length ≤ 1000 := by omega
 have hw1 := hw_of v
 have hT' := hid hT
 have p1 := (bestL_vld v).len
 have p2 := (bestL_vld (turn_vld v)).len
 rw [turn_len] at p2
 obtain ⟨y1, y2, y3, y4, y5, y6⟩ := val_small v
 obtain ⟨b1, b2, b3⟩ := best_prf g
 have h1 := hid (fun W hW => valueP_any t q a cap W hW hl1 hw1)
 have h2 := hid (fun W hW => rowsF_any t g a cap W hW)
 have h3 := hid (fun W hW => columnsF_any t g a cap W hW)
 have h4 := hid (fun aa bb ca cb W hW hK hL => checkProof_any t q a cap (bestL t) (best_i64 v) (by omega) aa ca (bestL (turn t)) (best_i64 (turn_vld v)) (by omega) bb cb W hW hl1 hw1 hK hL)
 have h5 := hid (fun aa bb ca cb W hW hK hL => checkProofR_any t q a cap (bestL t) (best_i64 v) (by omega) aa ca (bestL (turn t)) (best_i64 (turn_vld v)) (by omega) bb cb W hW hl1 hw1 hK hL)
 have h6 := hid (fun W => smallL_any (val t).1 (val t).2 y1 (by omega) y3 y4 y5 y6 W)
 have h7 := hid (fun aa cc W => longC_any (bestL t) (by omega) aa cc false (decide_eq_false (by omega)) W)
 have h8 := hid (fun aa cc W => longC_any (bestL (turn t)) (by omega) aa cc false (decide_eq_false (by omega)) W)
 rw [show valNE t = (val t).1 from if_pos g, show valDE t = (val t).2 from if_pos g, g] at h1
 rw [b1, b2, b3, p1, p2] at h4 h5
 rw [p1] at h7
 rw [p2] at h8
 obtain ⟨sn, hsn⟩ : ∃ x, (val t).1 = x := ⟨_, rfl⟩
 obtain ⟨sd, hsd⟩ : ∃ x, (val t).2 = x := ⟨_, rfl⟩
 rw [hsn, hsd] at h1 h4 h5 h6 ⊢
 rw [hsd] at y2
 obtain ⟨rl, hrl⟩ : ∃ x, bestL t = x := ⟨_, rfl⟩
 obtain ⟨kl, hkl⟩ : ∃ x, bestL (turn t) = x := ⟨_, rfl⟩
 rw [hrl] at h2 h4 h5 ⊢
 rw [hkl] at h3 h4 h5 ⊢
 obtain ⟨m, hm⟩ : ∃ x, t.length = x := ⟨_, rfl⟩
 obtain ⟨n, hn⟩ : ∃ x, wid t = x := ⟨_, rfl⟩
 rw [hm] at h1 h2 h3 h4 h5 h7 m4 ⊢
 rw [hn] at h3 h4 h5 h8 n4 ⊢
 have eS : ∀ w, (Op.equalIn 10000 30 (.agg #[.int .i64 sn, .int .i64 sd]) (.agg #[.int .i64 sn, .int .i64 sd])).run Try.prog w = .ok true w := fun w => by rw [run_eqRatio]; simp
 have hd2 : sd ≤ 200000000 := by omega
 clear hsn hsd hrl hkl hm hn hT hl1 hw1 p1 p2 y1 y2 y3 y4 y5 y6 b1 b2 b3 v g
 go_enter Try.func41, Try.ntmps41
 go_wp2_with fail
 refine name_c (fun v0 hw => ?_)
 have X := hid (show Ext w v0 by rw [hw]; exact (by repeat (with_reducible first | assumption | exact Ext.refl _ | refine Ext.drew ?_ | refine Ext.drewN ?_ _ | refine Ext.alloc ?_ _ | refine xS ?_ _ | refine xT ?_ (by assumption))))
 have mt0 := hid (show v0.cell? ⟨w.heap.size, 0, none⟩ = some (.slice a m cap) by rw [hw]; simp [go_sem])
 have br := hid (Bx2.mk (W := v0) (b := w.heap.size + 1) (p := 0) (q := 0) (by rw [hw]; simp [go_sem]) (by rw [hw]; simp [go_sem]) (by rw [hw]; simp [go_sem]) (by rw [hw]; simp [go_sem]))
 have hbw := hid (Nat.le_refl w.heap.size)
 clear hw
 obtain ⟨Bt, hBt⟩ : ∃ B, w.heap.size = B := ⟨_, rfl⟩
 rw [hBt] at mt0 br ⊢
 replace hBt := hid hBt
 refine (h1.out _ (hT'.out.ext (X.out.trans (show Ext v0 _ from (by repeat (with_reducible first | assumption | exact Ext.refl _ | refine Ext.drew ?_ | refine Ext.drewN ?_ _ | refine Ext.alloc ?_ _ | refine xS ?_ _ | refine xT ?_ (by assumption))))))).mono ?_; rintro e u1 ⟨rfl, hE⟩
 have x : Ext v0 u1 := (by repeat (with_reducible first | assumption | exact Ext.refl _ | refine Ext.drew ?_ | refine Ext.drewN ?_ _ | refine Ext.alloc ?_ _ | refine xS ?_ _ | refine xT ?_ (by assumption)))
 replace mt0 := hid (x.cell mt0.out)
 replace br := hid (br.out.ext x)
 replace X := hid (X.out.trans x)
 clear x hE
 have r_mt0 := mt0.out
 have l_mt0 := cell_lt r_mt0
 dsimp only at l_mt0
 go_wp2_with fail
 have zn := hid (show Bt + 1 < u1.heap.size from br.out.lt)
 refine name_c (fun v2 hw => ?_)
 have x : Ext u1 v2 := by rw [hw]; exact (by repeat (with_reducible first | assumption | exact Ext.refl _ | refine Ext.drew ?_ | refine Ext.drewN ?_ _ | refine Ext.alloc ?_ _ | refine xS ?_ _ | refine xT ?_ (by assumption)))
 have bx0 := hid (show v2.cell? ⟨u1.heap.size, 0, none⟩ = some (.int .i64 sn) by rw [hw]; simp [go_sem])
 have bx1 := hid (show v2.cell? ⟨u1.heap.size, 1, none⟩ = some (.int .i64 sd) by rw [hw]; simp [go_sem])
 clear r_mt0 l_mt0
 replace mt0 := hid (x.cell mt0.out)
 replace br := hid (br.out.ext x)
 replace X := hid (X.out.trans x)
 have n1 := hid (show u1.heap.size ≠ Bt + 1 from Nat.ne_of_gt (zn.out))
 clear zn
 clear x hw
 generalize u1.heap.size = Bbx at *
 have zbr_ := hid (show Bt + 1 < v2.heap.size from br.out.lt)
 refine (h2.out _ (hT'.out.ext (X.out.trans (show Ext v2 _ from (by repeat (with_reducible first | assumption | exact Ext.refl _ | refine Ext.drew ?_ | refine Ext.drewN ?_ _ | refine Ext.alloc ?_ _ | refine xS ?_ _ | refine xT ?_ (by assumption))))))).mono ?_; rintro e u3 ⟨gr, cr, rfl, lr_, hE⟩
 have x : Ext v2 u3 := (by repeat (with_reducible first | assumption | exact Ext.refl _ | refine Ext.drew ?_ | refine Ext.drewN ?_ _ | refine Ext.alloc ?_ _ | refine xS ?_ _ | refine xT ?_ (by assumption)))
 replace mt0 := hid (x.cell mt0.out)
 replace br := hid (br.out.ext x)
 replace bx0 := hid (x.cell bx0.out)
 replace bx1 := hid (x.cell bx1.out)
 replace X := hid (X.out.trans x)
 have zlr := hid (show gr ≠ Bt + 1 from fun e => by have h1 := zbr_.out; have h2 : v2.heap.size ≤ gr := Nat.le_trans (Ext.size (show Ext v2 _ from (by repeat (with_reducible first | assumption | exact Ext.refl _ | refine Ext.drew ?_ | refine Ext.drewN ?_ _ | refine Ext.alloc ?_ _ | refine xS ?_ _ | refine xT ?_ (by assumption))))) lr_.2; omega)
 have lr := hid lr_.1
 clear lr_
 clear x hE
 have r_mt0 := mt0.out
 have l_mt0 := cell_lt r_mt0
 dsimp only at l_mt0
 go_wp2_with fail
 have zbr_ := hid (show Bt + 1 < u3.heap.size from br.out.lt)
 refine (h3.out _ (hT'.out.ext (X.out.trans (show Ext u3 _ from (by repeat (with_reducible first | assumption | exact Ext.refl _ | refine Ext.drew ?_ | refine Ext.drewN ?_ _ | refine Ext.alloc ?_ _ | refine xS ?_ _ | refine xT ?_ (by assumption))))))).mono ?_; rintro e u4 ⟨gk, ck, rfl, lk_, hE⟩
 have x : Ext u3 u4 := (by repeat (with_reducible first | assumption | exact Ext.refl _ | refine Ext.drew ?_ | refine Ext.drewN ?_ _ | refine Ext.alloc ?_ _ | refine xS ?_ _ | refine xT ?_ (by assumption)))
 clear r_mt0 l_mt0
 replace mt0 := hid (x.cell mt0.out)
 replace br := hid (br.out.ext x)
 replace bx0 := hid (x.cell bx0.out)
 replace bx1 := hid (x.cell bx1.out)
 replace lr := hid (lr.out.ext x)
 replace X := hid (X.out.trans x)
 have zlk := hid (show gk ≠ Bt + 1 from fun e => by have h1 := zbr_.out; have h2 : u3.heap.size ≤ gk := Nat.le_trans (Ext.size (show Ext u3 _ from (by repeat (with_reducible first | assumption | exact Ext.refl _ | refine Ext.drew ?_ | refine Ext.drewN ?_ _ | refine Ext.alloc ?_ _ | refine xS ?_ _ | refine xT ?_ (by assumption))))) lk_.2; omega)
 have lk := hid lk_.1
 clear lk_
 clear x hE
 have r_mt0 := mt0.out
 have l_mt0 := cell_lt r_mt0
 dsimp only at l_mt0
 have r_bx0 := bx0.out
 have l_bx0 := cell_lt r_bx0
 dsimp only at l_bx0
 have r_bx1 := bx1.out
 have l_bx1 := cell_lt r_bx1
 dsimp only at l_bx1
 go_wp2_with fail
 refine (h6.out _).mono ?_; rintro e u5 ⟨rfl, hE⟩
 have x : Ext u4 u5 := (by repeat (with_reducible first | assumption | exact Ext.refl _ | refine Ext.drew ?_ | refine Ext.drewN ?_ _ | refine Ext.alloc ?_ _ | refine xS ?_ _ | refine xT ?_ (by assumption)))
 clear r_mt0 l_mt0 r_bx0 l_bx0 r_bx1 l_bx1
 replace mt0 := hid (x.cell mt0.out)
 replace br := hid (br.out.ext x)
 replace bx0 := hid (x.cell bx0.out)
 replace bx1 := hid (x.cell bx1.out)
 replace lr := hid (lr.out.ext x)
 replace lk := hid (lk.out.ext x)
 replace X := hid (X.out.trans x)
 clear x hE
 have r_mt0 := mt0.out
 have l_mt0 := cell_lt r_mt0
 dsimp only at l_mt0
 have r_bx0 := bx0.out
 have l_bx0 := cell_lt r_bx0
 dsimp only at l_bx0
 have r_bx1 := bx1.out
 have l_bx1 := cell_lt r_bx1
 dsimp only at l_bx1
 go_wp2_with fail
 refine (h7.out _ _ _).mono ?_; rintro e u6 ⟨rfl, hE⟩
 have x : Ext u5 u6 := (by repeat (with_reducible first | assumption | exact Ext.refl _ | refine Ext.drew ?_ | refine Ext.drewN ?_ _ | refine Ext.alloc ?_ _ | refine xS ?_ _ | refine xT ?_ (by assumption)))
 clear r_mt0 l_mt0 r_bx0 l_bx0 r_bx1 l_bx1
 replace mt0 := hid (x.cell mt0.out)
 replace br := hid (br.out.ext x)
 replace bx0 := hid (x.cell bx0.out)
 replace bx1 := hid (x.cell bx1.out)
 replace lr := hid (lr.out.ext x)
 replace lk := hid (lk.out.ext x)
 replace X := hid (X.out.trans x)
 clear x hE
 have r_mt0 := mt0.out
 have l_mt0 := cell_lt r_mt0
 dsimp only at l_mt0
 have r_bx0 := bx0.out
 have l_bx0 := cell_lt r_bx0
 dsimp only at l_bx0
 have r_bx1 := bx1.out
 have l_bx1 := cell_lt r_bx1
 dsimp only at l_bx1
 go_wp2_with fail
 refine (h8.out _ _ _).mono ?_; rintro e u7 ⟨rfl, hE⟩
 have x : Ext u6 u7 := (by repeat (with_reducible first | assumption | exact Ext.refl _ | refine Ext.drew ?_ | refine Ext.drewN ?_ _ | refine Ext.alloc ?_ _ | refine xS ?_ _ | refine xT ?_ (by assumption)))
 clear r_mt0 l_mt0 r_bx0 l_bx0 r_bx1 l_bx1
 replace mt0 := hid (x.cell mt0.out)
 replace br := hid (br.out.ext x)
 replace bx0 := hid (x.cell bx0.out)
 replace bx1 := hid (x.cell bx1.out)
 replace lr := hid (lr.out.ext x)
 replace lk := hid (lk.out.ext x)
 replace X := hid (X.out.trans x)
 clear x hE
 have r_mt0 := mt0.out
 have l_mt0 := cell_lt r_mt0
 dsimp only at l_mt0
 go_wp2_with fail
 refine (h4.out _ _ _ _ _ (hT'.out.ext (X.out.trans (show Ext u7 _ from (by repeat (with_reducible first | assumption | exact Ext.refl _ | refine Ext.drew ?_ | refine Ext.drewN ?_ _ | refine Ext.alloc ?_ _ | refine xS ?_ _ | refine xT ?_ (by assumption)))))) (lr.out.ext (show Ext u7 _ from (by repeat (with_reducible first | assumption | exact Ext.refl _ | refine Ext.drew ?_ | refine Ext.drewN ?_ _ | refine Ext.alloc ?_ _ | refine xS ?_ _ | refine xT ?_ (by assumption))))) (lk.out.ext (show Ext u7 _ from (by repeat (with_reducible first | assumption | exact Ext.refl _ | refine Ext.drew ?_ | refine Ext.drewN ?_ _ | refine Ext.alloc ?_ _ | refine xS ?_ _ | refine xT ?_ (by assumption)))))).mono ?_; rintro e u8 ⟨rfl, hE⟩
 have x : Ext u7 u8 := (by repeat (with_reducible first | assumption | exact Ext.refl _ | refine Ext.drew ?_ | refine Ext.drewN ?_ _ | refine Ext.alloc ?_ _ | refine xS ?_ _ | refine xT ?_ (by assumption)))
 clear r_mt0 l_mt0
 replace mt0 := hid (x.cell mt0.out)
 replace br := hid (br.out.ext x)
 replace bx0 := hid (x.cell bx0.out)
 replace bx1 := hid (x.cell bx1.out)
 replace lr := hid (lr.out.ext x)
 replace lk := hid (lk.out.ext x)
 replace X := hid (X.out.trans x)
 clear x hE
 have r_mt0 := mt0.out
 have l_mt0 := cell_lt r_mt0
 dsimp only at l_mt0
 go_wp2_with fail
 have zn := hid (show Bt + 1 < u8.heap.size from br.out.lt)
 refine name_c (fun v9 hw => ?_)
 have x : Ext u8 v9 := by rw [hw]; exact (by repeat (with_reducible first | assumption | exact Ext.refl _ | refine Ext.drew ?_ | refine Ext.drewN ?_ _ | refine Ext.alloc ?_ _ | refine xS ?_ _ | refine xT ?_ (by assumption)))
 have by0 := hid (show v9.cell? ⟨u8.heap.size, 0, none⟩ = some (.int .i64 sn) by rw [hw]; simp [go_sem])
 have by1 := hid (show v9.cell? ⟨u8.heap.size, 1, none⟩ = some (.int .i64 sd) by rw [hw]; simp [go_sem])
 clear r_mt0 l_mt0
 replace mt0 := hid (x.cell mt0.out)
 replace br := hid (br.out.ext x)
 replace bx0 := hid (x.cell bx0.out)
 replace bx1 := hid (x.cell bx1.out)
 replace lr := hid (lr.out.ext x)
 replace lk := hid (lk.out.ext x)
 replace X := hid (X.out.trans x)
 have n2 := hid (show u8.heap.size ≠ Bt + 1 from Nat.ne_of_gt (zn.out))
 clear zn
 clear x hw
 generalize u8.heap.size = Bby at *
 refine (h5.out _ _ _ _ _ (hT'.out.ext (X.out.trans (show Ext v9 _ from (by repeat (with_reducible first | assumption | exact Ext.refl _ | refine Ext.drew ?_ | refine Ext.drewN ?_ _ | refine Ext.alloc ?_ _ | refine xS ?_ _ | refine xT ?_ (by assumption)))))) (lr.out.ext (show Ext v9 _ from (by repeat (with_reducible first | assumption | exact Ext.refl _ | refine Ext.drew ?_ | refine Ext.drewN ?_ _ | refine Ext.alloc ?_ _ | refine xS ?_ _ | refine xT ?_ (by assumption))))) (lk.out.ext (show Ext v9 _ from (by repeat (with_reducible first | assumption | exact Ext.refl _ | refine Ext.drew ?_ | refine Ext.drewN ?_ _ | refine Ext.alloc ?_ _ | refine xS ?_ _ | refine xT ?_ (by assumption)))))).mono ?_; rintro e u10 ⟨rfl, hE⟩
 have x : Ext v9 u10 := (by repeat (with_reducible first | assumption | exact Ext.refl _ | refine Ext.drew ?_ | refine Ext.drewN ?_ _ | refine Ext.alloc ?_ _ | refine xS ?_ _ | refine xT ?_ (by assumption)))
 replace mt0 := hid (x.cell mt0.out)
 replace br := hid (br.out.ext x)
 replace bx0 := hid (x.cell bx0.out)
 replace bx1 := hid (x.cell bx1.out)
 replace lr := hid (lr.out.ext x)
 replace lk := hid (lk.out.ext x)
 replace by0 := hid (x.cell by0.out)
 replace by1 := hid (x.cell by1.out)
 replace X := hid (X.out.trans x)
 clear x hE
 have r_mt0 := mt0.out
 have l_mt0 := cell_lt r_mt0
 dsimp only at l_mt0
 have r_bx0 := bx0.out
 have l_bx0 := cell_lt r_bx0
 dsimp only at l_bx0
 have r_bx1 := bx1.out
 have l_bx1 := cell_lt r_bx1
 dsimp only at l_bx1
 have r_by0 := by0.out
 have l_by0 := cell_lt r_by0
 dsimp only at l_by0
 have r_by1 := by1.out
 have l_by1 := cell_lt r_by1
 dsimp only at l_by1
 go_wp2_with fail
 have zn := hid (show Bt + 1 < u10.heap.size from br.out.lt)
 refine name_wp (fun v11 hw => ?_)
 have x : Ext u10 v11 := by rw [hw]; exact (by repeat (with_reducible first | assumption | exact Ext.refl _ | refine Ext.drew ?_ | refine Ext.drewN ?_ _ | refine Ext.alloc ?_ _ | refine xS ?_ _ | refine xT ?_ (by assumption)))
 have bz0 := hid (show v11.cell? ⟨u10.heap.size, 0, none⟩ = some (.int .i64 sn) by rw [hw]; simp [go_sem])
 have bz1 := hid (show v11.cell? ⟨u10.heap.size, 1, none⟩ = some (.int .i64 sd) by rw [hw]; simp [go_sem])
 clear r_mt0 l_mt0 r_bx0 l_bx0 r_bx1 l_bx1 r_by0 l_by0 r_by1 l_by1
 replace mt0 := hid (x.cell mt0.out)
 replace br := hid (br.out.ext x)
 replace bx0 := hid (x.cell bx0.out)
 replace bx1 := hid (x.cell bx1.out)
 replace lr := hid (lr.out.ext x)
 replace lk := hid (lk.out.ext x)
 replace by0 := hid (x.cell by0.out)
 replace by1 := hid (x.cell by1.out)
 replace X := hid (X.out.trans x)
 have n3 := hid (show u10.heap.size ≠ Bt + 1 from Nat.ne_of_gt (zn.out))
 clear zn
 clear x hw
 generalize u10.heap.size = Bbz at *
 have r_mt0 := mt0.out
 have l_mt0 := cell_lt r_mt0
 dsimp only at l_mt0
 have r_bx0 := bx0.out
 have l_bx0 := cell_lt r_bx0
 dsimp only at l_bx0
 have r_bx1 := bx1.out
 have l_bx1 := cell_lt r_bx1
 dsimp only at l_bx1
 have r_by0 := by0.out
 have l_by0 := cell_lt r_by0
 dsimp only at l_by0
 have r_by1 := by1.out
 have l_by1 := cell_lt r_by1
 dsimp only at l_by1
 have r_bz0 := bz0.out
 have l_bz0 := cell_lt r_bz0
 dsimp only at l_bz0
 have r_bz1 := bz1.out
 have l_bz1 := cell_lt r_bz1
 dsimp only at l_bz1
 have q0 := br.out.c0
 have q1 := br.out.c1
 have q2 := br.out.f0
 have q3 := br.out.f1
 have hb1 := hBt.out
 refine wp_region_held_drew (S := fun w' => w'.cell? ⟨Bbx, 0, none⟩ = some (.int .i64 sn) ∧ w'.cell? ⟨Bbx, 1, none⟩ = some (.int .i64 sd) ∧ w'.cell? ⟨Bby, 0, none⟩ = some (.int .i64 sn) ∧ w'.cell? ⟨Bby, 1, none⟩ = some (.int .i64 sd) ∧ w'.cell? ⟨Bbz, 0, none⟩ = some (.int .i64 sn) ∧ w'.cell? ⟨Bbz, 1, none⟩ = some (.int .i64 sd)) (by kernel_rfl) ⟨r_bx0, r_bx1, r_by0, r_by1, r_bz0, r_bz1⟩ fun hHeld => ?_
 refine tkA (i := 0) (v := ?_) rfl (fun _ _ _ h => h) (Or.inl ⟨by rfl, ?yl⟩) (by assumption) ?_
 case yl => (intro w hSw; (try dsimp only at hSw); obtain ⟨k1, k2, k3, k4, k5, k6⟩ := hSw; go_simp); with_reducible rfl
 try simp only [sxA, sxB, sxC, Act.put, sxD, sxE, sxF]
 refine tkA (i := 1) (v := ?_) rfl (fun _ _ _ h => h) (Or.inl ⟨by rfl, ?yl⟩) (by assumption) ?_
 case yl => (intro w hSw; (try dsimp only at hSw); obtain ⟨k1, k2, k3, k4, k5, k6⟩ := hSw; go_simp); with_reducible rfl
 try simp only [sxA, sxB, sxC, Act.put, sxD, sxE, sxF]
 refine tkA (i := 2) (v := ?_) rfl (fun _ _ _ h => h) (Or.inl ⟨by rfl, ?yl⟩) (by assumption) ?_
 case yl => (intro w hSw; (try dsimp only at hSw); obtain ⟨k1, k2, k3, k4, k5, k6⟩ := hSw; go_simp); with_reducible rfl
 try simp only [sxA, sxB, sxC, Act.put, sxD, sxE, sxF]
 refine tkA (i := 3) (v := ?_) rfl (fun _ _ _ h => h) (Or.inl ⟨by rfl, ?yl⟩) (by assumption) ?_
 case yl => (intro w hSw; (try dsimp only at hSw); obtain ⟨k1, k2, k3, k4, k5, k6⟩ := hSw; go_simp); with_reducible rfl
 try simp only [sxA, sxB, sxC, Act.put, sxD, sxE, sxF]
 refine tkA (i := 4) (v := ?_) rfl (fun _ _ _ h => h) (Or.inl ⟨by rfl, ?yl⟩) (by assumption) ?_
 case yl => (intro w hSw; (try dsimp only at hSw); obtain ⟨k1, k2, k3, k4, k5, k6⟩ := hSw; go_simp); with_reducible rfl
 try simp only [sxA, sxB, sxC, Act.put, sxD, sxE, sxF]
 refine tkA (i := 5) (v := ?_) rfl (fun _ _ _ h => h) (Or.inl ⟨by rfl, ?yl⟩) (by assumption) ?_
 case yl => (intro w hSw; (try dsimp only at hSw); obtain ⟨k1, k2, k3, k4, k5, k6⟩ := hSw; go_simp); with_reducible rfl
 try simp only [sxA, sxB, sxC, Act.put, sxD, sxE, sxF]
 refine tkA (i := 6) (v := ?_) rfl (fun _ _ _ h => h) (Or.inl ⟨by rfl, ?yl⟩) (by assumption) ?_
 case yl => (intro w hSw; (try dsimp only at hSw); obtain ⟨k1, k2, k3, k4, k5, k6⟩ := hSw; go_simp); with_reducible rfl
 try simp only [sxA, sxB, sxC, Act.put, sxD, sxE, sxF]
 refine tkA (i := 7) (v := ?_) rfl (fun _ _ _ h => h) (Or.inl ⟨by rfl, ?yl⟩) (by assumption) ?_
 case yl => (intro w hSw; (try dsimp only at hSw); obtain ⟨k1, k2, k3, k4, k5, k6⟩ := hSw; go_simp); with_reducible rfl
 try simp only [sxA, sxB, sxC, Act.put, sxD, sxE, sxF]
 refine tkA (i := 8) (v := ?_) rfl (fun _ _ _ h => h) (Or.inl ⟨by rfl, ?yl⟩) (by assumption) ?_
 case yl => (intro w hSw; (try dsimp only at hSw); obtain ⟨k1, k2, k3, k4, k5, k6⟩ := hSw; go_simp); with_reducible rfl
 try simp only [sxA, sxB, sxC, Act.put, sxD, sxE, sxF]
 refine tkA (i := 9) (v := ?_) rfl (fun _ _ _ h => h) (Or.inl ⟨by rfl, ?yl⟩) (by assumption) ?_
 case yl => (intro w hSw; (try dsimp only at hSw); obtain ⟨k1, k2, k3, k4, k5, k6⟩ := hSw; go_simp); with_reducible rfl
 try simp only [sxA, sxB, sxC, Act.put, sxD, sxE, sxF]
 refine tkA (i := 10) (v := ?_) rfl (fun _ _ _ h => h) (Or.inl ⟨by rfl, ?yl⟩) (by assumption) ?_
 case yl => (intro w hSw; (try dsimp only at hSw); obtain ⟨k1, k2, k3, k4, k5, k6⟩ := hSw; go_simp); with_reducible rfl
 try simp only [sxA, sxB, sxC, Act.put, sxD, sxE, sxF]
 refine tkA (i := 11) (v := ?_) rfl (fun _ _ _ h => h) (Or.inl ⟨by rfl, ?yl⟩) (by assumption) ?_
 case yl => (intro w hSw; (try dsimp only at hSw); obtain ⟨k1, k2, k3, k4, k5, k6⟩ := hSw; go_simp); with_reducible rfl
 try simp only [sxA, sxB, sxC, Act.put, sxD, sxE, sxF]
 refine tkA (i := 12) (v := ?_) rfl (fun _ _ _ h => h) (Or.inl ⟨by rfl, ?yl⟩) (by assumption) ?_
 case yl => (intro w hSw; (try dsimp only at hSw); obtain ⟨k1, k2, k3, k4, k5, k6⟩ := hSw; go_simp); with_reducible rfl
 try simp only [sxA, sxB, sxC, Act.put, sxD, sxE, sxF]
 refine tkA (i := 13) (v := ?_) rfl (fun _ _ _ h => h) (Or.inl ⟨by rfl, ?yl⟩) (by assumption) ?_
 case yl => (intro w hSw; (try dsimp only at hSw); obtain ⟨k1, k2, k3, k4, k5, k6⟩ := hSw; go_simp); with_reducible rfl
 try simp only [sxA, sxB, sxC, Act.put, sxD, sxE, sxF]
 refine tkA (i := 14) (v := ?_) rfl (fun _ _ _ h => h) (Or.inl ⟨by rfl, ?yl⟩) (by assumption) ?_
 case yl => (intro w hSw; (try dsimp only at hSw); obtain ⟨k1, k2, k3, k4, k5, k6⟩ := hSw; go_simp); with_reducible rfl
 try simp only [sxA, sxB, sxC, Act.put, sxD, sxE, sxF]
 refine tkA (i := 15) (v := ?_) rfl (fun _ _ _ h => h) (Or.inl ⟨by rfl, ?yl⟩) (by assumption) ?_
 case yl => (intro w hSw; (try dsimp only at hSw); obtain ⟨k1, k2, k3, k4, k5, k6⟩ := hSw; go_simp); with_reducible rfl
 try simp only [sxA, sxB, sxC, Act.put, sxD, sxE, sxF]
 refine tkA (i := 16) (v := ?_) rfl (fun _ _ _ h => h) (Or.inl ⟨by rfl, ?yl⟩) (by assumption) ?_
 case yl => (intro w hSw; (try dsimp only at hSw); obtain ⟨k1, k2, k3, k4, k5, k6⟩ := hSw; go_simp); with_reducible rfl
 try simp only [sxA, sxB, sxC, Act.put, sxD, sxE, sxF]
 refine tkA (i := 17) (v := ?_) rfl (fun _ _ _ h => h) (Or.inl ⟨by rfl, ?yl⟩) (by assumption) ?_
 case yl => (intro w hSw; (try dsimp only at hSw); obtain ⟨k1, k2, k3, k4, k5, k6⟩ := hSw; go_simp); with_reducible rfl
 try simp only [sxA, sxB, sxC, Act.put, sxD, sxE, sxF]
 refine tkA (i := 18) (v := ?_) rfl (fun _ _ _ h => h) (Or.inl ⟨by rfl, ?yl⟩) (by assumption) ?_
 case yl => (intro w hSw; (try dsimp only at hSw); obtain ⟨k1, k2, k3, k4, k5, k6⟩ := hSw; go_simp); with_reducible rfl
 try simp only [sxA, sxB, sxC, Act.put, sxD, sxE, sxF]
 refine tkA (i := 19) (v := ?_) rfl (fun _ _ _ h => h) (Or.inl ⟨by rfl, ?yl⟩) (by assumption) ?_
 case yl => (intro w hSw; (try dsimp only at hSw); obtain ⟨k1, k2, k3, k4, k5, k6⟩ := hSw; go_simp); with_reducible rfl
 try simp only [sxA, sxB, sxC, Act.put, sxD, sxE, sxF]
 refine tkA (i := 20) (v := ?_) rfl (fun _ _ _ h => h) (Or.inl ⟨by rfl, ?yl⟩) (by assumption) ?_
 case yl => (intro w hSw; (try dsimp only at hSw); obtain ⟨k1, k2, k3, k4, k5, k6⟩ := hSw; go_simp); with_reducible rfl
 try simp only [sxA, sxB, sxC, Act.put, sxD, sxE, sxF]
 refine tkA (i := 21) (v := ?_) rfl (fun _ _ _ h => h) (Or.inl ⟨by rfl, ?yl⟩) (by assumption) ?_
 case yl => (intro w hSw; (try dsimp only at hSw); obtain ⟨k1, k2, k3, k4, k5, k6⟩ := hSw; go_simp); with_reducible rfl
 try simp only [sxA, sxB, sxC, Act.put, sxD, sxE, sxF]
 refine tkA (i := 22) (v := ?_) rfl (fun _ _ _ h => h) (Or.inl ⟨by rfl, ?yl⟩) (by assumption) ?_
 case yl => (intro w hSw; (try dsimp only at hSw); obtain ⟨k1, k2, k3, k4, k5, k6⟩ := hSw; go_simp); with_reducible rfl
 try simp only [sxA, sxB, sxC, Act.put, sxD, sxE, sxF]
 refine tkA (i := 23) (v := ?_) rfl (fun _ _ _ h => h) (Or.inl ⟨by rfl, ?yl⟩) (by assumption) ?_
 case yl => (intro w hSw; (try dsimp only at hSw); obtain ⟨k1, k2, k3, k4, k5, k6⟩ := hSw; go_simp); with_reducible rfl
 try simp only [sxA, sxB, sxC, Act.put, sxD, sxE, sxF]
 refine wpAnyH_ready (rs := [24]) (by kernel_rfl) (by simp) ?_
 refine AllReadyH.cons (o := _) rfl (fun K hK => ?_) AllReadyH.nil
 go_simp
 refine hK.out _ _ ⟨far2 r_bx0 n1.out, far2 r_bx1 n1.out, far2 r_by0 n2.out, far2 r_by1 n2.out, far2 r_bz0 n3.out, far2 r_bz1 n3.out⟩ (fun hHeld => ?_)
 clear hK K
 try simp only [sxA, sxB, sxC, Act.put, sxD, sxE, sxF]
 refine tkA (i := 25) (v := ?_) rfl (fun _ _ _ h => h) (Or.inl ⟨by rfl, ?yl⟩) (by assumption) ?_
 case yl => (intro w hSw; (try dsimp only at hSw); obtain ⟨k1, k2, k3, k4, k5, k6⟩ := hSw; go_simp); with_reducible rfl
 try simp only [sxA, sxB, sxC, Act.put, sxD, sxE, sxF]
 refine tkA (i := 26) (v := ?_) rfl (fun _ _ _ h => h) (Or.inl ⟨by rfl, ?yl⟩) (by assumption) ?_
 case yl => (intro w hSw; (try dsimp only at hSw); obtain ⟨k1, k2, k3, k4, k5, k6⟩ := hSw; go_simp); with_reducible rfl
 try simp only [sxA, sxB, sxC, Act.put, sxD, sxE, sxF]
 refine tkA (i := 27) (v := ?_) rfl (fun _ _ _ h => h) (Or.inl ⟨by rfl, ?yl⟩) (by assumption) ?_
 case yl => (intro w hSw; (try dsimp only at hSw); obtain ⟨k1, k2, k3, k4, k5, k6⟩ := hSw; go_simp); with_reducible rfl
 try simp only [sxA, sxB, sxC, Act.put, sxD, sxE, sxF]
 refine wpAnyH_done (by kernel_rfl) ?_ _
 try simp only [sxA, sxB, sxC, Act.put, sxD, sxE, sxF]
 go_wp2_with fail
 refine bodyPost_ret (v := .tuple #[.agg #[.int .i64 sn, .int .i64 sd], .slice (some ⟨gr, 0, none⟩) m cr, .slice (some ⟨gk, 0, none⟩) n ck, .bool true]) ?_ rfl ?_
 ·simp [results, Try.results41, go_sem, *]
 ·exact ⟨_, cr, _, ck, rfl, ((lr.out.put (fun e => zlr.out e.symm) _).put (fun e => zlr.out e.symm) _), ((lk.out.put (fun e => zlk.out e.symm) _).put (fun e => zlk.out e.symm) _), (X.out.drew.setCell (by simp; omega) _).setCell (by simp; omega) _⟩

end Go.Proofs.Ytommhgcgaclflaa
namespace Go.Proofs.Ytommhgcgaclflaa
set_option linter.unusedVariables false
set_option linter.unusedSimpArgs false
set_option linter.unusedSectionVars false
set_option linter.unnecessarySimpa false
open Go Go.RowKit Game

theorem rat_neg (a b : Int) : ratN (-a) b = - ratN a b ∧ ratD (-a) b = ratD a b := by
 have e : Int.gcd (-a) b = Int.gcd a b := by simp [Int.gcd]
 unfold ratN ratD
 rw [e]
 exact ⟨Int.neg_ediv_of_dvd (Int.gcd_dvd_left ..), rfl⟩
theorem bd_small {t : List (List Int)} (v : VldT t) {k : List Int} (vk : VldP k (wid t)) :
 1 ≤ sureD (turn t) k ∧ sureD (turn t) k ≤ 400000000 ∧ -100 * sureD (turn t) k ≤ -sureN (turn t) k ∧ -sureN (turn t) k ≤ 100 * sureD (turn t) k ∧ ratN (-sureN (turn t) k) (sureD (turn t) k) = -sureN (turn t) k ∧ ratD (-sureN (turn t) k) (sureD (turn t) k) = sureD (turn t) k := by
 have vk2 : VldP k (turn t).length := by rw [turn_len]; exact vk
 obtain ⟨h1, h2, h3, h4, h5, h6⟩ := su_small (turn_vld v) vk2
 obtain ⟨e1, e2⟩ := rat_neg (sureN (turn t) k) (sureD (turn t) k)
 exact ⟨h1, h2, by omega, by omega, by rw [e1, h5], by rw [e2, h6]⟩
theorem mul64 {a b : Int} {A B : Int} (ha : -A ≤ a ∧ a ≤ A) (hb : 0 ≤ b ∧ b ≤ B) (hA : 0 ≤ A) (h : A * B ≤ 9000000000000000000) : I64 (a * b) := by
 have hAb : A * b ≤ A * B := Int.mul_le_mul_of_nonneg_left hb.2 hA
 have h1 : a * b ≤ A * b := Int.mul_le_mul_of_nonneg_right ha.2 hb.1
 have h2 : -A * b ≤ a * b := Int.mul_le_mul_of_nonneg_right ha.1 hb.1
 rw [Int.neg_mul] at h2
 exact ⟨by omega, by omega⟩
theorem proved_facts {t : List (List Int)} (g : chkT t = 0) {p k : List Int} (vp : VldP p t.length) (vk : VldP k (wid t)) :
 (sureNE t p = sureN t p ∧ sureDE t p = sureD t p ∧ sureE t p = 0) ∧ (boundNE t k = -sureN (turn t) k ∧ boundDE t k = sureD (turn t) k ∧ boundE t k = 0) ∧
 (val t).1 * sureD t p ≥ sureN t p * (val t).2 ∧ (-sureN (turn t) k) * (val t).2 ≥ (val t).1 * sureD (turn t) k ∧
 (proofE t p k ≠ 0 → proofE t p k = 14 ∧ ¬ (sureN t p = -sureN (turn t) k ∧ sureD t p = sureD (turn t) k)) ∧
 (proofE t p k = 0 → (sureN t p = -sureN (turn t) k ∧ sureD t p = sureD (turn t) k) ∧ proofN t p k = (val t).1 ∧ proofD t p k = (val t).2) := by
 have v := chkT_ok.1 g
 have v2 := turn_vld v
 have vk2 : VldP k (turn t).length := by rw [turn_len]; exact vk
 have s1 : sureE t p = 0 := sureE_ok.2 ⟨v, vp⟩
 have s2 : boundE t k = 0 := by
  unfold boundE
  rw [if_neg (by simp [g])]
  exact planE_ok.2 vk
 have a1 : sureNE t p = sureN t p := if_pos s1
 have a2 : sureDE t p = sureD t p := if_pos s1
 have b1 : boundNE t k = -sureN (turn t) k := if_pos s2
 have b2 : boundDE t k = sureD (turn t) k := if_pos s2
 have l1 : sureN t p * (val t).2 ≤ (val t).1 * sureD t p := val_le v vp.pln
 have l2 : sureN (turn t) k * (val (turn t)).2 ≤ (val (turn t)).1 * sureD (turn t) k := val_le v2 vk2.pln
 rw [val_turn v] at l2
 dsimp only at l2
 rw [Int.neg_mul] at l2
 have l3 : (-sureN (turn t) k) * (val t).2 ≥ (val t).1 * sureD (turn t) k := by rw [Int.neg_mul]; omega
 have hE : proofE t p k = if sureN t p = -sureN (turn t) k ∧ sureD t p = sureD (turn t) k then 0 else 14 := by
  unfold proofE
  rw [if_neg (by simp [s1]), if_neg (by simp [s2]), a1, a2, b1, b2]
 refine ⟨⟨a1, a2, s1⟩, ⟨b1, b2, s2⟩, l1, l3, fun h => ?_, fun h => ?_⟩
 ·by_cases e : sureN t p = -sureN (turn t) k ∧ sureD t p = sureD (turn t) k
  ·rw [hE, if_pos e] at h; exact absurd rfl h
  ·exact ⟨by rw [hE, if_neg e], e⟩
 ·by_cases e : sureN t p = -sureN (turn t) k ∧ sureD t p = sureD (turn t) k
  ·refine ⟨e, ?_⟩
   have hs := bestL_su v
   have l4 : leF (suP t (bestL t)) (suP t p) := by
    rw [hs]
    show (val t).1 * sureD t p ≤ sureN t p * (val t).2
    rw [e.1, e.2]; exact l3
   have l5 : leF (suP t p) (suP t (bestL t)) := by rw [hs]; exact l1
   have he := leF_anti vp.ps (bestL_vld v).ps l5 l4
   rw [hs] at he
   exact ⟨(if_pos h).trans (a1.trans (congrArg Prod.fst he)), (if_pos h).trans (a2.trans (congrArg Prod.snd he))⟩
  ·rw [hE, if_neg e] at h; omega

end Go.Proofs.Ytommhgcgaclflaa
