/- The law SearchMixed, walked. (Printed by wip/laws.) -/
import Derived.Test.YtommhgcgaclflaaZB7
import Derived.Test.YtommhgcgaclflaaMxf
import Derived.Test.YtommhgcgaclflaaMemG
namespace Go.Proofs.Ytommhgcgaclflaa
set_option linter.unusedVariables false
set_option linter.unusedSimpArgs false
set_option linter.unusedSectionVars false
set_option linter.unnecessarySimpa false
open Go Go.RowKit Game
set_option maxRecDepth 100000

set_option maxHeartbeats 8000000 in
theorem searchMixed_any (t : List (List Int)) (q : FitT t) (a : Option Addr) (cap : Nat) (r : List Int) (hr : ∀ i, 0 ≤ nth r i ∧ nth r i ≤ 65535) (a2 : Option Addr) (c2 : Nat) (k : List Int) (hk : ∀ i, 0 ≤ nth k i ∧ nth k i ≤ 65535) (a3 : Option Addr) (c3 : Nat) (w : World) (hT : Tab w a t) (hl : t.length ≤ 9223372036854775807) (hw : ∀ i, (row t i).length ≤ 9223372036854775807) (hI : Wrds w a2 r) (hrl : r.length ≤ 9223372036854775807) (hJ : Wrds w a3 k) (hkl : k.length ≤ 9223372036854775807) :
 Calls Try.prog 10 #[(.agg #[.slice a t.length cap]), .slice a2 r.length c2, .slice a3 k.length c3] w fun e w' => e = .returned (.bool true) ∧ Ext w w' := by
 have hT' := hid hT
 have hI' := hid hI
 have hJ' := hid hJ
 have hfi := hid (fun W hW => fineL_any t q a cap W hW hl hw)
 by_cases g : chkT t = 0
 case neg =>
  rw [decide_eq_false g] at hfi
  replace g := hid g
  clear hT hw hl
  go_enter Try.func10, Try.ntmps10
  go_wp2_with fail
  refine (hfi.out _ (hT'.out.ext (by repeat (with_reducible first | assumption | exact Ext.refl _ | refine Ext.drew ?_ | refine Ext.drewN ?_ _ | refine Ext.alloc ?_ _ | refine xS ?_ _ | refine xT ?_ (by assumption))))).mono ?_; rintro e w1 ⟨rfl, hE⟩
  go_wp2_with fail
  refine (works_any _).mono ?_; rintro e w2 ⟨rfl, hE2⟩
  go_wp2_with fail
  go_ret
  exact ⟨rfl, (by repeat (with_reducible first | assumption | exact Ext.refl _ | refine Ext.drew ?_ | refine Ext.drewN ?_ _ | refine Ext.alloc ?_ _ | refine xS ?_ _ | refine xT ?_ (by assumption)))⟩
 case pos =>
  rw [decide_eq_true g] at hfi
  by_cases g2 : (10 : Int) < (r.length : Int)
  ·have g' := hid g
   clear hT hw hl g
   go_enter Try.func10, Try.ntmps10
   go_wp2_with fail
   refine (hfi.out _ (hT'.out.ext (by repeat (with_reducible first | assumption | exact Ext.refl _ | refine Ext.drew ?_ | refine Ext.drewN ?_ _ | refine Ext.alloc ?_ _ | refine xS ?_ _ | refine xT ?_ (by assumption))))).mono ?_; rintro e w1 ⟨rfl, hE⟩
   go_wp2_with fail
   refine (works_any _).mono ?_; rintro e w2 ⟨rfl, hE2⟩
   go_wp2_with fail
   go_ret
   exact ⟨rfl, (by repeat (with_reducible first | assumption | exact Ext.refl _ | refine Ext.drew ?_ | refine Ext.drewN ?_ _ | refine Ext.alloc ?_ _ | refine xS ?_ _ | refine xT ?_ (by assumption)))⟩
  ·by_cases g3 : (10 : Int) < (k.length : Int)
   ·have g' := hid g
    clear hT hw hl g
    go_enter Try.func10, Try.ntmps10
    go_wp2_with fail
    refine (hfi.out _ (hT'.out.ext (by repeat (with_reducible first | assumption | exact Ext.refl _ | refine Ext.drew ?_ | refine Ext.drewN ?_ _ | refine Ext.alloc ?_ _ | refine xS ?_ _ | refine xT ?_ (by assumption))))).mono ?_; rintro e w1 ⟨rfl, hE⟩
    go_wp2_with fail
    refine (works_any _).mono ?_; rintro e w2 ⟨rfl, hE2⟩
    go_wp2_with fail
    go_ret
    exact ⟨rfl, (by repeat (with_reducible first | assumption | exact Ext.refl _ | refine Ext.drew ?_ | refine Ext.drewN ?_ _ | refine Ext.alloc ?_ _ | refine xS ?_ _ | refine xT ?_ (by assumption)))⟩
   ·have v := chkT_ok.1 g
    have m1 := v.m1; have m4 := v.m4; have n1 := v.n1; have n4 := v.n4
    have hl1 : t.length ≤ 1000 := by omega
    have hw1 := hw_of v
    have vp := pln_vld hr m1
    have vq := pln_vld hk m1
    have vk : VldP (bestL (turn t)) (wid t) := by have h := bestL_vld (turn_vld v); rwa [turn_len] at h
    have bp := pln_bd (m := t.length) hr
    have bq := pln_bd (m := t.length) hk
    have vz := mix_vld vp vq (fun i => by have := (bp i).2; omega) (fun i => by have := (bq i).2; omega)
    have vb := bestL_vld v
    have vc := cap_vld vp vb
    obtain ⟨⟨f1, f2, f3⟩, -⟩ := proved_facts g vp vk
    obtain ⟨⟨f4, f5, f6⟩, -⟩ := proved_facts g vq vk
    obtain ⟨⟨f7, f8, f9⟩, -⟩ := proved_facts g vz vk
    obtain ⟨⟨f10, f11, f12⟩, -⟩ := proved_facts g vc vk
    obtain ⟨x1, x2, x3, x4, x5, x6⟩ := su_small v vp
    obtain ⟨y1, y2, y3, y4, y5, y6⟩ := su_small v vq
    obtain ⟨z1, z2, z3, z4, z5, z6⟩ := su_small v vz
    have xd := su_den vp m4 fun i => by have := (bp i).2; omega
    have yd := su_den vq m4 fun i => by have := (bq i).2; omega
    have zd := su_den vz m4 fun i => by
     rcases Nat.lt_or_ge i t.length with g | g
     ·rw [mixL_nth g]; have := (bp i).2; have := (bq i).2; omega
     ·rw [mixL_out g]; omega
    have hle := mix_le v vp.pln vq.pln
    have hbe := hid (fun ep hs => cap_best v vp (fun i => (bp i).2) ep hs)
    unfold leF suP at hle
    dsimp only at hle
    have i64p : ∀ p : List Int, VldP p t.length → ∀ i, I64 (nth p i) := fun p vp i => by have h1 := vp.nn i; have h2 := vp.le i; exact ⟨by omega, by omega⟩
    have e1 := pln_len t.length r
    have e2 := pln_len t.length k
    have e3 := vz.len
    have e4 := vc.len
    obtain ⟨b, off, rfl, hb, -⟩ := hT.at (by omega)
    have h1 := hid (fun W hW => valueL_any t q g (some ⟨b, off, none⟩) cap W hW)
    have h2 := hid (fun W hW => plannedL_any t.length m4 r hr hrl a2 c2 W hW)
    have h3 := hid (fun W hW => plannedL_any t.length m4 k hk hkl a3 c3 W hW)
    have h4 := hid (fun aa cc W hW hK => sureP_any t q (some ⟨b, off, none⟩) cap (pln t.length r) (i64p _ vp) (by omega) aa cc W hW hl1 hw1 hK)
    have h5 := hid (fun aa cc W hW hK => sureP_any t q (some ⟨b, off, none⟩) cap (pln t.length k) (i64p _ vq) (by omega) aa cc W hW hl1 hw1 hK)
    have h6 := hid (fun aa cc W hW hK => sureP_any t q (some ⟨b, off, none⟩) cap (mixL t.length (pln t.length r) (pln t.length k)) (i64p _ vz) (by omega) aa cc W hW hl1 hw1 hK)
    have h7 := hid (fun aa cc W hW hK => sureP_any t q (some ⟨b, off, none⟩) cap (capL t.length (pln t.length r) (bestL t)) (i64p _ vc) (by omega) aa cc W hW hl1 hw1 hK)
    have s1 := hid (fun W => smallL_any _ _ x1 x2 x3 x4 x5 x6 W)
    have s2 := hid (fun W => smallL_any _ _ y1 y2 y3 y4 y5 y6 W)
    have s3 := hid (fun W => smallL_any _ _ z1 z2 z3 z4 z5 z6 W)
    have hsu := hid (fun aa cc W hW => sumL_any (bestL t) (fun i => ⟨vb.nn i, vb.le i⟩) (by rw [vb.len]; omega) aa cc W hW)
    have e5 := vb.len
    have i1 := mul64 (a := sureN t (mixL t.length (pln t.length r) (pln t.length k))) (b := sureD t (pln t.length r)) (A := 52428000) (B := 524280) (by omega) (by omega) (by omega) (by omega)
    have i2 := mul64 (a := sureN t (pln t.length r)) (b := sureD t (mixL t.length (pln t.length r) (pln t.length k))) (A := 52428000) (B := 524280) (by omega) (by omega) (by omega) (by omega)
    have i3 := mul64 (a := sureN t (mixL t.length (pln t.length r) (pln t.length k))) (b := sureD t (pln t.length k)) (A := 52428000) (B := 524280) (by omega) (by omega) (by omega) (by omega)
    have i4 := mul64 (a := sureN t (pln t.length k)) (b := sureD t (mixL t.length (pln t.length r) (pln t.length k))) (A := 52428000) (B := 524280) (by omega) (by omega) (by omega) (by omega)
    have h8 := hid (fun W => lessR_any _ _ _ _ i1 i2 W)
    have h9 := hid (fun W => lessR_any _ _ _ _ i3 i4 W)
    unfold lessB at h8 h9
    have hmx : mixL t.length (pln t.length r) (pln t.length k) = mkL t.length (fun i => nth (pln t.length r) i + nth (pln t.length k) i) := rfl
    have hcp : capL t.length (pln t.length r) (bestL t) = mkL t.length (fun i => min 100000000 (nth (pln t.length r) i + nth (bestL t) i)) := rfl
    have bb : ∀ i, 0 ≤ nth (bestL t) i ∧ nth (bestL t) i ≤ 100000000 := fun i => ⟨vb.nn i, vb.le i⟩
    rw [f1, f2, f3, e1] at h4
    rw [f4, f5, f6, e2] at h5
    rw [f7, f8, f9, e3] at h6
    rw [f10, f11, f12, e4] at h7
    rw [e5] at hsu
    unfold RetI at h2 h3
    rw [e1] at h2
    rw [e2] at h3
    obtain ⟨vn, hvn⟩ : ∃ x, (val t).1 = x := ⟨_, rfl⟩
    obtain ⟨vd, hvd⟩ : ∃ x, (val t).2 = x := ⟨_, rfl⟩
    obtain ⟨wn, hwn⟩ : ∃ x, sureN t (capL t.length (pln t.length r) (bestL t)) = x := ⟨_, rfl⟩
    obtain ⟨wd, hwd⟩ : ∃ x, sureD t (capL t.length (pln t.length r) (bestL t)) = x := ⟨_, rfl⟩
    obtain ⟨zn, hzn⟩ : ∃ x, sureN t (mixL t.length (pln t.length r) (pln t.length k)) = x := ⟨_, rfl⟩
    obtain ⟨zd, hzd⟩ : ∃ x, sureD t (mixL t.length (pln t.length r) (pln t.length k)) = x := ⟨_, rfl⟩
    obtain ⟨xn, hxn⟩ : ∃ x, sureN t (pln t.length r) = x := ⟨_, rfl⟩
    obtain ⟨xd, hxd⟩ : ∃ x, sureD t (pln t.length r) = x := ⟨_, rfl⟩
    obtain ⟨yn, hyn⟩ : ∃ x, sureN t (pln t.length k) = x := ⟨_, rfl⟩
    obtain ⟨yd, hyd⟩ : ∃ x, sureD t (pln t.length k) = x := ⟨_, rfl⟩
    obtain ⟨ps, hps⟩ : ∃ x, psum (bestL t) = x := ⟨_, rfl⟩
    have hbe2 : Hid (xn = vn ∧ xd = vd → ps ≤ 99934464 → wn = vn ∧ wd = vd) := hid (by
     rintro ⟨u1, u2⟩ u3
     have h := hbe.out (Prod.ext (hxn.trans (u1.trans hvn.symm)) (hxd.trans (u2.trans hvd.symm))) (by rw [hps]; exact u3)
     exact ⟨hwn.symm.trans ((congrArg Prod.fst h).trans hvn), hwd.symm.trans ((congrArg Prod.snd h).trans hvd)⟩)
    rw [hvn, hvd] at h1
    rw [hxn, hxd] at h4 s1
    rw [hyn, hyd] at h5 s2
    rw [hzn, hzd] at h6 s3
    rw [hwn, hwd] at h7
    rw [hzn, hxd, hxn, hzd] at h8
    rw [hzn, hyd, hyn, hzd] at h9
    rw [hxn, hzd, hzn, hxd, hyn, hyd] at hle
    rw [hps] at hsu
    replace hle := hid hle
    obtain ⟨pl, hpl⟩ : ∃ x, pln t.length r = x := ⟨_, rfl⟩
    obtain ⟨ql, hql⟩ : ∃ x, pln t.length k = x := ⟨_, rfl⟩
    obtain ⟨rl, hrl2⟩ : ∃ x, bestL t = x := ⟨_, rfl⟩
    rw [hpl] at h2 h4 bp e1 hmx hcp h6 h7
    rw [hql] at h3 h5 bq e2 hmx h6
    rw [hrl2] at h1 hsu bb e5 hcp h7
    obtain ⟨bl, hbl⟩ : ∃ x, mixL t.length pl ql = x := ⟨_, rfl⟩
    obtain ⟨cl, hcl⟩ : ∃ x, capL t.length pl rl = x := ⟨_, rfl⟩
    rw [hbl] at h6 hmx
    rw [hcl] at h7 hcp
    obtain ⟨F, hF⟩ : ∃ F : Nat → Int, (fun i => nth pl i + nth ql i) = F := ⟨_, rfl⟩
    obtain ⟨G, hG⟩ : ∃ F : Nat → Int, (fun i => min 100000000 (nth pl i + nth rl i)) = F := ⟨_, rfl⟩
    rw [hF] at hmx
    rw [hG] at hcp
    have HF := hid (fun i => congrFun hF i)
    have HG := hid (fun i => congrFun hG i)
    obtain ⟨m, hm⟩ : ∃ x, t.length = x := ⟨_, rfl⟩
    obtain ⟨n, hn⟩ : ∃ x, wid t = x := ⟨_, rfl⟩
    rw [hm] at h1 h2 h3 h4 h5 h6 h7 hfi m1 m4 hmx hcp e1 e2 e5 hsu ⊢
    rw [hn] at h1
    replace hmx := hid hmx
    replace hcp := hid hcp
    replace bp := hid bp
    replace bq := hid bq
    replace bb := hid bb
    replace e1 := hid e1
    replace e2 := hid e2
    replace e5 := hid e5
    clear hT hw hl hl1 hw1 vp vq vk vz vb vc hbe f1 f2 f3 f4 f5 f6 f7 f8 f9 f10 f11 f12 x1 x2 x3 x4 x5 x6 y1 y2 y3 y4 y5 y6 z1 z2 z3 z4 z5 z6 ‹sureD t (pln t.length r) ≤ 524280› ‹sureD t (pln t.length k) ≤ 524280› ‹sureD t (mixL t.length (pln t.length r) (pln t.length k)) ≤ 524280› i64p e3 e4 i1 i2 i3 i4 hvn hvd hwn hwd hzn hzd hxn hxd hyn hyd hps hpl hql hrl2 hbl hcl hF hG hm hn v g n1 n4 hb hI hJ hr hk hrl hkl
    go_enter Try.func10, Try.ntmps10
    go_wp2_with fail
    refine (hfi.out _ (hT'.out.ext (by repeat (with_reducible first | assumption | exact Ext.refl _ | refine Ext.drew ?_ | refine Ext.drewN ?_ _ | refine Ext.alloc ?_ _ | refine xS ?_ _ | refine xT ?_ (by assumption))))).mono ?_; rintro e w1 ⟨rfl, hE⟩
    have mt0 := hid (hE.cell (p := ⟨w.heap.size, 0, none⟩) (v := .slice (some ⟨b, off, none⟩) m cap) (by simp [go_sem]))
    have X := hid (show Ext w w1 from (by repeat (with_reducible first | assumption | exact Ext.refl _ | refine Ext.drew ?_ | refine Ext.drewN ?_ _ | refine Ext.alloc ?_ _ | refine xS ?_ _ | refine xT ?_ (by assumption))))
    clear hE
    generalize w.heap.size = Bt at *
    have r_mt0 := mt0.out
    have l_mt0 := cell_lt r_mt0
    dsimp only at l_mt0
    go_wp2_with fail
    refine (h1.out _ (hT'.out.ext (X.out.trans (show Ext w1 _ from (by repeat (with_reducible first | assumption | exact Ext.refl _ | refine Ext.drew ?_ | refine Ext.drewN ?_ _ | refine Ext.alloc ?_ _ | refine xS ?_ _ | refine xT ?_ (by assumption))))))).mono ?_; rintro e u1 ⟨ar, cr, aw, cw, rfl, lr_, lw_, hE⟩
    have x : Ext w1 u1 := (by repeat (with_reducible first | assumption | exact Ext.refl _ | refine Ext.drew ?_ | refine Ext.drewN ?_ _ | refine Ext.alloc ?_ _ | refine xS ?_ _ | refine xT ?_ (by assumption)))
    clear r_mt0 l_mt0
    replace mt0 := hid (x.cell mt0.out)
    replace X := hid (X.out.trans x)
    have lr := hid lr_
    clear lr_
    have lw := hid lw_
    clear lw_
    clear x hE
    clear lw
    have r_mt0 := mt0.out
    have l_mt0 := cell_lt r_mt0
    dsimp only at l_mt0
    go_wp2_with fail
    refine name_wp (fun v2 hw => ?_)
    have x : Ext u1 v2 := by rw [hw]; exact (by repeat (with_reducible first | assumption | exact Ext.refl _ | refine Ext.drew ?_ | refine Ext.drewN ?_ _ | refine Ext.alloc ?_ _ | refine xS ?_ _ | refine xT ?_ (by assumption)))
    have bv0 := hid (show v2.cell? ⟨u1.heap.size, 0, none⟩ = some (.int .i64 vn) by rw [hw]; simp [go_sem])
    have bv1 := hid (show v2.cell? ⟨u1.heap.size, 1, none⟩ = some (.int .i64 vd) by rw [hw]; simp [go_sem])
    clear r_mt0 l_mt0
    replace mt0 := hid (x.cell mt0.out)
    replace lr := hid (lr.out.ext x)
    replace X := hid (X.out.trans x)
    clear x hw
    generalize u1.heap.size = Bbv at *
    have q0 := mt0.out
    refine name_act (fun A_ hA_ => ?_)
    obtain ⟨Q2, hQ2⟩ : ∃ Q2 : Exit → Act → World → Prop, Q2 = fun e a' w' => e = .normal ∧ ∃ (ap : Option Addr) (cp : Nat) (ak : Option Addr) (ck : Nat) (v0_ v1_ v2_ v3_ v5_ v6_ v7_ v8_ : Value), a' = ((((((((((((A_.put (some 45) (v0_)).put (some 46) (v1_)).put (some 47) (v2_)).put (some 48) (v3_)).put (some 49) (.slice ap m cp)).put (some 50) (v5_)).put (some 51) (v6_)).put (some 52) (v7_)).put (some 53) (v8_)).put (some 54) (.slice ak m ck)).put (some 11) (.slice ap m cp)).put (some 12) (.slice ak m ck)) ∧ Ext v2 w' ∧ Ints w' ap pl ∧ Ints w' ak ql := ⟨_, rfl⟩
    have hpan : ∀ c a a' w w', Q2 (.panic c) a w → Q2 (.panic c) a' w' := by rw [hQ2]; rintro c a a' w w' ⟨h, _⟩; cases h
    replace hQ2 := hid hQ2
    refine wp_mono (Q := Q2) ?_ ?_
    ·subst hA_
     refine wp_region_held_drew (S := fun w' => Ext v2 w') (by kernel_rfl) (by repeat (with_reducible first | assumption | exact Ext.refl _ | refine Ext.drew ?_ | refine Ext.drewN ?_ _ | refine Ext.alloc ?_ _ | refine xS ?_ _ | refine xT ?_ (by assumption))) fun hHeld => ?_
     refine name_any (fun W0 hW => ?_)
     have s0 : Ext v2 W0 := by rw [hW]; exact hHeld
     clear hW hHeld
     refine tkA (i := 0) (v := ?_) rfl (fun c a w h => hpan c _ _ _ _ h) (Or.inl ⟨by rfl, ?yl⟩) (by assumption) ?_
     case yl => (intro w hSw; (try dsimp only at hSw); have k_0 := Ext.cell hSw q0; go_simp); with_reducible rfl
     try simp only [sxA, sxB, sxC, Act.put, sxD, sxE, sxF]
     refine tkA (i := 1) (v := ?_) rfl (fun c a w h => hpan c _ _ _ _ h) (Or.inl ⟨by rfl, ?yl⟩) (by assumption) ?_
     case yl => (intro w hSw; (try dsimp only at hSw); have k_0 := Ext.cell hSw q0; go_simp); with_reducible rfl
     try simp only [sxA, sxB, sxC, Act.put, sxD, sxE, sxF]
     refine tkA (i := 2) (v := ?_) rfl (fun c a w h => hpan c _ _ _ _ h) (Or.inl ⟨by rfl, ?yl⟩) (by assumption) ?_
     case yl => (intro w hSw; (try dsimp only at hSw); have k_0 := Ext.cell hSw q0; go_simp); with_reducible rfl
     try simp only [sxA, sxB, sxC, Act.put, sxD, sxE, sxF]
     refine tkA (i := 3) (v := ?_) rfl (fun c a w h => hpan c _ _ _ _ h) (Or.inl ⟨by rfl, ?yl⟩) (by assumption) ?_
     case yl => (intro w hSw; (try dsimp only at hSw); have k_0 := Ext.cell hSw q0; go_simp); with_reducible rfl
     try simp only [sxA, sxB, sxC, Act.put, sxD, sxE, sxF]
     refine tkA (i := 5) (v := ?_) rfl (fun c a w h => hpan c _ _ _ _ h) (Or.inl ⟨by rfl, ?yl⟩) (by assumption) ?_
     case yl => (intro w hSw; (try dsimp only at hSw); have k_0 := Ext.cell hSw q0; go_simp); with_reducible rfl
     try simp only [sxA, sxB, sxC, Act.put, sxD, sxE, sxF]
     refine tkA (i := 6) (v := ?_) rfl (fun c a w h => hpan c _ _ _ _ h) (Or.inl ⟨by rfl, ?yl⟩) (by assumption) ?_
     case yl => (intro w hSw; (try dsimp only at hSw); have k_0 := Ext.cell hSw q0; go_simp); with_reducible rfl
     try simp only [sxA, sxB, sxC, Act.put, sxD, sxE, sxF]
     refine tkA (i := 7) (v := ?_) rfl (fun c a w h => hpan c _ _ _ _ h) (Or.inl ⟨by rfl, ?yl⟩) (by assumption) ?_
     case yl => (intro w hSw; (try dsimp only at hSw); have k_0 := Ext.cell hSw q0; go_simp); with_reducible rfl
     try simp only [sxA, sxB, sxC, Act.put, sxD, sxE, sxF]
     refine tkA (i := 8) (v := ?_) rfl (fun c a w h => hpan c _ _ _ _ h) (Or.inl ⟨by rfl, ?yl⟩) (by assumption) ?_
     case yl => (intro w hSw; (try dsimp only at hSw); have k_0 := Ext.cell hSw q0; go_simp); with_reducible rfl
     try simp only [sxA, sxB, sxC, Act.put, sxD, sxE, sxF]
     refine wpAnyH_ready (rs := [4]) (by kernel_rfl) (by simp) ?_
     refine AllReadyH.cons (o := _) rfl (fun K hK => ?_) AllReadyH.nil
     go_simp
     refine (h2.out _ (hI'.out.ext (X.out.trans s0))).mono ?_; rintro e W1 ⟨ap, cp, rfl, hp1_, e1⟩
     have s1 := s0.trans e1
     have hp1 := hid hp1_; clear hp1_
     refine hK.out _ _ s1 (fun _ => ?_)
     clear hK K
     (try simp only [sxA, sxB, sxC, Act.put, sxD, sxE, sxF])
     refine wpAnyH_ready (rs := [9]) (by kernel_rfl) (by simp) ?_
     refine AllReadyH.cons (o := _) rfl (fun K hK => ?_) AllReadyH.nil
     go_simp
     refine (h3.out _ (hJ'.out.ext (X.out.trans s1))).mono ?_; rintro e W2 ⟨ak, ck, rfl, hk1_, e2⟩
     have s2 := s1.trans e2
     have hk1 := hid hk1_; clear hk1_
     refine hK.out _ _ s2 (fun _ => ?_)
     clear hK K
     (try simp only [sxA, sxB, sxC, Act.put, sxD, sxE, sxF])
     refine tkA (i := 10) (v := ?_) rfl (fun c a w h => hpan c _ _ _ _ h) (Or.inl ⟨by rfl, ?yl⟩) (by assumption) ?_
     case yl => (intro w hSw; (try dsimp only at hSw); have k_0 := Ext.cell hSw q0; go_simp); with_reducible rfl
     try simp only [sxA, sxB, sxC, Act.put, sxD, sxE, sxF]
     refine tkA (i := 11) (v := ?_) rfl (fun c a w h => hpan c _ _ _ _ h) (Or.inl ⟨by rfl, ?yl⟩) (by assumption) ?_
     case yl => (intro w hSw; (try dsimp only at hSw); have k_0 := Ext.cell hSw q0; go_simp); with_reducible rfl
     try simp only [sxA, sxB, sxC, Act.put, sxD, sxE, sxF]
     refine wpAnyH_done (by kernel_rfl) ?_ _
     try simp only [sxA, sxB, sxC, Act.put, sxD, sxE, sxF]
     rw [hQ2.out]
     refine ⟨rfl, ap, cp, ak, ck, ?u1_0_1, ?u1_1_1, ?u1_2_1, ?u1_3_1, ?u1_4_1, ?u1_5_1, ?u1_6_1, ?u1_7_1, ?eq1_1, s2, (hp1.out.ext ((Ext.refl W1).trans e2)), (hk1.out.ext (Ext.refl W2))⟩
     case eq1_1 => ((try simp only [sxA, sxB, sxC, Act.put, sxD, sxE, sxF]); first | done | with_reducible rfl | rfl)
    rw [hQ2.out]
    rintro e a' w9 ⟨rfl, ap, cp, ak, ck, v0_, v1_, v2_, v3_, v5_, v6_, v7_, v8_, rfl, x, hp1, hk1⟩
    clear hQ2 hpan; clear Q2
    subst hA_
    simp only [sxA, sxB, sxC, Act.put, sxD, sxE, sxF]
    have lp := hid hp1
    have lq := hid hk1
    clear q0 hp1 hk1
    replace mt0 := hid (x.cell mt0.out)
    replace lr := hid (lr.out.ext x)
    replace bv0 := hid (x.cell bv0.out)
    replace bv1 := hid (x.cell bv1.out)
    replace X := hid (X.out.trans x)
    clear x
    obtain ⟨pb, po, rfl, -, hcp1⟩ := lp.out.at (by rw [e1.out]; omega)
    obtain ⟨qb, qo, rfl, -, hcq1⟩ := lq.out.at (by rw [e2.out]; omega)
    obtain ⟨rb, ro, rfl, -, hcr1⟩ := lr.out.at (by rw [e5.out]; omega)
    rw [e1.out] at hcp1
    rw [e2.out] at hcq1
    rw [e5.out] at hcr1
    replace hcp1 := hid hcp1
    replace hcq1 := hid hcq1
    replace hcr1 := hid hcr1
    have tc9 := mt0.out
    go_wp2_with fail
    clear tc9
    go_loopw [13, 14, 15] (fun v1 v2 i wr => ∃ k : Nat, k ≤ m ∧ i = .int .i64 k ∧ Hid (OwnI wr w9.heap.size 2 v1 (mkL k F)) ∧ Hid (OwnI wr w9.heap.size 2 v2 (mkL k G)) ∧ Hid (Apart v1 v2) ∧ Hid (Ext w9 wr)) (fun _ _ i _ => (m - intOf i).toNat)
    case atStart => exact ⟨0, by omega, rfl, hid (OwnI.nil _ _ _), hid (OwnI.nil _ _ _), hid (fun b h => by cases h), hid (Ext.refl _)⟩
    case round =>
     obtain ⟨k, hk, rfl, ho1, ho2, hap, hx⟩ := hrel
     have tc := hx.out.cell mt0.out
     by_cases hkl : k < m
     ·obtain ⟨w5, rfl⟩ : ∃ w4 : World, w4 = wr := ⟨_, rfl⟩
      have r1 := hx.out.cell (hcp1.out k hkl)
      have r2 := hx.out.cell (hcq1.out k hkl)
      have bx := bp.out k
      have by_ := bq.out k
      have bz := bb.out k
      have hs1 : Hid (mkL (k + 1) F = mkL k F ++ [nth pl k + nth ql k]) := hid (by rw [mkL_snoc, ← HF.out k])
      have hs2 : Hid (mkL (k + 1) G = mkL k G ++ [min 100000000 (nth pl k + nth rl k)]) := hid (by rw [mkL_snoc, ← HG.out k])
      have P3 := hid (hcr1.out k hkl)
      have P1 := hid (hcp1.out k hkl)
      have P2 := hid (hcq1.out k hkl)
      obtain ⟨x, hxe⟩ : ∃ x, nth pl k = x := ⟨_, rfl⟩
      obtain ⟨y, hye⟩ : ∃ x, nth ql k = x := ⟨_, rfl⟩
      obtain ⟨z, hze⟩ : ∃ x, nth rl k = x := ⟨_, rfl⟩
      rw [hxe] at r1 bx hs1 hs2 P1
      rw [hye] at r2 by_ hs1 P2
      rw [hze] at bz hs2 P3
      have z1 := Go.IntWalk.i64_in (x + y) (by omega)
      have z2 := Go.IntWalk.i64_in (x + z) (by omega)
      have u3 := Go.IntWalk.i64_in ((k : Int) + 1) (by omega)
      have hkl2 : (k : Int) < (m : Int) := by omega
      have hsz := hid (Ext.size hx.out)
      clear hxe hye hze bx by_ bz
      go_wp2_with fail
      refine wp_region_held_drew (S := fun w' => w'.cell? ⟨pb, po + k, none⟩ = some (.int .i64 x) ∧ w'.cell? ⟨qb, qo + k, none⟩ = some (.int .i64 y)) (by kernel_rfl) ⟨(show Ext w5 w5.drew from (by repeat (with_reducible first | assumption | exact Ext.refl _ | refine Ext.drew ?_ | refine Ext.drewN ?_ _ | refine Ext.alloc ?_ _ | refine xS ?_ _ | refine xT ?_ (by assumption)))).cell r1, (show Ext w5 w5.drew from (by repeat (with_reducible first | assumption | exact Ext.refl _ | refine Ext.drew ?_ | refine Ext.drewN ?_ _ | refine Ext.alloc ?_ _ | refine xS ?_ _ | refine xT ?_ (by assumption)))).cell r2⟩ fun hHeld => ?_
      refine tkA (i := 0) (v := ?_) rfl (fun _ _ _ h => h) (Or.inl ⟨by rfl, ?yl⟩) (by assumption) ?_
      case yl => (intro w hSw; (try dsimp only at hSw); (try obtain ⟨k1, k2⟩ := hSw); go_simp); with_reducible rfl
      try simp only [sxA, sxB, sxC, Act.put, sxD, sxE, sxF]
      refine tkA (i := 1) (v := ?_) rfl (fun _ _ _ h => h) (Or.inl ⟨by rfl, ?yl⟩) (by assumption) ?_
      case yl => (intro w hSw; (try dsimp only at hSw); (try obtain ⟨k1, k2⟩ := hSw); go_simp); with_reducible rfl
      try simp only [sxA, sxB, sxC, Act.put, sxD, sxE, sxF]
      refine tkA (i := 2) (v := ?_) rfl (fun _ _ _ h => h) (Or.inl ⟨by rfl, ?yl⟩) (by assumption) ?_
      case yl => (intro w hSw; (try dsimp only at hSw); (try obtain ⟨k1, k2⟩ := hSw); go_simp); with_reducible rfl
      try simp only [sxA, sxB, sxC, Act.put, sxD, sxE, sxF]
      refine tkA (i := 3) (v := ?_) rfl (fun _ _ _ h => h) (Or.inl ⟨by rfl, ?yl⟩) (by assumption) ?_
      case yl => (intro w hSw; (try dsimp only at hSw); (try obtain ⟨k1, k2⟩ := hSw); go_simp); with_reducible rfl
      try simp only [sxA, sxB, sxC, Act.put, sxD, sxE, sxF]
      refine tkA (i := 4) (v := ?_) rfl (fun _ _ _ h => h) (Or.inl ⟨by rfl, ?yl⟩) (by assumption) ?_
      case yl => (intro w hSw; (try dsimp only at hSw); (try obtain ⟨k1, k2⟩ := hSw); go_simp); with_reducible rfl
      try simp only [sxA, sxB, sxC, Act.put, sxD, sxE, sxF]
      refine tkA (i := 5) (v := ?_) rfl (fun _ _ _ h => h) (Or.inl ⟨by rfl, ?yl⟩) (by assumption) ?_
      case yl => (intro w hSw; (try dsimp only at hSw); (try obtain ⟨k1, k2⟩ := hSw); go_simp); with_reducible rfl
      try simp only [sxA, sxB, sxC, Act.put, sxD, sxE, sxF]
      refine tkA (i := 6) (v := ?_) rfl (fun _ _ _ h => h) (Or.inl ⟨by rfl, ?yl⟩) (by assumption) ?_
      case yl => (intro w hSw; (try dsimp only at hSw); (try obtain ⟨k1, k2⟩ := hSw); go_simp); with_reducible rfl
      try simp only [sxA, sxB, sxC, Act.put, sxD, sxE, sxF]
      refine tkA (i := 7) (v := ?_) rfl (fun _ _ _ h => h) (Or.inl ⟨by rfl, ?yl⟩) (by assumption) ?_
      case yl => (intro w hSw; (try dsimp only at hSw); (try obtain ⟨k1, k2⟩ := hSw); go_simp); with_reducible rfl
      try simp only [sxA, sxB, sxC, Act.put, sxD, sxE, sxF]
      refine tkA (i := 8) (v := ?_) rfl (fun _ _ _ h => h) (Or.inl ⟨by rfl, ?yl⟩) (by assumption) ?_
      case yl => (intro w hSw; (try dsimp only at hSw); (try obtain ⟨k1, k2⟩ := hSw); go_simp); with_reducible rfl
      try simp only [sxA, sxB, sxC, Act.put, sxD, sxE, sxF]
      refine tkA (i := 9) (v := ?_) rfl (fun _ _ _ h => h) (Or.inl ⟨by rfl, ?yl⟩) (by assumption) ?_
      case yl => (intro w hSw; (try dsimp only at hSw); (try obtain ⟨k1, k2⟩ := hSw); go_simp); with_reducible rfl
      try simp only [sxA, sxB, sxC, Act.put, sxD, sxE, sxF]
      refine wpAnyH_ready (rs := [10]) (by kernel_rfl) (by simp) ?_
      refine AllReadyH.cons (o := _) rfl (fun K hK => ?_) AllReadyH.nil
      go_simp
      refine hK.out _ _ ⟨(show Ext w5 _ from (by repeat (with_reducible first | assumption | exact Ext.refl _ | refine Ext.drew ?_ | refine Ext.drewN ?_ _ | refine Ext.alloc ?_ _ | refine xS ?_ _ | refine xT ?_ (by assumption)))).cell r1, (show Ext w5 _ from (by repeat (with_reducible first | assumption | exact Ext.refl _ | refine Ext.drew ?_ | refine Ext.drewN ?_ _ | refine Ext.alloc ?_ _ | refine xS ?_ _ | refine xT ?_ (by assumption)))).cell r2⟩ (fun hHeld => ?_)
      clear hK K
      refine wpAnyH_ready (rs := [11]) (by kernel_rfl) (by simp) ?_
      refine AllReadyH.cons (o := _) rfl (fun K hK => ?_) AllReadyH.nil
      refine appD_wp _ _ _ rfl 2 Try.underlying25 elemI64 w9.heap.size (mkL k F) [x + y] _ rfl _ _ rfl ?b0 ?b1 (by simp) ?b2 ?b3 ?_
      case b0 => exact ho1.out.ext (by repeat (with_reducible first | assumption | exact Ext.refl _ | refine Ext.drew ?_ | refine Ext.drewN ?_ _ | refine Ext.alloc ?_ _ | refine xS ?_ _ | refine xT ?_ (by assumption)))
      case b1 => (intro i hi; obtain rfl : i = 0 := (by simp at hi; omega); exact ⟨_, _, rfl, by simp [go_sem, nth]⟩)
      case b2 => rw [mkL_len]; simp; omega
      case b3 => have := hsz.out; simp; omega
      intro b9 cp9 w6 own9 hg9 hb9 hl9
      rw [← hs1.out] at own9 ⊢
      rw [mkL_len] at own9 ⊢
      obtain ⟨o2, ap2, ce2, ex2, sz2⟩ := grow_one (n := k + 1) (cap := cp9) hg9 (ho1.out.ext (by repeat (with_reducible first | assumption | exact Ext.refl _ | refine Ext.drew ?_ | refine Ext.drewN ?_ _ | refine Ext.alloc ?_ _ | refine xS ?_ _ | refine xT ?_ (by assumption)))) (ho2.out.ext (show Ext w5 _ from (by repeat (with_reducible first | assumption | exact Ext.refl _ | refine Ext.drew ?_ | refine Ext.drewN ?_ _ | refine Ext.alloc ?_ _ | refine xS ?_ _ | refine xT ?_ (by assumption))))) hap.out hb9
      have e9 : Ext w9 w6 := ex2 w9 (by have := hx.out; exact (by repeat (with_reducible first | assumption | exact Ext.refl _ | refine Ext.drew ?_ | refine Ext.drewN ?_ _ | refine Ext.alloc ?_ _ | refine xS ?_ _ | refine xT ?_ (by assumption)))) (Nat.le_refl _)
      replace own9 := hid own9
      replace o2 := hid o2
      replace ap2 := hid ap2
      replace e9 := hid e9
      have sz6 := hid (show w9.heap.size ≤ w6.heap.size from e9.out.size)
      clear ce2 ex2 sz2 hg9 hb9 hl9
      refine hK.out _ _ ⟨e9.out.cell P1.out, e9.out.cell P2.out⟩ (fun hHeld => ?_)
      clear hK K
      try simp only [sxA, sxB, sxC, Act.put, sxD, sxE, sxF]
      refine tkA (i := 12) (v := ?_) rfl (fun _ _ _ h => h) (Or.inl ⟨by rfl, ?yl⟩) (by assumption) ?_
      case yl => (intro w hSw; (try dsimp only at hSw); (try obtain ⟨k1, k2⟩ := hSw); go_simp); with_reducible rfl
      try simp only [sxA, sxB, sxC, Act.put, sxD, sxE, sxF]
      refine wpAnyH_done (by kernel_rfl) ?_ _
      try simp only [sxA, sxB, sxC, Act.put, sxD, sxE, sxF]
      clear hHeld r1 r2 tc ho1 ho2 hap hx
      have r1 := e9.out.cell P1.out
      have r2 := e9.out.cell P3.out
      go_wp2_with fail
      refine wp_region_held_drew (S := fun w' => w'.cell? ⟨pb, po + k, none⟩ = some (.int .i64 x) ∧ w'.cell? ⟨rb, ro + k, none⟩ = some (.int .i64 z)) (by kernel_rfl) ⟨(show Ext w6 w6.drew from (by repeat (with_reducible first | assumption | exact Ext.refl _ | refine Ext.drew ?_ | refine Ext.drewN ?_ _ | refine Ext.alloc ?_ _ | refine xS ?_ _ | refine xT ?_ (by assumption)))).cell r1, (show Ext w6 w6.drew from (by repeat (with_reducible first | assumption | exact Ext.refl _ | refine Ext.drew ?_ | refine Ext.drewN ?_ _ | refine Ext.alloc ?_ _ | refine xS ?_ _ | refine xT ?_ (by assumption)))).cell r2⟩ fun hHeld => ?_
      refine tkA (i := 0) (v := ?_) rfl (fun _ _ _ h => h) (Or.inl ⟨by rfl, ?yl⟩) (by assumption) ?_
      case yl => (intro w hSw; (try dsimp only at hSw); (try obtain ⟨k1, k2⟩ := hSw); go_simp); with_reducible rfl
      try simp only [sxA, sxB, sxC, Act.put, sxD, sxE, sxF]
      refine tkA (i := 1) (v := ?_) rfl (fun _ _ _ h => h) (Or.inl ⟨by rfl, ?yl⟩) (by assumption) ?_
      case yl => (intro w hSw; (try dsimp only at hSw); (try obtain ⟨k1, k2⟩ := hSw); go_simp); with_reducible rfl
      try simp only [sxA, sxB, sxC, Act.put, sxD, sxE, sxF]
      refine tkA (i := 2) (v := ?_) rfl (fun _ _ _ h => h) (Or.inl ⟨by rfl, ?yl⟩) (by assumption) ?_
      case yl => (intro w hSw; (try dsimp only at hSw); (try obtain ⟨k1, k2⟩ := hSw); go_simp); with_reducible rfl
      try simp only [sxA, sxB, sxC, Act.put, sxD, sxE, sxF]
      refine tkA (i := 3) (v := ?_) rfl (fun _ _ _ h => h) (Or.inl ⟨by rfl, ?yl⟩) (by assumption) ?_
      case yl => (intro w hSw; (try dsimp only at hSw); (try obtain ⟨k1, k2⟩ := hSw); go_simp); with_reducible rfl
      try simp only [sxA, sxB, sxC, Act.put, sxD, sxE, sxF]
      refine tkA (i := 4) (v := ?_) rfl (fun _ _ _ h => h) (Or.inl ⟨by rfl, ?yl⟩) (by assumption) ?_
      case yl => (intro w hSw; (try dsimp only at hSw); (try obtain ⟨k1, k2⟩ := hSw); go_simp); with_reducible rfl
      try simp only [sxA, sxB, sxC, Act.put, sxD, sxE, sxF]
      refine tkA (i := 5) (v := ?_) rfl (fun _ _ _ h => h) (Or.inl ⟨by rfl, ?yl⟩) (by assumption) ?_
      case yl => (intro w hSw; (try dsimp only at hSw); (try obtain ⟨k1, k2⟩ := hSw); go_simp); with_reducible rfl
      try simp only [sxA, sxB, sxC, Act.put, sxD, sxE, sxF]
      refine tkA (i := 6) (v := ?_) rfl (fun _ _ _ h => h) (Or.inl ⟨by rfl, ?yl⟩) (by assumption) ?_
      case yl => (intro w hSw; (try dsimp only at hSw); (try obtain ⟨k1, k2⟩ := hSw); go_simp); with_reducible rfl
      try simp only [sxA, sxB, sxC, Act.put, sxD, sxE, sxF]
      refine tkA (i := 7) (v := ?_) rfl (fun _ _ _ h => h) (Or.inl ⟨by rfl, ?yl⟩) (by assumption) ?_
      case yl => (intro w hSw; (try dsimp only at hSw); (try obtain ⟨k1, k2⟩ := hSw); go_simp); with_reducible rfl
      try simp only [sxA, sxB, sxC, Act.put, sxD, sxE, sxF]
      refine tkA (i := 8) (v := ?_) rfl (fun _ _ _ h => h) (Or.inl ⟨by rfl, ?yl⟩) (by assumption) ?_
      case yl => (intro w hSw; (try dsimp only at hSw); (try obtain ⟨k1, k2⟩ := hSw); go_simp); with_reducible rfl
      try simp only [sxA, sxB, sxC, Act.put, sxD, sxE, sxF]
      refine tkA (i := 9) (v := ?_) rfl (fun _ _ _ h => h) (Or.inl ⟨by rfl, ?yl⟩) (by assumption) ?_
      case yl => (intro w hSw; (try dsimp only at hSw); (try obtain ⟨k1, k2⟩ := hSw); go_simp); with_reducible rfl
      try simp only [sxA, sxB, sxC, Act.put, sxD, sxE, sxF]
      refine tkA (i := 10) (v := ?_) rfl (fun _ _ _ h => h) (Or.inl ⟨by rfl, ?yl⟩) (by assumption) ?_
      case yl => (intro w hSw; (try dsimp only at hSw); (try obtain ⟨k1, k2⟩ := hSw); go_simp); with_reducible rfl
      try simp only [sxA, sxB, sxC, Act.put, sxD, sxE, sxF]
      refine wpAnyH_ready (rs := [11]) (by kernel_rfl) (by simp) ?_
      refine AllReadyH.cons (o := _) rfl (fun K hK => ?_) AllReadyH.nil
      go_simp
      refine hK.out _ _ ⟨(show Ext w6 _ from (by repeat (with_reducible first | assumption | exact Ext.refl _ | refine Ext.drew ?_ | refine Ext.drewN ?_ _ | refine Ext.alloc ?_ _ | refine xS ?_ _ | refine xT ?_ (by assumption)))).cell r1, (show Ext w6 _ from (by repeat (with_reducible first | assumption | exact Ext.refl _ | refine Ext.drew ?_ | refine Ext.drewN ?_ _ | refine Ext.alloc ?_ _ | refine xS ?_ _ | refine xT ?_ (by assumption)))).cell r2⟩ (fun hHeld => ?_)
      clear hK K
      refine wpAnyH_ready (rs := [12]) (by kernel_rfl) (by simp) ?_
      refine AllReadyH.cons (o := _) rfl (fun K hK => ?_) AllReadyH.nil
      refine appD_wp _ _ _ rfl 2 Try.underlying25 elemI64 w9.heap.size (mkL k G) [min 100000000 (x + z)] _ rfl _ _ rfl ?b0 ?b1 (by simp) ?b2 ?b3 ?_
      case b0 => exact o2.out.ext (by repeat (with_reducible first | assumption | exact Ext.refl _ | refine Ext.drew ?_ | refine Ext.drewN ?_ _ | refine Ext.alloc ?_ _ | refine xS ?_ _ | refine xT ?_ (by assumption)))
      case b1 => intro i hi; obtain rfl : i = 0 := by simp at hi; omega
                 refine ⟨_, _, rfl, ?_⟩
                 simp [go_sem, nth]
                 try omega
      case b2 => rw [mkL_len]; simp; omega
      case b3 => have := sz6.out; simp; omega
      intro b8 cp8 w7 own8 hg8 hb8 hl8
      rw [← hs2.out] at own8 ⊢
      rw [mkL_len] at own8 ⊢
      obtain ⟨o1, ap1, ce1, ex1, sz1⟩ := grow_one (n := k + 1) (cap := cp8) hg8 (o2.out.ext (by repeat (with_reducible first | assumption | exact Ext.refl _ | refine Ext.drew ?_ | refine Ext.drewN ?_ _ | refine Ext.alloc ?_ _ | refine xS ?_ _ | refine xT ?_ (by assumption)))) (own9.out.ext (show Ext w6 _ from (by repeat (with_reducible first | assumption | exact Ext.refl _ | refine Ext.drew ?_ | refine Ext.drewN ?_ _ | refine Ext.alloc ?_ _ | refine xS ?_ _ | refine xT ?_ (by assumption))))) ap2.out.symm hb8
      have e8 : Ext w9 w7 := ex1 w9 (by have := e9.out; exact (by repeat (with_reducible first | assumption | exact Ext.refl _ | refine Ext.drew ?_ | refine Ext.drewN ?_ _ | refine Ext.alloc ?_ _ | refine xS ?_ _ | refine xT ?_ (by assumption)))) (Nat.le_refl _)
      replace own8 := hid own8
      replace o1 := hid o1
      replace ap1 := hid ap1.symm
      replace e8 := hid e8
      clear ce1 ex1 sz1 hg8 hb8 hl8
      refine hK.out _ _ ⟨e8.out.cell P1.out, e8.out.cell P3.out⟩ (fun hHeld => ?_)
      clear hK K
      try simp only [sxA, sxB, sxC, Act.put, sxD, sxE, sxF]
      refine tkA (i := 13) (v := ?_) rfl (fun _ _ _ h => h) (Or.inl ⟨by rfl, ?yl⟩) (by assumption) ?_
      case yl => (intro w hSw; (try dsimp only at hSw); (try obtain ⟨k1, k2⟩ := hSw); go_simp); with_reducible rfl
      try simp only [sxA, sxB, sxC, Act.put, sxD, sxE, sxF]
      refine wpAnyH_done (by kernel_rfl) ?_ _
      try simp only [sxA, sxB, sxC, Act.put, sxD, sxE, sxF]
      clear hHeld r1 r2 o2 ap2 own9 e9
      go_wp2_with fail
      go_roundw
      case rel => exact ⟨k + 1, by omega, by go_num, o1, own8, ap1, e8⟩
      case measure => simp [intOf]; omega
     ·have hkm : k = m := by omega
      have hnl : ¬ (k : Int) < (m : Int) := by omega
      have hnm : ¬ (m : Int) < (m : Int) := by omega
      rw [hkm, hmx.out.symm] at ho1
      rw [hkm, hcp.out.symm] at ho2
      rw [hkm]
      have l1 := ho1.out.slice
      have l2 := ho2.out.slice
      rw [show bl.length = m by rw [hmx.out, mkL_len]] at l1
      rw [show cl.length = m by rw [hcp.out, mkL_len]] at l2
      obtain ⟨b1, d1, rfl, lb⟩ := l1
      obtain ⟨b2, d2, rfl, lc⟩ := l2
      replace lb := hid lb
      replace lc := hid lc
      have x := hx.out
      clear ho1 ho2 hap hx hkm hnl hkl hk tc
      replace mt0 := hid (x.cell mt0.out)
      replace lr := hid (lr.out.ext x)
      replace bv0 := hid (x.cell bv0.out)
      replace bv1 := hid (x.cell bv1.out)
      replace lp := hid (lp.out.ext x)
      replace lq := hid (lq.out.ext x)
      replace X := hid (X.out.trans x)
      clear x
      have r_mt0 := mt0.out
      have l_mt0 := cell_lt r_mt0
      dsimp only at l_mt0
      go_wp2_with fail
      refine (h4.out _ _ _ (hT'.out.ext (X.out.trans (show Ext wr _ from (by repeat (with_reducible first | assumption | exact Ext.refl _ | refine Ext.drew ?_ | refine Ext.drewN ?_ _ | refine Ext.alloc ?_ _ | refine xS ?_ _ | refine xT ?_ (by assumption)))))) (lp.out.ext (show Ext wr _ from (by repeat (with_reducible first | assumption | exact Ext.refl _ | refine Ext.drew ?_ | refine Ext.drewN ?_ _ | refine Ext.alloc ?_ _ | refine xS ?_ _ | refine xT ?_ (by assumption)))))).mono ?_; rintro e u1 ⟨rfl, hE⟩
      have x : Ext wr u1 := (by repeat (with_reducible first | assumption | exact Ext.refl _ | refine Ext.drew ?_ | refine Ext.drewN ?_ _ | refine Ext.alloc ?_ _ | refine xS ?_ _ | refine xT ?_ (by assumption)))
      clear r_mt0 l_mt0
      replace mt0 := hid (x.cell mt0.out)
      replace lr := hid (lr.out.ext x)
      replace bv0 := hid (x.cell bv0.out)
      replace bv1 := hid (x.cell bv1.out)
      replace lp := hid (lp.out.ext x)
      replace lq := hid (lq.out.ext x)
      replace lb := hid (lb.out.ext x)
      replace lc := hid (lc.out.ext x)
      replace X := hid (X.out.trans x)
      clear x hE
      have r_mt0 := mt0.out
      have l_mt0 := cell_lt r_mt0
      dsimp only at l_mt0
      go_wp2_with fail
      refine name_c (fun v2 hw => ?_)
      have x : Ext u1 v2 := by rw [hw]; exact (by repeat (with_reducible first | assumption | exact Ext.refl _ | refine Ext.drew ?_ | refine Ext.drewN ?_ _ | refine Ext.alloc ?_ _ | refine xS ?_ _ | refine xT ?_ (by assumption)))
      have bx0 := hid (show v2.cell? ⟨u1.heap.size, 0, none⟩ = some (.int .i64 xn) by rw [hw]; simp [go_sem])
      have bx1 := hid (show v2.cell? ⟨u1.heap.size, 1, none⟩ = some (.int .i64 xd) by rw [hw]; simp [go_sem])
      clear r_mt0 l_mt0
      replace mt0 := hid (x.cell mt0.out)
      replace lr := hid (lr.out.ext x)
      replace bv0 := hid (x.cell bv0.out)
      replace bv1 := hid (x.cell bv1.out)
      replace lp := hid (lp.out.ext x)
      replace lq := hid (lq.out.ext x)
      replace lb := hid (lb.out.ext x)
      replace lc := hid (lc.out.ext x)
      replace X := hid (X.out.trans x)
      clear x hw
      generalize u1.heap.size = Bbx at *
      refine (h5.out _ _ _ (hT'.out.ext (X.out.trans (show Ext v2 _ from (by repeat (with_reducible first | assumption | exact Ext.refl _ | refine Ext.drew ?_ | refine Ext.drewN ?_ _ | refine Ext.alloc ?_ _ | refine xS ?_ _ | refine xT ?_ (by assumption)))))) (lq.out.ext (show Ext v2 _ from (by repeat (with_reducible first | assumption | exact Ext.refl _ | refine Ext.drew ?_ | refine Ext.drewN ?_ _ | refine Ext.alloc ?_ _ | refine xS ?_ _ | refine xT ?_ (by assumption)))))).mono ?_; rintro e u3 ⟨rfl, hE⟩
      have x : Ext v2 u3 := (by repeat (with_reducible first | assumption | exact Ext.refl _ | refine Ext.drew ?_ | refine Ext.drewN ?_ _ | refine Ext.alloc ?_ _ | refine xS ?_ _ | refine xT ?_ (by assumption)))
      replace mt0 := hid (x.cell mt0.out)
      replace lr := hid (lr.out.ext x)
      replace bv0 := hid (x.cell bv0.out)
      replace bv1 := hid (x.cell bv1.out)
      replace lp := hid (lp.out.ext x)
      replace lq := hid (lq.out.ext x)
      replace lb := hid (lb.out.ext x)
      replace lc := hid (lc.out.ext x)
      replace bx0 := hid (x.cell bx0.out)
      replace bx1 := hid (x.cell bx1.out)
      replace X := hid (X.out.trans x)
      clear x hE
      have r_mt0 := mt0.out
      have l_mt0 := cell_lt r_mt0
      dsimp only at l_mt0
      go_wp2_with fail
      refine name_c (fun v4 hw => ?_)
      have x : Ext u3 v4 := by rw [hw]; exact (by repeat (with_reducible first | assumption | exact Ext.refl _ | refine Ext.drew ?_ | refine Ext.drewN ?_ _ | refine Ext.alloc ?_ _ | refine xS ?_ _ | refine xT ?_ (by assumption)))
      have by_0 := hid (show v4.cell? ⟨u3.heap.size, 0, none⟩ = some (.int .i64 yn) by rw [hw]; simp [go_sem])
      have by_1 := hid (show v4.cell? ⟨u3.heap.size, 1, none⟩ = some (.int .i64 yd) by rw [hw]; simp [go_sem])
      clear r_mt0 l_mt0
      replace mt0 := hid (x.cell mt0.out)
      replace lr := hid (lr.out.ext x)
      replace bv0 := hid (x.cell bv0.out)
      replace bv1 := hid (x.cell bv1.out)
      replace lp := hid (lp.out.ext x)
      replace lq := hid (lq.out.ext x)
      replace lb := hid (lb.out.ext x)
      replace lc := hid (lc.out.ext x)
      replace bx0 := hid (x.cell bx0.out)
      replace bx1 := hid (x.cell bx1.out)
      replace X := hid (X.out.trans x)
      clear x hw
      generalize u3.heap.size = Bby_ at *
      refine (h6.out _ _ _ (hT'.out.ext (X.out.trans (show Ext v4 _ from (by repeat (with_reducible first | assumption | exact Ext.refl _ | refine Ext.drew ?_ | refine Ext.drewN ?_ _ | refine Ext.alloc ?_ _ | refine xS ?_ _ | refine xT ?_ (by assumption)))))) (lb.out.ext (show Ext v4 _ from (by repeat (with_reducible first | assumption | exact Ext.refl _ | refine Ext.drew ?_ | refine Ext.drewN ?_ _ | refine Ext.alloc ?_ _ | refine xS ?_ _ | refine xT ?_ (by assumption)))))).mono ?_; rintro e u5 ⟨rfl, hE⟩
      have x : Ext v4 u5 := (by repeat (with_reducible first | assumption | exact Ext.refl _ | refine Ext.drew ?_ | refine Ext.drewN ?_ _ | refine Ext.alloc ?_ _ | refine xS ?_ _ | refine xT ?_ (by assumption)))
      replace mt0 := hid (x.cell mt0.out)
      replace lr := hid (lr.out.ext x)
      replace bv0 := hid (x.cell bv0.out)
      replace bv1 := hid (x.cell bv1.out)
      replace lp := hid (lp.out.ext x)
      replace lq := hid (lq.out.ext x)
      replace lb := hid (lb.out.ext x)
      replace lc := hid (lc.out.ext x)
      replace bx0 := hid (x.cell bx0.out)
      replace bx1 := hid (x.cell bx1.out)
      replace by_0 := hid (x.cell by_0.out)
      replace by_1 := hid (x.cell by_1.out)
      replace X := hid (X.out.trans x)
      clear x hE
      have r_mt0 := mt0.out
      have l_mt0 := cell_lt r_mt0
      dsimp only at l_mt0
      have r_bx0 := bx0.out
      have l_bx0 := cell_lt r_bx0
      dsimp only at l_bx0
      have r_bx1 := bx1.out
      have l_bx1 := cell_lt r_bx1
      dsimp only at l_bx1
      go_wp2_with fail
      refine name_c (fun v6 hw => ?_)
      have x : Ext u5 v6 := by rw [hw]; exact (by repeat (with_reducible first | assumption | exact Ext.refl _ | refine Ext.drew ?_ | refine Ext.drewN ?_ _ | refine Ext.alloc ?_ _ | refine xS ?_ _ | refine xT ?_ (by assumption)))
      have bz0 := hid (show v6.cell? ⟨u5.heap.size, 0, none⟩ = some (.int .i64 zn) by rw [hw]; simp [go_sem])
      have bz1 := hid (show v6.cell? ⟨u5.heap.size, 1, none⟩ = some (.int .i64 zd) by rw [hw]; simp [go_sem])
      clear r_mt0 l_mt0 r_bx0 l_bx0 r_bx1 l_bx1
      replace mt0 := hid (x.cell mt0.out)
      replace lr := hid (lr.out.ext x)
      replace bv0 := hid (x.cell bv0.out)
      replace bv1 := hid (x.cell bv1.out)
      replace lp := hid (lp.out.ext x)
      replace lq := hid (lq.out.ext x)
      replace lb := hid (lb.out.ext x)
      replace lc := hid (lc.out.ext x)
      replace bx0 := hid (x.cell bx0.out)
      replace bx1 := hid (x.cell bx1.out)
      replace by_0 := hid (x.cell by_0.out)
      replace by_1 := hid (x.cell by_1.out)
      replace X := hid (X.out.trans x)
      clear x hw
      generalize u5.heap.size = Bbz at *
      refine (s1.out _).mono ?_; rintro e u7 ⟨rfl, hE⟩
      have x : Ext v6 u7 := (by repeat (with_reducible first | assumption | exact Ext.refl _ | refine Ext.drew ?_ | refine Ext.drewN ?_ _ | refine Ext.alloc ?_ _ | refine xS ?_ _ | refine xT ?_ (by assumption)))
      replace mt0 := hid (x.cell mt0.out)
      replace lr := hid (lr.out.ext x)
      replace bv0 := hid (x.cell bv0.out)
      replace bv1 := hid (x.cell bv1.out)
      replace lp := hid (lp.out.ext x)
      replace lq := hid (lq.out.ext x)
      replace lb := hid (lb.out.ext x)
      replace lc := hid (lc.out.ext x)
      replace bx0 := hid (x.cell bx0.out)
      replace bx1 := hid (x.cell bx1.out)
      replace by_0 := hid (x.cell by_0.out)
      replace by_1 := hid (x.cell by_1.out)
      replace bz0 := hid (x.cell bz0.out)
      replace bz1 := hid (x.cell bz1.out)
      replace X := hid (X.out.trans x)
      clear x hE
      have r_by_0 := by_0.out
      have l_by_0 := cell_lt r_by_0
      dsimp only at l_by_0
      have r_by_1 := by_1.out
      have l_by_1 := cell_lt r_by_1
      dsimp only at l_by_1
      go_wp2_with fail
      refine (s2.out _).mono ?_; rintro e u8 ⟨rfl, hE⟩
      have x : Ext u7 u8 := (by repeat (with_reducible first | assumption | exact Ext.refl _ | refine Ext.drew ?_ | refine Ext.drewN ?_ _ | refine Ext.alloc ?_ _ | refine xS ?_ _ | refine xT ?_ (by assumption)))
      clear r_by_0 l_by_0 r_by_1 l_by_1
      replace mt0 := hid (x.cell mt0.out)
      replace lr := hid (lr.out.ext x)
      replace bv0 := hid (x.cell bv0.out)
      replace bv1 := hid (x.cell bv1.out)
      replace lp := hid (lp.out.ext x)
      replace lq := hid (lq.out.ext x)
      replace lb := hid (lb.out.ext x)
      replace lc := hid (lc.out.ext x)
      replace bx0 := hid (x.cell bx0.out)
      replace bx1 := hid (x.cell bx1.out)
      replace by_0 := hid (x.cell by_0.out)
      replace by_1 := hid (x.cell by_1.out)
      replace bz0 := hid (x.cell bz0.out)
      replace bz1 := hid (x.cell bz1.out)
      replace X := hid (X.out.trans x)
      clear x hE
      have r_bz0 := bz0.out
      have l_bz0 := cell_lt r_bz0
      dsimp only at l_bz0
      have r_bz1 := bz1.out
      have l_bz1 := cell_lt r_bz1
      dsimp only at l_bz1
      go_wp2_with fail
      refine (s3.out _).mono ?_; rintro e u9 ⟨rfl, hE⟩
      have x : Ext u8 u9 := (by repeat (with_reducible first | assumption | exact Ext.refl _ | refine Ext.drew ?_ | refine Ext.drewN ?_ _ | refine Ext.alloc ?_ _ | refine xS ?_ _ | refine xT ?_ (by assumption)))
      clear r_bz0 l_bz0 r_bz1 l_bz1
      replace mt0 := hid (x.cell mt0.out)
      replace lr := hid (lr.out.ext x)
      replace bv0 := hid (x.cell bv0.out)
      replace bv1 := hid (x.cell bv1.out)
      replace lp := hid (lp.out.ext x)
      replace lq := hid (lq.out.ext x)
      replace lb := hid (lb.out.ext x)
      replace lc := hid (lc.out.ext x)
      replace bx0 := hid (x.cell bx0.out)
      replace bx1 := hid (x.cell bx1.out)
      replace by_0 := hid (x.cell by_0.out)
      replace by_1 := hid (x.cell by_1.out)
      replace bz0 := hid (x.cell bz0.out)
      replace bz1 := hid (x.cell bz1.out)
      replace X := hid (X.out.trans x)
      clear x hE
      by_cases gl : zn * xd < xn * zd
      ·have gl2 : ¬ zn * yd < yn * zd := by have := hle.out; omega
       rw [decide_eq_true gl] at h8
       rw [decide_eq_false gl2] at h9
       replace gl := hid gl
       replace gl2 := hid gl2
       have r_bx0 := bx0.out
       have l_bx0 := cell_lt r_bx0
       dsimp only at l_bx0
       have r_bx1 := bx1.out
       have l_bx1 := cell_lt r_bx1
       dsimp only at l_bx1
       have r_bz0 := bz0.out
       have l_bz0 := cell_lt r_bz0
       dsimp only at l_bz0
       have r_bz1 := bz1.out
       have l_bz1 := cell_lt r_bz1
       dsimp only at l_bz1
       go_wp2_with fail
       refine (h8.out _).mono ?_; rintro e u10 ⟨rfl, hE⟩
       have x : Ext u9 u10 := (by repeat (with_reducible first | assumption | exact Ext.refl _ | refine Ext.drew ?_ | refine Ext.drewN ?_ _ | refine Ext.alloc ?_ _ | refine xS ?_ _ | refine xT ?_ (by assumption)))
       clear r_bx0 l_bx0 r_bx1 l_bx1 r_bz0 l_bz0 r_bz1 l_bz1
       replace mt0 := hid (x.cell mt0.out)
       replace lr := hid (lr.out.ext x)
       replace bv0 := hid (x.cell bv0.out)
       replace bv1 := hid (x.cell bv1.out)
       replace lp := hid (lp.out.ext x)
       replace lq := hid (lq.out.ext x)
       replace lb := hid (lb.out.ext x)
       replace lc := hid (lc.out.ext x)
       replace bx0 := hid (x.cell bx0.out)
       replace bx1 := hid (x.cell bx1.out)
       replace by_0 := hid (x.cell by_0.out)
       replace by_1 := hid (x.cell by_1.out)
       replace bz0 := hid (x.cell bz0.out)
       replace bz1 := hid (x.cell bz1.out)
       replace X := hid (X.out.trans x)
       clear x hE
       have r_by_0 := by_0.out
       have l_by_0 := cell_lt r_by_0
       dsimp only at l_by_0
       have r_by_1 := by_1.out
       have l_by_1 := cell_lt r_by_1
       dsimp only at l_by_1
       have r_bz0 := bz0.out
       have l_bz0 := cell_lt r_bz0
       dsimp only at l_bz0
       have r_bz1 := bz1.out
       have l_bz1 := cell_lt r_bz1
       dsimp only at l_bz1
       go_wp2_with fail
       refine (h9.out _).mono ?_; rintro e u11 ⟨rfl, hE⟩
       have x : Ext u10 u11 := (by repeat (with_reducible first | assumption | exact Ext.refl _ | refine Ext.drew ?_ | refine Ext.drewN ?_ _ | refine Ext.alloc ?_ _ | refine xS ?_ _ | refine xT ?_ (by assumption)))
       clear r_by_0 l_by_0 r_by_1 l_by_1 r_bz0 l_bz0 r_bz1 l_bz1
       replace mt0 := hid (x.cell mt0.out)
       replace lr := hid (lr.out.ext x)
       replace bv0 := hid (x.cell bv0.out)
       replace bv1 := hid (x.cell bv1.out)
       replace lp := hid (lp.out.ext x)
       replace lq := hid (lq.out.ext x)
       replace lb := hid (lb.out.ext x)
       replace lc := hid (lc.out.ext x)
       replace bx0 := hid (x.cell bx0.out)
       replace bx1 := hid (x.cell bx1.out)
       replace by_0 := hid (x.cell by_0.out)
       replace by_1 := hid (x.cell by_1.out)
       replace bz0 := hid (x.cell bz0.out)
       replace bz1 := hid (x.cell bz1.out)
       replace X := hid (X.out.trans x)
       clear x hE
       have r_mt0 := mt0.out
       have l_mt0 := cell_lt r_mt0
       dsimp only at l_mt0
       go_wp2_with fail
       refine (h7.out _ _ _ (hT'.out.ext (X.out.trans (show Ext u11 _ from (by repeat (with_reducible first | assumption | exact Ext.refl _ | refine Ext.drew ?_ | refine Ext.drewN ?_ _ | refine Ext.alloc ?_ _ | refine xS ?_ _ | refine xT ?_ (by assumption)))))) (lc.out.ext (show Ext u11 _ from (by repeat (with_reducible first | assumption | exact Ext.refl _ | refine Ext.drew ?_ | refine Ext.drewN ?_ _ | refine Ext.alloc ?_ _ | refine xS ?_ _ | refine xT ?_ (by assumption)))))).mono ?_; rintro e u12 ⟨rfl, hE⟩
       have x : Ext u11 u12 := (by repeat (with_reducible first | assumption | exact Ext.refl _ | refine Ext.drew ?_ | refine Ext.drewN ?_ _ | refine Ext.alloc ?_ _ | refine xS ?_ _ | refine xT ?_ (by assumption)))
       clear r_mt0 l_mt0
       replace mt0 := hid (x.cell mt0.out)
       replace lr := hid (lr.out.ext x)
       replace bv0 := hid (x.cell bv0.out)
       replace bv1 := hid (x.cell bv1.out)
       replace lp := hid (lp.out.ext x)
       replace lq := hid (lq.out.ext x)
       replace lb := hid (lb.out.ext x)
       replace lc := hid (lc.out.ext x)
       replace bx0 := hid (x.cell bx0.out)
       replace bx1 := hid (x.cell bx1.out)
       replace by_0 := hid (x.cell by_0.out)
       replace by_1 := hid (x.cell by_1.out)
       replace bz0 := hid (x.cell bz0.out)
       replace bz1 := hid (x.cell bz1.out)
       replace X := hid (X.out.trans x)
       clear x hE
       by_cases gx : xn = vn ∧ xd = vd
       ·have eX : ∀ w, (Op.equalIn 10000 30 (.agg #[.int .i64 xn, .int .i64 xd]) (.agg #[.int .i64 vn, .int .i64 vd])).run Try.prog w = .ok true w := fun w => by rw [run_eqRatio, decide_eq_true gx]
        replace gx := hid gx
        have r_bx0 := bx0.out
        have l_bx0 := cell_lt r_bx0
        dsimp only at l_bx0
        have r_bx1 := bx1.out
        have l_bx1 := cell_lt r_bx1
        dsimp only at l_bx1
        have r_bv0 := bv0.out
        have l_bv0 := cell_lt r_bv0
        dsimp only at l_bv0
        have r_bv1 := bv1.out
        have l_bv1 := cell_lt r_bv1
        dsimp only at l_bv1
        go_wp2_with fail
        refine name_c (fun v13 hw => ?_)
        have x : Ext u12 v13 := by rw [hw]; exact (by repeat (with_reducible first | assumption | exact Ext.refl _ | refine Ext.drew ?_ | refine Ext.drewN ?_ _ | refine Ext.alloc ?_ _ | refine xS ?_ _ | refine xT ?_ (by assumption)))
        have bw0 := hid (show v13.cell? ⟨u12.heap.size, 0, none⟩ = some (.int .i64 wn) by rw [hw]; simp [go_sem])
        have bw1 := hid (show v13.cell? ⟨u12.heap.size, 1, none⟩ = some (.int .i64 wd) by rw [hw]; simp [go_sem])
        clear r_bx0 l_bx0 r_bx1 l_bx1 r_bv0 l_bv0 r_bv1 l_bv1
        replace mt0 := hid (x.cell mt0.out)
        replace lr := hid (lr.out.ext x)
        replace bv0 := hid (x.cell bv0.out)
        replace bv1 := hid (x.cell bv1.out)
        replace lp := hid (lp.out.ext x)
        replace lq := hid (lq.out.ext x)
        replace lb := hid (lb.out.ext x)
        replace lc := hid (lc.out.ext x)
        replace bx0 := hid (x.cell bx0.out)
        replace bx1 := hid (x.cell bx1.out)
        replace by_0 := hid (x.cell by_0.out)
        replace by_1 := hid (x.cell by_1.out)
        replace bz0 := hid (x.cell bz0.out)
        replace bz1 := hid (x.cell bz1.out)
        replace X := hid (X.out.trans x)
        clear x hw
        generalize u12.heap.size = Bbw at *
        refine (hsu.out _ _ _ (lr.out.ext (show Ext v13 _ from (by repeat (with_reducible first | assumption | exact Ext.refl _ | refine Ext.drew ?_ | refine Ext.drewN ?_ _ | refine Ext.alloc ?_ _ | refine xS ?_ _ | refine xT ?_ (by assumption)))))).mono ?_; rintro e u14 ⟨rfl, hE⟩
        have x : Ext v13 u14 := (by repeat (with_reducible first | assumption | exact Ext.refl _ | refine Ext.drew ?_ | refine Ext.drewN ?_ _ | refine Ext.alloc ?_ _ | refine xS ?_ _ | refine xT ?_ (by assumption)))
        replace mt0 := hid (x.cell mt0.out)
        replace lr := hid (lr.out.ext x)
        replace bv0 := hid (x.cell bv0.out)
        replace bv1 := hid (x.cell bv1.out)
        replace lp := hid (lp.out.ext x)
        replace lq := hid (lq.out.ext x)
        replace lb := hid (lb.out.ext x)
        replace lc := hid (lc.out.ext x)
        replace bx0 := hid (x.cell bx0.out)
        replace bx1 := hid (x.cell bx1.out)
        replace by_0 := hid (x.cell by_0.out)
        replace by_1 := hid (x.cell by_1.out)
        replace bz0 := hid (x.cell bz0.out)
        replace bz1 := hid (x.cell bz1.out)
        replace bw0 := hid (x.cell bw0.out)
        replace bw1 := hid (x.cell bw1.out)
        replace X := hid (X.out.trans x)
        clear x hE
        by_cases gs : (99934464 : Int) < ps
        ·have gs2 := gs
         go_wp2_with fail
         refine (works_any _).mono ?_; rintro e u15 ⟨rfl, hE⟩
         have x : Ext u14 u15 := (by repeat (with_reducible first | assumption | exact Ext.refl _ | refine Ext.drew ?_ | refine Ext.drewN ?_ _ | refine Ext.alloc ?_ _ | refine xS ?_ _ | refine xT ?_ (by assumption)))
         replace mt0 := hid (x.cell mt0.out)
         replace lr := hid (lr.out.ext x)
         replace bv0 := hid (x.cell bv0.out)
         replace bv1 := hid (x.cell bv1.out)
         replace lp := hid (lp.out.ext x)
         replace lq := hid (lq.out.ext x)
         replace lb := hid (lb.out.ext x)
         replace lc := hid (lc.out.ext x)
         replace bx0 := hid (x.cell bx0.out)
         replace bx1 := hid (x.cell bx1.out)
         replace by_0 := hid (x.cell by_0.out)
         replace by_1 := hid (x.cell by_1.out)
         replace bz0 := hid (x.cell bz0.out)
         replace bz1 := hid (x.cell bz1.out)
         replace bw0 := hid (x.cell bw0.out)
         replace bw1 := hid (x.cell bw1.out)
         replace X := hid (X.out.trans x)
         clear x hE
         go_wp2_with fail
         go_ret
         exact ⟨rfl, X.out⟩
        ·have ew := hbe2.out gx.out (by omega)
         have eW : ∀ w, (Op.equalIn 10000 30 (.agg #[.int .i64 wn, .int .i64 wd]) (.agg #[.int .i64 vn, .int .i64 vd])).run Try.prog w = .ok true w := fun w => by rw [run_eqRatio, decide_eq_true ew]
         clear ew
         have r_bw0 := bw0.out
         have l_bw0 := cell_lt r_bw0
         dsimp only at l_bw0
         have r_bw1 := bw1.out
         have l_bw1 := cell_lt r_bw1
         dsimp only at l_bw1
         have r_bv0 := bv0.out
         have l_bv0 := cell_lt r_bv0
         dsimp only at l_bv0
         have r_bv1 := bv1.out
         have l_bv1 := cell_lt r_bv1
         dsimp only at l_bv1
         go_wp2_with fail
         refine (works_any _).mono ?_; rintro e u15 ⟨rfl, hE⟩
         have x : Ext u14 u15 := (by repeat (with_reducible first | assumption | exact Ext.refl _ | refine Ext.drew ?_ | refine Ext.drewN ?_ _ | refine Ext.alloc ?_ _ | refine xS ?_ _ | refine xT ?_ (by assumption)))
         clear r_bw0 l_bw0 r_bw1 l_bw1 r_bv0 l_bv0 r_bv1 l_bv1
         replace mt0 := hid (x.cell mt0.out)
         replace lr := hid (lr.out.ext x)
         replace bv0 := hid (x.cell bv0.out)
         replace bv1 := hid (x.cell bv1.out)
         replace lp := hid (lp.out.ext x)
         replace lq := hid (lq.out.ext x)
         replace lb := hid (lb.out.ext x)
         replace lc := hid (lc.out.ext x)
         replace bx0 := hid (x.cell bx0.out)
         replace bx1 := hid (x.cell bx1.out)
         replace by_0 := hid (x.cell by_0.out)
         replace by_1 := hid (x.cell by_1.out)
         replace bz0 := hid (x.cell bz0.out)
         replace bz1 := hid (x.cell bz1.out)
         replace bw0 := hid (x.cell bw0.out)
         replace bw1 := hid (x.cell bw1.out)
         replace X := hid (X.out.trans x)
         clear x hE
         go_wp2_with fail
         go_ret
         exact ⟨rfl, X.out⟩
       ·have eX : ∀ w, (Op.equalIn 10000 30 (.agg #[.int .i64 xn, .int .i64 xd]) (.agg #[.int .i64 vn, .int .i64 vd])).run Try.prog w = .ok false w := fun w => by rw [run_eqRatio, decide_eq_false gx]
        replace gx := hid gx
        have r_bx0 := bx0.out
        have l_bx0 := cell_lt r_bx0
        dsimp only at l_bx0
        have r_bx1 := bx1.out
        have l_bx1 := cell_lt r_bx1
        dsimp only at l_bx1
        have r_bv0 := bv0.out
        have l_bv0 := cell_lt r_bv0
        dsimp only at l_bv0
        have r_bv1 := bv1.out
        have l_bv1 := cell_lt r_bv1
        dsimp only at l_bv1
        go_wp2_with fail
        refine name_c (fun v13 hw => ?_)
        have x : Ext u12 v13 := by rw [hw]; exact (by repeat (with_reducible first | assumption | exact Ext.refl _ | refine Ext.drew ?_ | refine Ext.drewN ?_ _ | refine Ext.alloc ?_ _ | refine xS ?_ _ | refine xT ?_ (by assumption)))
        have bw0 := hid (show v13.cell? ⟨u12.heap.size, 0, none⟩ = some (.int .i64 wn) by rw [hw]; simp [go_sem])
        have bw1 := hid (show v13.cell? ⟨u12.heap.size, 1, none⟩ = some (.int .i64 wd) by rw [hw]; simp [go_sem])
        clear r_bx0 l_bx0 r_bx1 l_bx1 r_bv0 l_bv0 r_bv1 l_bv1
        replace mt0 := hid (x.cell mt0.out)
        replace lr := hid (lr.out.ext x)
        replace bv0 := hid (x.cell bv0.out)
        replace bv1 := hid (x.cell bv1.out)
        replace lp := hid (lp.out.ext x)
        replace lq := hid (lq.out.ext x)
        replace lb := hid (lb.out.ext x)
        replace lc := hid (lc.out.ext x)
        replace bx0 := hid (x.cell bx0.out)
        replace bx1 := hid (x.cell bx1.out)
        replace by_0 := hid (x.cell by_0.out)
        replace by_1 := hid (x.cell by_1.out)
        replace bz0 := hid (x.cell bz0.out)
        replace bz1 := hid (x.cell bz1.out)
        replace X := hid (X.out.trans x)
        clear x hw
        generalize u12.heap.size = Bbw at *
        refine (works_any _).mono ?_; rintro e u14 ⟨rfl, hE⟩
        have x : Ext v13 u14 := (by repeat (with_reducible first | assumption | exact Ext.refl _ | refine Ext.drew ?_ | refine Ext.drewN ?_ _ | refine Ext.alloc ?_ _ | refine xS ?_ _ | refine xT ?_ (by assumption)))
        replace mt0 := hid (x.cell mt0.out)
        replace lr := hid (lr.out.ext x)
        replace bv0 := hid (x.cell bv0.out)
        replace bv1 := hid (x.cell bv1.out)
        replace lp := hid (lp.out.ext x)
        replace lq := hid (lq.out.ext x)
        replace lb := hid (lb.out.ext x)
        replace lc := hid (lc.out.ext x)
        replace bx0 := hid (x.cell bx0.out)
        replace bx1 := hid (x.cell bx1.out)
        replace by_0 := hid (x.cell by_0.out)
        replace by_1 := hid (x.cell by_1.out)
        replace bz0 := hid (x.cell bz0.out)
        replace bz1 := hid (x.cell bz1.out)
        replace bw0 := hid (x.cell bw0.out)
        replace bw1 := hid (x.cell bw1.out)
        replace X := hid (X.out.trans x)
        clear x hE
        go_wp2_with fail
        go_ret
        exact ⟨rfl, X.out⟩
      ·rw [decide_eq_false gl] at h8
       replace gl := hid gl
       have r_bx0 := bx0.out
       have l_bx0 := cell_lt r_bx0
       dsimp only at l_bx0
       have r_bx1 := bx1.out
       have l_bx1 := cell_lt r_bx1
       dsimp only at l_bx1
       have r_bz0 := bz0.out
       have l_bz0 := cell_lt r_bz0
       dsimp only at l_bz0
       have r_bz1 := bz1.out
       have l_bz1 := cell_lt r_bz1
       dsimp only at l_bz1
       go_wp2_with fail
       refine (h8.out _).mono ?_; rintro e u10 ⟨rfl, hE⟩
       have x : Ext u9 u10 := (by repeat (with_reducible first | assumption | exact Ext.refl _ | refine Ext.drew ?_ | refine Ext.drewN ?_ _ | refine Ext.alloc ?_ _ | refine xS ?_ _ | refine xT ?_ (by assumption)))
       clear r_bx0 l_bx0 r_bx1 l_bx1 r_bz0 l_bz0 r_bz1 l_bz1
       replace mt0 := hid (x.cell mt0.out)
       replace lr := hid (lr.out.ext x)
       replace bv0 := hid (x.cell bv0.out)
       replace bv1 := hid (x.cell bv1.out)
       replace lp := hid (lp.out.ext x)
       replace lq := hid (lq.out.ext x)
       replace lb := hid (lb.out.ext x)
       replace lc := hid (lc.out.ext x)
       replace bx0 := hid (x.cell bx0.out)
       replace bx1 := hid (x.cell bx1.out)
       replace by_0 := hid (x.cell by_0.out)
       replace by_1 := hid (x.cell by_1.out)
       replace bz0 := hid (x.cell bz0.out)
       replace bz1 := hid (x.cell bz1.out)
       replace X := hid (X.out.trans x)
       clear x hE
       have r_mt0 := mt0.out
       have l_mt0 := cell_lt r_mt0
       dsimp only at l_mt0
       go_wp2_with fail
       refine (h7.out _ _ _ (hT'.out.ext (X.out.trans (show Ext u10 _ from (by repeat (with_reducible first | assumption | exact Ext.refl _ | refine Ext.drew ?_ | refine Ext.drewN ?_ _ | refine Ext.alloc ?_ _ | refine xS ?_ _ | refine xT ?_ (by assumption)))))) (lc.out.ext (show Ext u10 _ from (by repeat (with_reducible first | assumption | exact Ext.refl _ | refine Ext.drew ?_ | refine Ext.drewN ?_ _ | refine Ext.alloc ?_ _ | refine xS ?_ _ | refine xT ?_ (by assumption)))))).mono ?_; rintro e u11 ⟨rfl, hE⟩
       have x : Ext u10 u11 := (by repeat (with_reducible first | assumption | exact Ext.refl _ | refine Ext.drew ?_ | refine Ext.drewN ?_ _ | refine Ext.alloc ?_ _ | refine xS ?_ _ | refine xT ?_ (by assumption)))
       clear r_mt0 l_mt0
       replace mt0 := hid (x.cell mt0.out)
       replace lr := hid (lr.out.ext x)
       replace bv0 := hid (x.cell bv0.out)
       replace bv1 := hid (x.cell bv1.out)
       replace lp := hid (lp.out.ext x)
       replace lq := hid (lq.out.ext x)
       replace lb := hid (lb.out.ext x)
       replace lc := hid (lc.out.ext x)
       replace bx0 := hid (x.cell bx0.out)
       replace bx1 := hid (x.cell bx1.out)
       replace by_0 := hid (x.cell by_0.out)
       replace by_1 := hid (x.cell by_1.out)
       replace bz0 := hid (x.cell bz0.out)
       replace bz1 := hid (x.cell bz1.out)
       replace X := hid (X.out.trans x)
       clear x hE
       by_cases gx : xn = vn ∧ xd = vd
       ·have eX : ∀ w, (Op.equalIn 10000 30 (.agg #[.int .i64 xn, .int .i64 xd]) (.agg #[.int .i64 vn, .int .i64 vd])).run Try.prog w = .ok true w := fun w => by rw [run_eqRatio, decide_eq_true gx]
        replace gx := hid gx
        have r_bx0 := bx0.out
        have l_bx0 := cell_lt r_bx0
        dsimp only at l_bx0
        have r_bx1 := bx1.out
        have l_bx1 := cell_lt r_bx1
        dsimp only at l_bx1
        have r_bv0 := bv0.out
        have l_bv0 := cell_lt r_bv0
        dsimp only at l_bv0
        have r_bv1 := bv1.out
        have l_bv1 := cell_lt r_bv1
        dsimp only at l_bv1
        go_wp2_with fail
        refine name_c (fun v12 hw => ?_)
        have x : Ext u11 v12 := by rw [hw]; exact (by repeat (with_reducible first | assumption | exact Ext.refl _ | refine Ext.drew ?_ | refine Ext.drewN ?_ _ | refine Ext.alloc ?_ _ | refine xS ?_ _ | refine xT ?_ (by assumption)))
        have bw0 := hid (show v12.cell? ⟨u11.heap.size, 0, none⟩ = some (.int .i64 wn) by rw [hw]; simp [go_sem])
        have bw1 := hid (show v12.cell? ⟨u11.heap.size, 1, none⟩ = some (.int .i64 wd) by rw [hw]; simp [go_sem])
        clear r_bx0 l_bx0 r_bx1 l_bx1 r_bv0 l_bv0 r_bv1 l_bv1
        replace mt0 := hid (x.cell mt0.out)
        replace lr := hid (lr.out.ext x)
        replace bv0 := hid (x.cell bv0.out)
        replace bv1 := hid (x.cell bv1.out)
        replace lp := hid (lp.out.ext x)
        replace lq := hid (lq.out.ext x)
        replace lb := hid (lb.out.ext x)
        replace lc := hid (lc.out.ext x)
        replace bx0 := hid (x.cell bx0.out)
        replace bx1 := hid (x.cell bx1.out)
        replace by_0 := hid (x.cell by_0.out)
        replace by_1 := hid (x.cell by_1.out)
        replace bz0 := hid (x.cell bz0.out)
        replace bz1 := hid (x.cell bz1.out)
        replace X := hid (X.out.trans x)
        clear x hw
        generalize u11.heap.size = Bbw at *
        refine (hsu.out _ _ _ (lr.out.ext (show Ext v12 _ from (by repeat (with_reducible first | assumption | exact Ext.refl _ | refine Ext.drew ?_ | refine Ext.drewN ?_ _ | refine Ext.alloc ?_ _ | refine xS ?_ _ | refine xT ?_ (by assumption)))))).mono ?_; rintro e u13 ⟨rfl, hE⟩
        have x : Ext v12 u13 := (by repeat (with_reducible first | assumption | exact Ext.refl _ | refine Ext.drew ?_ | refine Ext.drewN ?_ _ | refine Ext.alloc ?_ _ | refine xS ?_ _ | refine xT ?_ (by assumption)))
        replace mt0 := hid (x.cell mt0.out)
        replace lr := hid (lr.out.ext x)
        replace bv0 := hid (x.cell bv0.out)
        replace bv1 := hid (x.cell bv1.out)
        replace lp := hid (lp.out.ext x)
        replace lq := hid (lq.out.ext x)
        replace lb := hid (lb.out.ext x)
        replace lc := hid (lc.out.ext x)
        replace bx0 := hid (x.cell bx0.out)
        replace bx1 := hid (x.cell bx1.out)
        replace by_0 := hid (x.cell by_0.out)
        replace by_1 := hid (x.cell by_1.out)
        replace bz0 := hid (x.cell bz0.out)
        replace bz1 := hid (x.cell bz1.out)
        replace bw0 := hid (x.cell bw0.out)
        replace bw1 := hid (x.cell bw1.out)
        replace X := hid (X.out.trans x)
        clear x hE
        by_cases gs : (99934464 : Int) < ps
        ·have gs2 := gs
         go_wp2_with fail
         refine (works_any _).mono ?_; rintro e u14 ⟨rfl, hE⟩
         have x : Ext u13 u14 := (by repeat (with_reducible first | assumption | exact Ext.refl _ | refine Ext.drew ?_ | refine Ext.drewN ?_ _ | refine Ext.alloc ?_ _ | refine xS ?_ _ | refine xT ?_ (by assumption)))
         replace mt0 := hid (x.cell mt0.out)
         replace lr := hid (lr.out.ext x)
         replace bv0 := hid (x.cell bv0.out)
         replace bv1 := hid (x.cell bv1.out)
         replace lp := hid (lp.out.ext x)
         replace lq := hid (lq.out.ext x)
         replace lb := hid (lb.out.ext x)
         replace lc := hid (lc.out.ext x)
         replace bx0 := hid (x.cell bx0.out)
         replace bx1 := hid (x.cell bx1.out)
         replace by_0 := hid (x.cell by_0.out)
         replace by_1 := hid (x.cell by_1.out)
         replace bz0 := hid (x.cell bz0.out)
         replace bz1 := hid (x.cell bz1.out)
         replace bw0 := hid (x.cell bw0.out)
         replace bw1 := hid (x.cell bw1.out)
         replace X := hid (X.out.trans x)
         clear x hE
         go_wp2_with fail
         go_ret
         exact ⟨rfl, X.out⟩
        ·have ew := hbe2.out gx.out (by omega)
         have eW : ∀ w, (Op.equalIn 10000 30 (.agg #[.int .i64 wn, .int .i64 wd]) (.agg #[.int .i64 vn, .int .i64 vd])).run Try.prog w = .ok true w := fun w => by rw [run_eqRatio, decide_eq_true ew]
         clear ew
         have r_bw0 := bw0.out
         have l_bw0 := cell_lt r_bw0
         dsimp only at l_bw0
         have r_bw1 := bw1.out
         have l_bw1 := cell_lt r_bw1
         dsimp only at l_bw1
         have r_bv0 := bv0.out
         have l_bv0 := cell_lt r_bv0
         dsimp only at l_bv0
         have r_bv1 := bv1.out
         have l_bv1 := cell_lt r_bv1
         dsimp only at l_bv1
         go_wp2_with fail
         refine (works_any _).mono ?_; rintro e u14 ⟨rfl, hE⟩
         have x : Ext u13 u14 := (by repeat (with_reducible first | assumption | exact Ext.refl _ | refine Ext.drew ?_ | refine Ext.drewN ?_ _ | refine Ext.alloc ?_ _ | refine xS ?_ _ | refine xT ?_ (by assumption)))
         clear r_bw0 l_bw0 r_bw1 l_bw1 r_bv0 l_bv0 r_bv1 l_bv1
         replace mt0 := hid (x.cell mt0.out)
         replace lr := hid (lr.out.ext x)
         replace bv0 := hid (x.cell bv0.out)
         replace bv1 := hid (x.cell bv1.out)
         replace lp := hid (lp.out.ext x)
         replace lq := hid (lq.out.ext x)
         replace lb := hid (lb.out.ext x)
         replace lc := hid (lc.out.ext x)
         replace bx0 := hid (x.cell bx0.out)
         replace bx1 := hid (x.cell bx1.out)
         replace by_0 := hid (x.cell by_0.out)
         replace by_1 := hid (x.cell by_1.out)
         replace bz0 := hid (x.cell bz0.out)
         replace bz1 := hid (x.cell bz1.out)
         replace bw0 := hid (x.cell bw0.out)
         replace bw1 := hid (x.cell bw1.out)
         replace X := hid (X.out.trans x)
         clear x hE
         go_wp2_with fail
         go_ret
         exact ⟨rfl, X.out⟩
       ·have eX : ∀ w, (Op.equalIn 10000 30 (.agg #[.int .i64 xn, .int .i64 xd]) (.agg #[.int .i64 vn, .int .i64 vd])).run Try.prog w = .ok false w := fun w => by rw [run_eqRatio, decide_eq_false gx]
        replace gx := hid gx
        have r_bx0 := bx0.out
        have l_bx0 := cell_lt r_bx0
        dsimp only at l_bx0
        have r_bx1 := bx1.out
        have l_bx1 := cell_lt r_bx1
        dsimp only at l_bx1
        have r_bv0 := bv0.out
        have l_bv0 := cell_lt r_bv0
        dsimp only at l_bv0
        have r_bv1 := bv1.out
        have l_bv1 := cell_lt r_bv1
        dsimp only at l_bv1
        go_wp2_with fail
        refine name_c (fun v12 hw => ?_)
        have x : Ext u11 v12 := by rw [hw]; exact (by repeat (with_reducible first | assumption | exact Ext.refl _ | refine Ext.drew ?_ | refine Ext.drewN ?_ _ | refine Ext.alloc ?_ _ | refine xS ?_ _ | refine xT ?_ (by assumption)))
        have bw0 := hid (show v12.cell? ⟨u11.heap.size, 0, none⟩ = some (.int .i64 wn) by rw [hw]; simp [go_sem])
        have bw1 := hid (show v12.cell? ⟨u11.heap.size, 1, none⟩ = some (.int .i64 wd) by rw [hw]; simp [go_sem])
        clear r_bx0 l_bx0 r_bx1 l_bx1 r_bv0 l_bv0 r_bv1 l_bv1
        replace mt0 := hid (x.cell mt0.out)
        replace lr := hid (lr.out.ext x)
        replace bv0 := hid (x.cell bv0.out)
        replace bv1 := hid (x.cell bv1.out)
        replace lp := hid (lp.out.ext x)
        replace lq := hid (lq.out.ext x)
        replace lb := hid (lb.out.ext x)
        replace lc := hid (lc.out.ext x)
        replace bx0 := hid (x.cell bx0.out)
        replace bx1 := hid (x.cell bx1.out)
        replace by_0 := hid (x.cell by_0.out)
        replace by_1 := hid (x.cell by_1.out)
        replace bz0 := hid (x.cell bz0.out)
        replace bz1 := hid (x.cell bz1.out)
        replace X := hid (X.out.trans x)
        clear x hw
        generalize u11.heap.size = Bbw at *
        refine (works_any _).mono ?_; rintro e u13 ⟨rfl, hE⟩
        have x : Ext v12 u13 := (by repeat (with_reducible first | assumption | exact Ext.refl _ | refine Ext.drew ?_ | refine Ext.drewN ?_ _ | refine Ext.alloc ?_ _ | refine xS ?_ _ | refine xT ?_ (by assumption)))
        replace mt0 := hid (x.cell mt0.out)
        replace lr := hid (lr.out.ext x)
        replace bv0 := hid (x.cell bv0.out)
        replace bv1 := hid (x.cell bv1.out)
        replace lp := hid (lp.out.ext x)
        replace lq := hid (lq.out.ext x)
        replace lb := hid (lb.out.ext x)
        replace lc := hid (lc.out.ext x)
        replace bx0 := hid (x.cell bx0.out)
        replace bx1 := hid (x.cell bx1.out)
        replace by_0 := hid (x.cell by_0.out)
        replace by_1 := hid (x.cell by_1.out)
        replace bz0 := hid (x.cell bz0.out)
        replace bz1 := hid (x.cell bz1.out)
        replace bw0 := hid (x.cell bw0.out)
        replace bw1 := hid (x.cell bw1.out)
        replace X := hid (X.out.trans x)
        clear x hE
        go_wp2_with fail
        go_ret
        exact ⟨rfl, X.out⟩

end Go.Proofs.Ytommhgcgaclflaa
