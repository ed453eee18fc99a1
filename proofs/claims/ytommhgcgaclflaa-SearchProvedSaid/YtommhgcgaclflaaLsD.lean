/- The law SearchProved, walked. (Printed by wip/laws.) -/
import Derived.Test.YtommhgcgaclflaaZB7
import Derived.Test.YtommhgcgaclflaaZProvedS34
import Derived.Test.YtommhgcgaclflaaPld
import Derived.Test.YtommhgcgaclflaaZB14
namespace Go.Proofs.Ytommhgcgaclflaa
set_option linter.unusedVariables false
set_option linter.unusedSimpArgs false
set_option linter.unusedSectionVars false
set_option linter.unnecessarySimpa false
open Go Go.RowKit Game
set_option maxRecDepth 100000

set_option maxHeartbeats 8000000 in
theorem searchProved_any (t : List (List Int)) (q : FitT t) (a : Option Addr) (cap : Nat) (r : List Int) (hr : ∀ i, 0 ≤ nth r i ∧ nth r i ≤ 65535) (a2 : Option Addr) (c2 : Nat) (k : List Int) (hk : ∀ i, 0 ≤ nth k i ∧ nth k i ≤ 65535) (a3 : Option Addr) (c3 : Nat) (w : World) (hT : Tab w a t) (hl : t.length ≤ 9223372036854775807) (hw : ∀ i, (row t i).length ≤ 9223372036854775807) (hI : Wrds w a2 r) (hrl : r.length ≤ 9223372036854775807) (hJ : Wrds w a3 k) (hkl : k.length ≤ 9223372036854775807) :
 Calls Try.prog 7 #[(.agg #[.slice a t.length cap]), .slice a2 r.length c2, .slice a3 k.length c3] w fun e w' => e = .returned (.bool true) ∧ Ext w w' := by
 have hT' := hid hT
 have hI' := hid hI
 have hJ' := hid hJ
 have hfi := hid (fun W hW => fineL_any t q a cap W hW hl hw)
 by_cases g : chkT t = 0
 case neg =>
  rw [decide_eq_false g] at hfi
  replace g := hid g
  clear hT hw hl
  go_enter Try.func7, Try.ntmps7
  go_wp2_with fail
  refine (hfi.out _ (hT'.out.ext (by repeat (with_reducible first | assumption | exact Ext.refl _ | refine Ext.drew ?_ | refine Ext.drewN ?_ _ | refine Ext.alloc ?_ _ | refine xS ?_ _ | refine xT ?_ (by assumption))))).mono ?_; rintro e w1 ⟨rfl, hE⟩
  go_wp2_with fail
  refine (works_any _).mono ?_; rintro e w2 ⟨rfl, hE2⟩
  go_wp2_with fail
  go_ret
  exact ⟨rfl, (by repeat (with_reducible first | assumption | exact Ext.refl _ | refine Ext.drew ?_ | refine Ext.drewN ?_ _ | refine Ext.alloc ?_ _ | refine xS ?_ _ | refine xT ?_ (by assumption)))⟩
 case pos =>
  rw [decide_eq_true g] at hfi
  by_cases g2 : (10 : Int) < (r.length : Int)
  ·have g' := hid g
   clear hT hw hl g
   go_enter Try.func7, Try.ntmps7
   go_wp2_with fail
   refine (hfi.out _ (hT'.out.ext (by repeat (with_reducible first | assumption | exact Ext.refl _ | refine Ext.drew ?_ | refine Ext.drewN ?_ _ | refine Ext.alloc ?_ _ | refine xS ?_ _ | refine xT ?_ (by assumption))))).mono ?_; rintro e w1 ⟨rfl, hE⟩
   go_wp2_with fail
   refine (works_any _).mono ?_; rintro e w2 ⟨rfl, hE2⟩
   go_wp2_with fail
   go_ret
   exact ⟨rfl, (by repeat (with_reducible first | assumption | exact Ext.refl _ | refine Ext.drew ?_ | refine Ext.drewN ?_ _ | refine Ext.alloc ?_ _ | refine xS ?_ _ | refine xT ?_ (by assumption)))⟩
  ·by_cases g3 : (10 : Int) < (k.length : Int)
   ·have g' := hid g
    clear hT hw hl g
    go_enter Try.func7, Try.ntmps7
    go_wp2_with fail
    refine (hfi.out _ (hT'.out.ext (by repeat (with_reducible first | assumption | exact Ext.refl _ | refine Ext.drew ?_ | refine Ext.drewN ?_ _ | refine Ext.alloc ?_ _ | refine xS ?_ _ | refine xT ?_ (by assumption))))).mono ?_; rintro e w1 ⟨rfl, hE⟩
    go_wp2_with fail
    refine (works_any _).mono ?_; rintro e w2 ⟨rfl, hE2⟩
    go_wp2_with fail
    go_ret
    exact ⟨rfl, (by repeat (with_reducible first | assumption | exact Ext.refl _ | refine Ext.drew ?_ | refine Ext.drewN ?_ _ | refine Ext.alloc ?_ _ | refine xS ?_ _ | refine xT ?_ (by assumption)))⟩
   ·have v := chkT_ok.1 g
    have m1 := v.m1; have m4 := v.m4; have n1 := v.n1; have n4 := v.n4
    have hl1 : t.length ≤ 1000 := by omega
    have hw1 := hw_of v
    have vp := pln_vld hr m1
    have vk := pln_vld hk n1
    obtain ⟨⟨f1, f2, f3⟩, ⟨f4, f5, f6⟩, f7, f8, f9, f10⟩ := proved_facts g vp vk
    obtain ⟨y1, y2, y3, y4, y5, y6⟩ := val_small v
    obtain ⟨z1, z2, z3, z4, z5, z6⟩ := su_small v vp
    obtain ⟨x1, x2, x3, x4, x5, x6⟩ := bd_small v vk
    have hpi : ∀ i, I64 (nth (pln t.length r) i) := fun i => by have h1 := vp.nn i; have h2 := vp.le i; exact ⟨by omega, by omega⟩
    have hki : ∀ i, I64 (nth (pln (wid t) k) i) := fun i => by have h1 := vk.nn i; have h2 := vk.le i; exact ⟨by omega, by omega⟩
    have e1 := pln_len t.length r
    have e2 := pln_len (wid t) k
    obtain ⟨b, off, rfl, hb, hcc⟩ := hT.at (by omega)
    obtain ⟨ai, ci, r0, -⟩ := hcc 0 (by omega)
    rw [Nat.add_zero] at r0
    replace r0 : w.cell? ⟨b, off, none⟩ = some (.slice ai (wid t) ci) := r0
    have h1 := hid (fun W hW => valueL_any t q g (some ⟨b, off, none⟩) cap W hW)
    have h2 := hid (fun W hW => plannedL_any t.length m4 r hr hrl a2 c2 W hW)
    have h3 := hid (fun W hW => plannedL_any (wid t) n4 k hk hkl a3 c3 W hW)
    have h4 := hid (fun aa cc W hW hK => sureP_any t q (some ⟨b, off, none⟩) cap (pln t.length r) hpi (by omega) aa cc W hW hl1 hw1 hK)
    have h5 := hid (fun aa cc W hW hK => boundP_any t q (some ⟨b, off, none⟩) cap (pln (wid t) k) hki (by omega) aa cc W hW hl1 hw1 hK)
    have h6 := hid (fun aa cc bb cb W hW hK hL => checkProof_any t q (some ⟨b, off, none⟩) cap (pln t.length r) hpi (by omega) aa cc (pln (wid t) k) hki (by omega) bb cb W hW hl1 hw1 hK hL)
    have h7 := hid (fun W => smallL_any _ _ z1 z2 z3 z4 z5 z6 W)
    have h8 := hid (fun W => smallL_any _ _ x1 x2 x3 x4 x5 x6 W)
    have i1 := mul64 (a := (val t).1) (b := sureD t (pln t.length r)) (A := 19200000000) (B := 400000000) (by omega) (by omega) (by omega) (by omega)
    have i2 := mul64 (a := sureN t (pln t.length r)) (b := (val t).2) (A := 40000000000) (B := 192000000) (by omega) (by omega) (by omega) (by omega)
    have i3 := mul64 (a := -sureN (turn t) (pln (wid t) k)) (b := (val t).2) (A := 40000000000) (B := 192000000) (by omega) (by omega) (by omega) (by omega)
    have i4 := mul64 (a := (val t).1) (b := sureD (turn t) (pln (wid t) k)) (A := 19200000000) (B := 400000000) (by omega) (by omega) (by omega) (by omega)
    have h9 := hid (fun W => lessR_any _ _ _ _ i1 i2 W)
    have h10 := hid (fun W => lessR_any _ _ _ _ i3 i4 W)
    unfold lessB at h9 h10
    rw [decide_eq_false (by omega)] at h9 h10
    rw [f1, f2, f3, e1] at h4
    rw [f4, f5, f6, e2] at h5
    rw [e1, e2] at h6
    unfold RetI at h2 h3
    rw [e1] at h2
    rw [e2] at h3
    replace f9 := hid f9
    replace f10 := hid f10
    obtain ⟨vn, hvn⟩ : ∃ x, (val t).1 = x := ⟨_, rfl⟩
    obtain ⟨vd, hvd⟩ : ∃ x, (val t).2 = x := ⟨_, rfl⟩
    obtain ⟨sn, hsn⟩ : ∃ x, sureN t (pln t.length r) = x := ⟨_, rfl⟩
    obtain ⟨sd, hsd⟩ : ∃ x, sureD t (pln t.length r) = x := ⟨_, rfl⟩
    obtain ⟨bn, hbn⟩ : ∃ x, -sureN (turn t) (pln (wid t) k) = x := ⟨_, rfl⟩
    obtain ⟨bd, hbd⟩ : ∃ x, sureD (turn t) (pln (wid t) k) = x := ⟨_, rfl⟩
    obtain ⟨pn, hpn⟩ : ∃ x, proofN t (pln t.length r) (pln (wid t) k) = x := ⟨_, rfl⟩
    obtain ⟨pd, hpd⟩ : ∃ x, proofD t (pln t.length r) (pln (wid t) k) = x := ⟨_, rfl⟩
    obtain ⟨pe, hpe⟩ : ∃ x, proofE t (pln t.length r) (pln (wid t) k) = x := ⟨_, rfl⟩
    rw [hsn, hsd, hbn, hbd, hpe] at f9
    rw [hsn, hsd, hbn, hbd, hpe, hpn, hpd, hvn, hvd] at f10
    rw [hvn, hvd] at h1
    rw [hsn, hsd] at h4 h7
    rw [hbn, hbd] at h5 h8
    rw [hpn, hpd, hpe] at h6
    rw [hvn, hvd, hsn, hsd] at h9
    rw [hbn, hbd, hvn, hvd] at h10
    obtain ⟨pl, hpl⟩ : ∃ x, pln t.length r = x := ⟨_, rfl⟩
    obtain ⟨kl, hkl2⟩ : ∃ x, pln (wid t) k = x := ⟨_, rfl⟩
    rw [hpl] at h2 h4 h6
    rw [hkl2] at h3 h5 h6
    obtain ⟨m, hm⟩ : ∃ x, t.length = x := ⟨_, rfl⟩
    obtain ⟨n, hn⟩ : ∃ x, wid t = x := ⟨_, rfl⟩
    rw [hm] at h1 h2 h4 h5 h6 hfi m1 ⊢
    rw [hn] at h1 h3 h5 h6 r0
    have R0 := hid r0
    have hm0 : (0 : Int) < (m : Int) := by omega
    have hm00 : 0 < m := by omega
    clear hT hw hl hl1 hw1 vp vk f1 f2 f3 f4 f5 f6 f7 f8 y1 y2 y3 y4 y5 y6 z1 z2 z3 z4 z5 z6 x1 x2 x3 x4 x5 x6 hpi hki e1 e2 i1 i2 i3 i4 hvn hvd hsn hsd hbn hbd hpn hpd hpe hpl hkl2 hm hn v g hcc r0 m4 n4 n1 hb hI hJ hr hk hrl hkl
    go_enter Try.func7, Try.ntmps7
    go_wp2_with fail
    refine (hfi.out _ (hT'.out.ext (by repeat (with_reducible first | assumption | exact Ext.refl _ | refine Ext.drew ?_ | refine Ext.drewN ?_ _ | refine Ext.alloc ?_ _ | refine xS ?_ _ | refine xT ?_ (by assumption))))).mono ?_; rintro e w1 ⟨rfl, hE⟩
    have mt0 := hid (hE.cell (p := ⟨w.heap.size, 0, none⟩) (v := .slice (some ⟨b, off, none⟩) m cap) (by simp [go_sem]))
    have X := hid (show Ext w w1 from (by repeat (with_reducible first | assumption | exact Ext.refl _ | refine Ext.drew ?_ | refine Ext.drewN ?_ _ | refine Ext.alloc ?_ _ | refine xS ?_ _ | refine xT ?_ (by assumption))))
    have mr0 := hid (X.out.cell R0.out)
    clear hE R0
    generalize w.heap.size = Bt at *
    have r_mt0 := mt0.out
    have l_mt0 := cell_lt r_mt0
    dsimp only at l_mt0
    go_wp2_with fail
    refine (h1.out _ (hT'.out.ext (X.out.trans (show Ext w1 _ from (by repeat (with_reducible first | assumption | exact Ext.refl _ | refine Ext.drew ?_ | refine Ext.drewN ?_ _ | refine Ext.alloc ?_ _ | refine xS ?_ _ | refine xT ?_ (by assumption))))))).mono ?_; rintro e u1 ⟨av, cv, aw, cw, rfl, lv_, lw_, hE⟩
    have x : Ext w1 u1 := (by repeat (with_reducible first | assumption | exact Ext.refl _ | refine Ext.drew ?_ | refine Ext.drewN ?_ _ | refine Ext.alloc ?_ _ | refine xS ?_ _ | refine xT ?_ (by assumption)))
    clear r_mt0 l_mt0
    replace mt0 := hid (x.cell mt0.out)
    replace mr0 := hid (x.cell mr0.out)
    replace X := hid (X.out.trans x)
    have lv := hid lv_
    clear lv_
    have lw := hid lw_
    clear lw_
    clear x hE
    have r_mt0 := mt0.out
    have l_mt0 := cell_lt r_mt0
    dsimp only at l_mt0
    have r_mr0 := mr0.out
    have l_mr0 := cell_lt r_mr0
    dsimp only at l_mr0
    go_wp2_with fail
    refine name_wp (fun v2 hw => ?_)
    have x : Ext u1 v2 := by rw [hw]; exact (by repeat (with_reducible first | assumption | exact Ext.refl _ | refine Ext.drew ?_ | refine Ext.drewN ?_ _ | refine Ext.alloc ?_ _ | refine xS ?_ _ | refine xT ?_ (by assumption)))
    have bv0 := hid (show v2.cell? ⟨u1.heap.size, 0, none⟩ = some (.int .i64 vn) by rw [hw]; simp [go_sem])
    have bv1 := hid (show v2.cell? ⟨u1.heap.size, 1, none⟩ = some (.int .i64 vd) by rw [hw]; simp [go_sem])
    clear r_mt0 l_mt0 r_mr0 l_mr0
    replace mt0 := hid (x.cell mt0.out)
    replace mr0 := hid (x.cell mr0.out)
    replace lv := hid (lv.out.ext x)
    replace lw := hid (lw.out.ext x)
    replace X := hid (X.out.trans x)
    clear x hw
    generalize u1.heap.size = Bbv at *
    clear lv lw
    have q0 := mt0.out
    have q1 := mr0.out
    refine name_act (fun A_ hA_ => ?_)
    obtain ⟨Q2, hQ2⟩ : ∃ Q2 : Exit → Act → World → Prop, Q2 = fun e a' w' => e = .normal ∧ ∃ (ap : Option Addr) (cp : Nat) (ak : Option Addr) (ck : Nat) (v0_ v1_ v2_ v3_ v5_ v6_ v7_ v8_ v9_ v10_ : Value), a' = ((((((((((((((A_.put (some 40) (v0_)).put (some 41) (v1_)).put (some 42) (v2_)).put (some 43) (v3_)).put (some 44) (.slice ap m cp)).put (some 45) (v5_)).put (some 46) (v6_)).put (some 47) (v7_)).put (some 48) (v8_)).put (some 49) (v9_)).put (some 50) (v10_)).put (some 51) (.slice ak n ck)).put (some 11) (.slice ap m cp)).put (some 12) (.slice ak n ck)) ∧ Ext v2 w' ∧ Ints w' ap pl ∧ Ints w' ak kl := ⟨_, rfl⟩
    have hpan : ∀ c a a' w w', Q2 (.panic c) a w → Q2 (.panic c) a' w' := by rw [hQ2]; rintro c a a' w w' ⟨h, _⟩; cases h
    replace hQ2 := hid hQ2
    refine wp_mono (Q := Q2) ?_ ?_
    ·subst hA_
     refine wp_region_held_drew (S := fun w' => Ext v2 w') (by kernel_rfl) (by repeat (with_reducible first | assumption | exact Ext.refl _ | refine Ext.drew ?_ | refine Ext.drewN ?_ _ | refine Ext.alloc ?_ _ | refine xS ?_ _ | refine xT ?_ (by assumption))) fun hHeld => ?_
     refine name_any (fun W0 hW => ?_)
     have s0 : Ext v2 W0 := by rw [hW]; exact hHeld
     clear hW hHeld
     refine tkA (i := 0) (v := ?_) rfl (fun c a w h => hpan c _ _ _ _ h) (Or.inl ⟨by rfl, ?yl⟩) (by assumption) ?_
     case yl => (intro w hSw; (try dsimp only at hSw); have k_0 := Ext.cell hSw q0; have k_1 := Ext.cell hSw q1; go_simp); with_reducible rfl
     try simp only [sxA, sxB, sxC, Act.put, sxD, sxE, sxF]
     refine tkA (i := 1) (v := ?_) rfl (fun c a w h => hpan c _ _ _ _ h) (Or.inl ⟨by rfl, ?yl⟩) (by assumption) ?_
     case yl => (intro w hSw; (try dsimp only at hSw); have k_0 := Ext.cell hSw q0; have k_1 := Ext.cell hSw q1; go_simp); with_reducible rfl
     try simp only [sxA, sxB, sxC, Act.put, sxD, sxE, sxF]
     refine tkA (i := 2) (v := ?_) rfl (fun c a w h => hpan c _ _ _ _ h) (Or.inl ⟨by rfl, ?yl⟩) (by assumption) ?_
     case yl => (intro w hSw; (try dsimp only at hSw); have k_0 := Ext.cell hSw q0; have k_1 := Ext.cell hSw q1; go_simp); with_reducible rfl
     try simp only [sxA, sxB, sxC, Act.put, sxD, sxE, sxF]
     refine tkA (i := 3) (v := ?_) rfl (fun c a w h => hpan c _ _ _ _ h) (Or.inl ⟨by rfl, ?yl⟩) (by assumption) ?_
     case yl => (intro w hSw; (try dsimp only at hSw); have k_0 := Ext.cell hSw q0; have k_1 := Ext.cell hSw q1; go_simp); with_reducible rfl
     try simp only [sxA, sxB, sxC, Act.put, sxD, sxE, sxF]
     refine tkA (i := 5) (v := ?_) rfl (fun c a w h => hpan c _ _ _ _ h) (Or.inl ⟨by rfl, ?yl⟩) (by assumption) ?_
     case yl => (intro w hSw; (try dsimp only at hSw); have k_0 := Ext.cell hSw q0; have k_1 := Ext.cell hSw q1; go_simp); with_reducible rfl
     try simp only [sxA, sxB, sxC, Act.put, sxD, sxE, sxF]
     refine tkA (i := 6) (v := ?_) rfl (fun c a w h => hpan c _ _ _ _ h) (Or.inl ⟨by rfl, ?yl⟩) (by assumption) ?_
     case yl => (intro w hSw; (try dsimp only at hSw); have k_0 := Ext.cell hSw q0; have k_1 := Ext.cell hSw q1; go_simp); with_reducible rfl
     try simp only [sxA, sxB, sxC, Act.put, sxD, sxE, sxF]
     refine tkA (i := 7) (v := ?_) rfl (fun c a w h => hpan c _ _ _ _ h) (Or.inl ⟨by rfl, ?yl⟩) (by assumption) ?_
     case yl => (intro w hSw; (try dsimp only at hSw); have k_0 := Ext.cell hSw q0; have k_1 := Ext.cell hSw q1; go_simp); with_reducible rfl
     try simp only [sxA, sxB, sxC, Act.put, sxD, sxE, sxF]
     refine tkA (i := 8) (v := ?_) rfl (fun c a w h => hpan c _ _ _ _ h) (Or.inl ⟨by rfl, ?yl⟩) (by assumption) ?_
     case yl => (intro w hSw; (try dsimp only at hSw); have k_0 := Ext.cell hSw q0; have k_1 := Ext.cell hSw q1; go_simp); with_reducible rfl
     try simp only [sxA, sxB, sxC, Act.put, sxD, sxE, sxF]
     refine tkA (i := 9) (v := ?_) rfl (fun c a w h => hpan c _ _ _ _ h) (Or.inl ⟨by rfl, ?yl⟩) (by assumption) ?_
     case yl => (intro w hSw; (try dsimp only at hSw); have k_0 := Ext.cell hSw q0; have k_1 := Ext.cell hSw q1; go_simp); with_reducible rfl
     try simp only [sxA, sxB, sxC, Act.put, sxD, sxE, sxF]
     refine tkA (i := 10) (v := ?_) rfl (fun c a w h => hpan c _ _ _ _ h) (Or.inl ⟨by rfl, ?yl⟩) (by assumption) ?_
     case yl => (intro w hSw; (try dsimp only at hSw); have k_0 := Ext.cell hSw q0; have k_1 := Ext.cell hSw q1; go_simp); with_reducible rfl
     try simp only [sxA, sxB, sxC, Act.put, sxD, sxE, sxF]
     refine wpAnyH_ready (rs := [4]) (by kernel_rfl) (by simp) ?_
     refine AllReadyH.cons (o := _) rfl (fun K hK => ?_) AllReadyH.nil
     go_simp
     refine (h2.out _ (hI'.out.ext (X.out.trans s0))).mono ?_; rintro e W1 ⟨ap, cp, rfl, hp1_, e1⟩
     have s1 := s0.trans e1
     have hp1 := hid hp1_; clear hp1_
     refine hK.out _ _ s1 (fun _ => ?_)
     clear hK K
     (try simp only [sxA, sxB, sxC, Act.put, sxD, sxE, sxF])
     refine wpAnyH_ready (rs := [11]) (by kernel_rfl) (by simp) ?_
     refine AllReadyH.cons (o := _) rfl (fun K hK => ?_) AllReadyH.nil
     go_simp
     refine (h3.out _ (hJ'.out.ext (X.out.trans s1))).mono ?_; rintro e W2 ⟨ak, ck, rfl, hk1_, e2⟩
     have s2 := s1.trans e2
     have hk1 := hid hk1_; clear hk1_
     refine hK.out _ _ s2 (fun _ => ?_)
     clear hK K
     (try simp only [sxA, sxB, sxC, Act.put, sxD, sxE, sxF])
     refine tkA (i := 12) (v := ?_) rfl (fun c a w h => hpan c _ _ _ _ h) (Or.inl ⟨by rfl, ?yl⟩) (by assumption) ?_
     case yl => (intro w hSw; (try dsimp only at hSw); have k_0 := Ext.cell hSw q0; have k_1 := Ext.cell hSw q1; go_simp); with_reducible rfl
     try simp only [sxA, sxB, sxC, Act.put, sxD, sxE, sxF]
     refine tkA (i := 13) (v := ?_) rfl (fun c a w h => hpan c _ _ _ _ h) (Or.inl ⟨by rfl, ?yl⟩) (by assumption) ?_
     case yl => (intro w hSw; (try dsimp only at hSw); have k_0 := Ext.cell hSw q0; have k_1 := Ext.cell hSw q1; go_simp); with_reducible rfl
     try simp only [sxA, sxB, sxC, Act.put, sxD, sxE, sxF]
     refine wpAnyH_done (by kernel_rfl) ?_ _
     try simp only [sxA, sxB, sxC, Act.put, sxD, sxE, sxF]
     rw [hQ2.out]
     refine ⟨rfl, ap, cp, ak, ck, ?u1_0_1, ?u1_1_1, ?u1_2_1, ?u1_3_1, ?u1_4_1, ?u1_5_1, ?u1_6_1, ?u1_7_1, ?u1_8_1, ?u1_9_1, ?eq1_1, s2, (hp1.out.ext ((Ext.refl W1).trans e2)), (hk1.out.ext (Ext.refl W2))⟩
     case eq1_1 => ((try simp only [sxA, sxB, sxC, Act.put, sxD, sxE, sxF]); first | done | with_reducible rfl | rfl)
    rw [hQ2.out]
    rintro e a' w9 ⟨rfl, ap, cp, ak, ck, v0_, v1_, v2_, v3_, v5_, v6_, v7_, v8_, v9_, v10_, rfl, x, hp1, hk1⟩
    clear hQ2 hpan; clear Q2
    subst hA_
    simp only [sxA, sxB, sxC, Act.put, sxD, sxE, sxF]
    have lp := hid hp1
    have lk := hid hk1
    clear q0 q1 hp1 hk1
    replace mt0 := hid (x.cell mt0.out)
    replace mr0 := hid (x.cell mr0.out)
    replace bv0 := hid (x.cell bv0.out)
    replace bv1 := hid (x.cell bv1.out)
    replace X := hid (X.out.trans x)
    clear x
    have r_mt0 := mt0.out
    have l_mt0 := cell_lt r_mt0
    dsimp only at l_mt0
    go_wp2_with fail
    refine (h4.out _ _ _ (hT'.out.ext (X.out.trans (show Ext w9 _ from (by repeat (with_reducible first | assumption | exact Ext.refl _ | refine Ext.drew ?_ | refine Ext.drewN ?_ _ | refine Ext.alloc ?_ _ | refine xS ?_ _ | refine xT ?_ (by assumption)))))) (lp.out.ext (show Ext w9 _ from (by repeat (with_reducible first | assumption | exact Ext.refl _ | refine Ext.drew ?_ | refine Ext.drewN ?_ _ | refine Ext.alloc ?_ _ | refine xS ?_ _ | refine xT ?_ (by assumption)))))).mono ?_; rintro e u3 ⟨rfl, hE⟩
    have x : Ext w9 u3 := (by repeat (with_reducible first | assumption | exact Ext.refl _ | refine Ext.drew ?_ | refine Ext.drewN ?_ _ | refine Ext.alloc ?_ _ | refine xS ?_ _ | refine xT ?_ (by assumption)))
    clear r_mt0 l_mt0
    replace mt0 := hid (x.cell mt0.out)
    replace mr0 := hid (x.cell mr0.out)
    replace bv0 := hid (x.cell bv0.out)
    replace bv1 := hid (x.cell bv1.out)
    replace lp := hid (lp.out.ext x)
    replace lk := hid (lk.out.ext x)
    replace X := hid (X.out.trans x)
    clear x hE
    have r_mt0 := mt0.out
    have l_mt0 := cell_lt r_mt0
    dsimp only at l_mt0
    go_wp2_with fail
    refine name_c (fun v4 hw => ?_)
    have x : Ext u3 v4 := by rw [hw]; exact (by repeat (with_reducible first | assumption | exact Ext.refl _ | refine Ext.drew ?_ | refine Ext.drewN ?_ _ | refine Ext.alloc ?_ _ | refine xS ?_ _ | refine xT ?_ (by assumption)))
    have ba0 := hid (show v4.cell? ⟨u3.heap.size, 0, none⟩ = some (.int .i64 sn) by rw [hw]; simp [go_sem])
    have ba1 := hid (show v4.cell? ⟨u3.heap.size, 1, none⟩ = some (.int .i64 sd) by rw [hw]; simp [go_sem])
    clear r_mt0 l_mt0
    replace mt0 := hid (x.cell mt0.out)
    replace mr0 := hid (x.cell mr0.out)
    replace bv0 := hid (x.cell bv0.out)
    replace bv1 := hid (x.cell bv1.out)
    replace lp := hid (lp.out.ext x)
    replace lk := hid (lk.out.ext x)
    replace X := hid (X.out.trans x)
    clear x hw
    generalize u3.heap.size = Bba at *
    refine (h5.out _ _ _ (hT'.out.ext (X.out.trans (show Ext v4 _ from (by repeat (with_reducible first | assumption | exact Ext.refl _ | refine Ext.drew ?_ | refine Ext.drewN ?_ _ | refine Ext.alloc ?_ _ | refine xS ?_ _ | refine xT ?_ (by assumption)))))) (lk.out.ext (show Ext v4 _ from (by repeat (with_reducible first | assumption | exact Ext.refl _ | refine Ext.drew ?_ | refine Ext.drewN ?_ _ | refine Ext.alloc ?_ _ | refine xS ?_ _ | refine xT ?_ (by assumption)))))).mono ?_; rintro e u5 ⟨rfl, hE⟩
    have x : Ext v4 u5 := (by repeat (with_reducible first | assumption | exact Ext.refl _ | refine Ext.drew ?_ | refine Ext.drewN ?_ _ | refine Ext.alloc ?_ _ | refine xS ?_ _ | refine xT ?_ (by assumption)))
    replace mt0 := hid (x.cell mt0.out)
    replace mr0 := hid (x.cell mr0.out)
    replace bv0 := hid (x.cell bv0.out)
    replace bv1 := hid (x.cell bv1.out)
    replace lp := hid (lp.out.ext x)
    replace lk := hid (lk.out.ext x)
    replace ba0 := hid (x.cell ba0.out)
    replace ba1 := hid (x.cell ba1.out)
    replace X := hid (X.out.trans x)
    clear x hE
    have r_mt0 := mt0.out
    have l_mt0 := cell_lt r_mt0
    dsimp only at l_mt0
    have r_mr0 := mr0.out
    have l_mr0 := cell_lt r_mr0
    dsimp only at l_mr0
    have r_bv0 := bv0.out
    have l_bv0 := cell_lt r_bv0
    dsimp only at l_bv0
    have r_bv1 := bv1.out
    have l_bv1 := cell_lt r_bv1
    dsimp only at l_bv1
    have r_ba0 := ba0.out
    have l_ba0 := cell_lt r_ba0
    dsimp only at l_ba0
    have r_ba1 := ba1.out
    have l_ba1 := cell_lt r_ba1
    dsimp only at l_ba1
    go_wp2_with fail
    refine name_c (fun v6 hw => ?_)
    have x : Ext u5 v6 := by rw [hw]; exact (by repeat (with_reducible first | assumption | exact Ext.refl _ | refine Ext.drew ?_ | refine Ext.drewN ?_ _ | refine Ext.alloc ?_ _ | refine xS ?_ _ | refine xT ?_ (by assumption)))
    have bb0 := hid (show v6.cell? ⟨u5.heap.size, 0, none⟩ = some (.int .i64 bn) by rw [hw]; simp [go_sem])
    have bb1 := hid (show v6.cell? ⟨u5.heap.size, 1, none⟩ = some (.int .i64 bd) by rw [hw]; simp [go_sem])
    clear r_mt0 l_mt0 r_mr0 l_mr0 r_bv0 l_bv0 r_bv1 l_bv1 r_ba0 l_ba0 r_ba1 l_ba1
    replace mt0 := hid (x.cell mt0.out)
    replace mr0 := hid (x.cell mr0.out)
    replace bv0 := hid (x.cell bv0.out)
    replace bv1 := hid (x.cell bv1.out)
    replace lp := hid (lp.out.ext x)
    replace lk := hid (lk.out.ext x)
    replace ba0 := hid (x.cell ba0.out)
    replace ba1 := hid (x.cell ba1.out)
    replace X := hid (X.out.trans x)
    clear x hw
    generalize u5.heap.size = Bbb at *
    refine (h7.out _).mono ?_; rintro e u7 ⟨rfl, hE⟩
    have x : Ext v6 u7 := (by repeat (with_reducible first | assumption | exact Ext.refl _ | refine Ext.drew ?_ | refine Ext.drewN ?_ _ | refine Ext.alloc ?_ _ | refine xS ?_ _ | refine xT ?_ (by assumption)))
    replace mt0 := hid (x.cell mt0.out)
    replace mr0 := hid (x.cell mr0.out)
    replace bv0 := hid (x.cell bv0.out)
    replace bv1 := hid (x.cell bv1.out)
    replace lp := hid (lp.out.ext x)
    replace lk := hid (lk.out.ext x)
    replace ba0 := hid (x.cell ba0.out)
    replace ba1 := hid (x.cell ba1.out)
    replace bb0 := hid (x.cell bb0.out)
    replace bb1 := hid (x.cell bb1.out)
    replace X := hid (X.out.trans x)
    clear x hE
    have r_mt0 := mt0.out
    have l_mt0 := cell_lt r_mt0
    dsimp only at l_mt0
    have r_mr0 := mr0.out
    have l_mr0 := cell_lt r_mr0
    dsimp only at l_mr0
    have r_bv0 := bv0.out
    have l_bv0 := cell_lt r_bv0
    dsimp only at l_bv0
    have r_bv1 := bv1.out
    have l_bv1 := cell_lt r_bv1
    dsimp only at l_bv1
    have r_ba0 := ba0.out
    have l_ba0 := cell_lt r_ba0
    dsimp only at l_ba0
    have r_ba1 := ba1.out
    have l_ba1 := cell_lt r_ba1
    dsimp only at l_ba1
    have r_bb0 := bb0.out
    have l_bb0 := cell_lt r_bb0
    dsimp only at l_bb0
    have r_bb1 := bb1.out
    have l_bb1 := cell_lt r_bb1
    dsimp only at l_bb1
    go_wp2_with fail
    refine (h8.out _).mono ?_; rintro e u8 ⟨rfl, hE⟩
    have x : Ext u7 u8 := (by repeat (with_reducible first | assumption | exact Ext.refl _ | refine Ext.drew ?_ | refine Ext.drewN ?_ _ | refine Ext.alloc ?_ _ | refine xS ?_ _ | refine xT ?_ (by assumption)))
    clear r_mt0 l_mt0 r_mr0 l_mr0 r_bv0 l_bv0 r_bv1 l_bv1 r_ba0 l_ba0 r_ba1 l_ba1 r_bb0 l_bb0 r_bb1 l_bb1
    replace mt0 := hid (x.cell mt0.out)
    replace mr0 := hid (x.cell mr0.out)
    replace bv0 := hid (x.cell bv0.out)
    replace bv1 := hid (x.cell bv1.out)
    replace lp := hid (lp.out.ext x)
    replace lk := hid (lk.out.ext x)
    replace ba0 := hid (x.cell ba0.out)
    replace ba1 := hid (x.cell ba1.out)
    replace bb0 := hid (x.cell bb0.out)
    replace bb1 := hid (x.cell bb1.out)
    replace X := hid (X.out.trans x)
    clear x hE
    have r_mt0 := mt0.out
    have l_mt0 := cell_lt r_mt0
    dsimp only at l_mt0
    have r_mr0 := mr0.out
    have l_mr0 := cell_lt r_mr0
    dsimp only at l_mr0
    have r_bv0 := bv0.out
    have l_bv0 := cell_lt r_bv0
    dsimp only at l_bv0
    have r_bv1 := bv1.out
    have l_bv1 := cell_lt r_bv1
    dsimp only at l_bv1
    have r_ba0 := ba0.out
    have l_ba0 := cell_lt r_ba0
    dsimp only at l_ba0
    have r_ba1 := ba1.out
    have l_ba1 := cell_lt r_ba1
    dsimp only at l_ba1
    have r_bb0 := bb0.out
    have l_bb0 := cell_lt r_bb0
    dsimp only at l_bb0
    have r_bb1 := bb1.out
    have l_bb1 := cell_lt r_bb1
    dsimp only at l_bb1
    go_wp2_with fail
    refine (h9.out _).mono ?_; rintro e u9 ⟨rfl, hE⟩
    have x : Ext u8 u9 := (by repeat (with_reducible first | assumption | exact Ext.refl _ | refine Ext.drew ?_ | refine Ext.drewN ?_ _ | refine Ext.alloc ?_ _ | refine xS ?_ _ | refine xT ?_ (by assumption)))
    clear r_mt0 l_mt0 r_mr0 l_mr0 r_bv0 l_bv0 r_bv1 l_bv1 r_ba0 l_ba0 r_ba1 l_ba1 r_bb0 l_bb0 r_bb1 l_bb1
    replace mt0 := hid (x.cell mt0.out)
    replace mr0 := hid (x.cell mr0.out)
    replace bv0 := hid (x.cell bv0.out)
    replace bv1 := hid (x.cell bv1.out)
    replace lp := hid (lp.out.ext x)
    replace lk := hid (lk.out.ext x)
    replace ba0 := hid (x.cell ba0.out)
    replace ba1 := hid (x.cell ba1.out)
    replace bb0 := hid (x.cell bb0.out)
    replace bb1 := hid (x.cell bb1.out)
    replace X := hid (X.out.trans x)
    clear x hE
    have r_mt0 := mt0.out
    have l_mt0 := cell_lt r_mt0
    dsimp only at l_mt0
    have r_mr0 := mr0.out
    have l_mr0 := cell_lt r_mr0
    dsimp only at l_mr0
    have r_bv0 := bv0.out
    have l_bv0 := cell_lt r_bv0
    dsimp only at l_bv0
    have r_bv1 := bv1.out
    have l_bv1 := cell_lt r_bv1
    dsimp only at l_bv1
    have r_ba0 := ba0.out
    have l_ba0 := cell_lt r_ba0
    dsimp only at l_ba0
    have r_ba1 := ba1.out
    have l_ba1 := cell_lt r_ba1
    dsimp only at l_ba1
    have r_bb0 := bb0.out
    have l_bb0 := cell_lt r_bb0
    dsimp only at l_bb0
    have r_bb1 := bb1.out
    have l_bb1 := cell_lt r_bb1
    dsimp only at l_bb1
    go_wp2_with fail
    refine (h10.out _).mono ?_; rintro e u10 ⟨rfl, hE⟩
    have x : Ext u9 u10 := (by repeat (with_reducible first | assumption | exact Ext.refl _ | refine Ext.drew ?_ | refine Ext.drewN ?_ _ | refine Ext.alloc ?_ _ | refine xS ?_ _ | refine xT ?_ (by assumption)))
    clear r_mt0 l_mt0 r_mr0 l_mr0 r_bv0 l_bv0 r_bv1 l_bv1 r_ba0 l_ba0 r_ba1 l_ba1 r_bb0 l_bb0 r_bb1 l_bb1
    replace mt0 := hid (x.cell mt0.out)
    replace mr0 := hid (x.cell mr0.out)
    replace bv0 := hid (x.cell bv0.out)
    replace bv1 := hid (x.cell bv1.out)
    replace lp := hid (lp.out.ext x)
    replace lk := hid (lk.out.ext x)
    replace ba0 := hid (x.cell ba0.out)
    replace ba1 := hid (x.cell ba1.out)
    replace bb0 := hid (x.cell bb0.out)
    replace bb1 := hid (x.cell bb1.out)
    replace X := hid (X.out.trans x)
    clear x hE
    have r_mt0 := mt0.out
    have l_mt0 := cell_lt r_mt0
    dsimp only at l_mt0
    go_wp2_with fail
    refine (h6.out _ _ _ _ _ (hT'.out.ext (X.out.trans (show Ext u10 _ from (by repeat (with_reducible first | assumption | exact Ext.refl _ | refine Ext.drew ?_ | refine Ext.drewN ?_ _ | refine Ext.alloc ?_ _ | refine xS ?_ _ | refine xT ?_ (by assumption)))))) (lp.out.ext (show Ext u10 _ from (by repeat (with_reducible first | assumption | exact Ext.refl _ | refine Ext.drew ?_ | refine Ext.drewN ?_ _ | refine Ext.alloc ?_ _ | refine xS ?_ _ | refine xT ?_ (by assumption))))) (lk.out.ext (show Ext u10 _ from (by repeat (with_reducible first | assumption | exact Ext.refl _ | refine Ext.drew ?_ | refine Ext.drewN ?_ _ | refine Ext.alloc ?_ _ | refine xS ?_ _ | refine xT ?_ (by assumption)))))).mono ?_; rintro e u11 ⟨rfl, hE⟩
    have x : Ext u10 u11 := (by repeat (with_reducible first | assumption | exact Ext.refl _ | refine Ext.drew ?_ | refine Ext.drewN ?_ _ | refine Ext.alloc ?_ _ | refine xS ?_ _ | refine xT ?_ (by assumption)))
    clear r_mt0 l_mt0
    replace mt0 := hid (x.cell mt0.out)
    replace mr0 := hid (x.cell mr0.out)
    replace bv0 := hid (x.cell bv0.out)
    replace bv1 := hid (x.cell bv1.out)
    replace lp := hid (lp.out.ext x)
    replace lk := hid (lk.out.ext x)
    replace ba0 := hid (x.cell ba0.out)
    replace ba1 := hid (x.cell ba1.out)
    replace bb0 := hid (x.cell bb0.out)
    replace bb1 := hid (x.cell bb1.out)
    replace X := hid (X.out.trans x)
    clear x hE
    by_cases gk : pe = 0
    ·obtain ⟨⟨o1, o2⟩, o3, o4⟩ := f10.out gk
     subst gk
     have eS : ∀ w, (Op.equalIn 10000 30 (.agg #[.int .i64 sn, .int .i64 sd]) (.agg #[.int .i64 bn, .int .i64 bd])).run Try.prog w = .ok true w := fun w => by rw [run_eqRatio, decide_eq_true ⟨o1, o2⟩]
     have eP : ∀ w, (Op.equalIn 10000 30 (.agg #[.int .i64 pn, .int .i64 pd]) (.agg #[.int .i64 vn, .int .i64 vd])).run Try.prog w = .ok true w := fun w => by rw [run_eqRatio, decide_eq_true ⟨o3, o4⟩]
     clear o1 o2 o3 o4 f9 f10
     have r_mt0 := mt0.out
     have l_mt0 := cell_lt r_mt0
     dsimp only at l_mt0
     have r_mr0 := mr0.out
     have l_mr0 := cell_lt r_mr0
     dsimp only at l_mr0
     have r_bv0 := bv0.out
     have l_bv0 := cell_lt r_bv0
     dsimp only at l_bv0
     have r_bv1 := bv1.out
     have l_bv1 := cell_lt r_bv1
     dsimp only at l_bv1
     have r_ba0 := ba0.out
     have l_ba0 := cell_lt r_ba0
     dsimp only at l_ba0
     have r_ba1 := ba1.out
     have l_ba1 := cell_lt r_ba1
     dsimp only at l_ba1
     have r_bb0 := bb0.out
     have l_bb0 := cell_lt r_bb0
     dsimp only at l_bb0
     have r_bb1 := bb1.out
     have l_bb1 := cell_lt r_bb1
     dsimp only at l_bb1
     go_wp2_with fail
     refine name_c (fun v12 hw => ?_)
     have x : Ext u11 v12 := by rw [hw]; exact (by repeat (with_reducible first | assumption | exact Ext.refl _ | refine Ext.drew ?_ | refine Ext.drewN ?_ _ | refine Ext.alloc ?_ _ | refine xS ?_ _ | refine xT ?_ (by assumption)))
     have bp0 := hid (show v12.cell? ⟨u11.heap.size, 0, none⟩ = some (.int .i64 pn) by rw [hw]; simp [go_sem])
     have bp1 := hid (show v12.cell? ⟨u11.heap.size, 1, none⟩ = some (.int .i64 pd) by rw [hw]; simp [go_sem])
     clear r_mt0 l_mt0 r_mr0 l_mr0 r_bv0 l_bv0 r_bv1 l_bv1 r_ba0 l_ba0 r_ba1 l_ba1 r_bb0 l_bb0 r_bb1 l_bb1
     replace mt0 := hid (x.cell mt0.out)
     replace mr0 := hid (x.cell mr0.out)
     replace bv0 := hid (x.cell bv0.out)
     replace bv1 := hid (x.cell bv1.out)
     replace lp := hid (lp.out.ext x)
     replace lk := hid (lk.out.ext x)
     replace ba0 := hid (x.cell ba0.out)
     replace ba1 := hid (x.cell ba1.out)
     replace bb0 := hid (x.cell bb0.out)
     replace bb1 := hid (x.cell bb1.out)
     replace X := hid (X.out.trans x)
     clear x hw
     generalize u11.heap.size = Bbp at *
     refine (works_any _).mono ?_; rintro e u13 ⟨rfl, hE⟩
     have x : Ext v12 u13 := (by repeat (with_reducible first | assumption | exact Ext.refl _ | refine Ext.drew ?_ | refine Ext.drewN ?_ _ | refine Ext.alloc ?_ _ | refine xS ?_ _ | refine xT ?_ (by assumption)))
     replace mt0 := hid (x.cell mt0.out)
     replace mr0 := hid (x.cell mr0.out)
     replace bv0 := hid (x.cell bv0.out)
     replace bv1 := hid (x.cell bv1.out)
     replace lp := hid (lp.out.ext x)
     replace lk := hid (lk.out.ext x)
     replace ba0 := hid (x.cell ba0.out)
     replace ba1 := hid (x.cell ba1.out)
     replace bb0 := hid (x.cell bb0.out)
     replace bb1 := hid (x.cell bb1.out)
     replace bp0 := hid (x.cell bp0.out)
     replace bp1 := hid (x.cell bp1.out)
     replace X := hid (X.out.trans x)
     clear x hE
     go_wp2_with fail
     go_ret
     exact ⟨rfl, X.out⟩
    ·obtain ⟨o1, o2⟩ := f9.out gk
     subst o1
     have eS : ∀ w, (Op.equalIn 10000 30 (.agg #[.int .i64 sn, .int .i64 sd]) (.agg #[.int .i64 bn, .int .i64 bd])).run Try.prog w = .ok false w := fun w => by rw [run_eqRatio, decide_eq_false o2]
     clear o2 f9 f10
     have r_mt0 := mt0.out
     have l_mt0 := cell_lt r_mt0
     dsimp only at l_mt0
     have r_mr0 := mr0.out
     have l_mr0 := cell_lt r_mr0
     dsimp only at l_mr0
     have r_bv0 := bv0.out
     have l_bv0 := cell_lt r_bv0
     dsimp only at l_bv0
     have r_bv1 := bv1.out
     have l_bv1 := cell_lt r_bv1
     dsimp only at l_bv1
     have r_ba0 := ba0.out
     have l_ba0 := cell_lt r_ba0
     dsimp only at l_ba0
     have r_ba1 := ba1.out
     have l_ba1 := cell_lt r_ba1
     dsimp only at l_ba1
     have r_bb0 := bb0.out
     have l_bb0 := cell_lt r_bb0
     dsimp only at l_bb0
     have r_bb1 := bb1.out
     have l_bb1 := cell_lt r_bb1
     dsimp only at l_bb1
     go_wp2_with fail
     refine name_c (fun v12 hw => ?_)
     have x : Ext u11 v12 := by rw [hw]; exact (by repeat (with_reducible first | assumption | exact Ext.refl _ | refine Ext.drew ?_ | refine Ext.drewN ?_ _ | refine Ext.alloc ?_ _ | refine xS ?_ _ | refine xT ?_ (by assumption)))
     have bp0 := hid (show v12.cell? ⟨u11.heap.size, 0, none⟩ = some (.int .i64 pn) by rw [hw]; simp [go_sem])
     have bp1 := hid (show v12.cell? ⟨u11.heap.size, 1, none⟩ = some (.int .i64 pd) by rw [hw]; simp [go_sem])
     clear r_mt0 l_mt0 r_mr0 l_mr0 r_bv0 l_bv0 r_bv1 l_bv1 r_ba0 l_ba0 r_ba1 l_ba1 r_bb0 l_bb0 r_bb1 l_bb1
     replace mt0 := hid (x.cell mt0.out)
     replace mr0 := hid (x.cell mr0.out)
     replace bv0 := hid (x.cell bv0.out)
     replace bv1 := hid (x.cell bv1.out)
     replace lp := hid (lp.out.ext x)
     replace lk := hid (lk.out.ext x)
     replace ba0 := hid (x.cell ba0.out)
     replace ba1 := hid (x.cell ba1.out)
     replace bb0 := hid (x.cell bb0.out)
     replace bb1 := hid (x.cell bb1.out)
     replace X := hid (X.out.trans x)
     clear x hw
     generalize u11.heap.size = Bbp at *
     refine (works_any _).mono ?_; rintro e u13 ⟨rfl, hE⟩
     have x : Ext v12 u13 := (by repeat (with_reducible first | assumption | exact Ext.refl _ | refine Ext.drew ?_ | refine Ext.drewN ?_ _ | refine Ext.alloc ?_ _ | refine xS ?_ _ | refine xT ?_ (by assumption)))
     replace mt0 := hid (x.cell mt0.out)
     replace mr0 := hid (x.cell mr0.out)
     replace bv0 := hid (x.cell bv0.out)
     replace bv1 := hid (x.cell bv1.out)
     replace lp := hid (lp.out.ext x)
     replace lk := hid (lk.out.ext x)
     replace ba0 := hid (x.cell ba0.out)
     replace ba1 := hid (x.cell ba1.out)
     replace bb0 := hid (x.cell bb0.out)
     replace bb1 := hid (x.cell bb1.out)
     replace bp0 := hid (x.cell bp0.out)
     replace bp1 := hid (x.cell bp1.out)
     replace X := hid (X.out.trans x)
     clear x hE
     go_wp2_with fail
     go_ret
     exact ⟨rfl, X.out⟩

end Go.Proofs.Ytommhgcgaclflaa
