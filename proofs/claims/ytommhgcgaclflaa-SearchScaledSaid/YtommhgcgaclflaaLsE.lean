/- The law SearchScaled, walked. (Printed by wip/laws.) -/
import Derived.Test.YtommhgcgaclflaaZB7
import Derived.Test.YtommhgcgaclflaaZScaled32
import Derived.Test.YtommhgcgaclflaaZB12
namespace Go.Proofs.Ytommhgcgaclflaa
set_option linter.unusedVariables false
set_option linter.unusedSimpArgs false
set_option linter.unusedSectionVars false
set_option linter.unnecessarySimpa false
open Go Go.RowKit Game
set_option maxRecDepth 100000

set_option maxHeartbeats 8000000 in
theorem searchScaled_any (t : List (List Int)) (q : FitT t) (a : Option Addr) (cap : Nat) (tm mo : Int) (w : World) (hT : Tab w a t) (hl : t.length ≤ 9223372036854775807) (hw : ∀ i, (row t i).length ≤ 9223372036854775807) (htm : 0 ≤ tm ∧ tm ≤ 255) (hmo : -128 ≤ mo ∧ mo ≤ 127) :
 Calls Try.prog 12 #[(.agg #[.slice a t.length cap]), .int .u8 tm, .int .i8 mo] w fun e w' => e = .returned (.bool true) ∧ Ext w w' := by
 have hT' := hid hT
 have hfi := hid (fun W hW => fineL_any t q a cap W hW hl hw)
 by_cases g : chkT t = 0
 case neg =>
  rw [decide_eq_false g] at hfi
  replace g := hid g
  clear hT hw hl
  go_enter Try.func12, Try.ntmps12
  go_wp2_with fail
  refine (hfi.out _ (hT'.out.ext (by repeat (with_reducible first | assumption | exact Ext.refl _ | refine Ext.drew ?_ | refine Ext.drewN ?_ _ | refine Ext.alloc ?_ _ | refine xS ?_ _ | refine xT ?_ (by assumption))))).mono ?_; rintro e w1 ⟨rfl, hE⟩
  go_wp2_with fail
  refine (works_any _).mono ?_; rintro e w2 ⟨rfl, hE2⟩
  go_wp2_with fail
  go_ret
  exact ⟨rfl, (by repeat (with_reducible first | assumption | exact Ext.refl _ | refine Ext.drew ?_ | refine Ext.drewN ?_ _ | refine Ext.alloc ?_ _ | refine xS ?_ _ | refine xT ?_ (by assumption)))⟩
 case pos =>
  rw [decide_eq_true g] at hfi
  have v := chkT_ok.1 g
  have m1 := v.m1; have m4 := v.m4; have n1 := v.n1; have n4 := v.n4
  obtain ⟨b, off, B, O, CP, rfl, hb, hcc⟩ := hT.full (by omega) v.eq (by omega)
  have HC := hid hcc
  obtain ⟨c, hc⟩ : ∃ c, 1 + tm % 4 = c := ⟨_, rfl⟩
  have hc1 : 1 ≤ c ∧ c ≤ 4 := by omega
  have hr0 : tm.tmod 4 = c - 1 := by rw [Int.tmod_eq_emod_of_nonneg htm.1]; omega
  have k1 : IntKind.u8.wrap (c - 1) = c - 1 := by
   have : c = 1 ∨ c = 2 ∨ c = 3 ∨ c = 4 := by omega
   rcases this with rfl | rfl | rfl | rfl <;> rfl
  have k2 := Go.IntWalk.i64_in (c - 1) (by omega)
  have k3 := Go.IntWalk.i64_in mo (by omega)
  have k4 : 1 + (c - 1) = c := by omega
  have k5 := Go.IntWalk.i64_in c (by omega)
  go_enter Try.func12, Try.ntmps12
  go_wp2_with fail
  refine (hfi.out _ (hT'.out.ext (by repeat (with_reducible first | assumption | exact Ext.refl _ | refine Ext.drew ?_ | refine Ext.drewN ?_ _ | refine Ext.alloc ?_ _ | refine xS ?_ _ | refine xT ?_ (by assumption))))).mono ?_; rintro e w1 ⟨rfl, hE⟩
  have mt0 := hE.cell (p := ⟨w.heap.size, 0, none⟩) (v := .slice (some ⟨b, off, none⟩) t.length cap) (by simp [go_sem])
  have X1 := hid (show Ext w w1 from (by repeat (with_reducible first | assumption | exact Ext.refl _ | refine Ext.drew ?_ | refine Ext.drewN ?_ _ | refine Ext.alloc ?_ _ | refine xS ?_ _ | refine xT ?_ (by assumption))))
  clear hE
  go_wp2_with fail
  refine name_wp (fun w0 hw0 => ?_)
  have x0 : Ext w1 w0 := by rw [hw0]; exact (by repeat (with_reducible first | assumption | exact Ext.refl _ | refine Ext.drew ?_ | refine Ext.drewN ?_ _ | refine Ext.alloc ?_ _ | refine xS ?_ _ | refine xT ?_ (by assumption)))
  have d0 : w0.cell? ⟨w.heap.size, 0, none⟩ = some (.slice (some ⟨b, off, none⟩) t.length cap) := x0.cell mt0
  have d2 : w0.cell? ⟨w1.heap.size, 0, none⟩ = some (.slice none 0 0) := by rw [hw0]; simp [go_sem]
  have g2 : w0.frozen? ⟨w1.heap.size, 0, none⟩ = false := by rw [hw0]; simp [go_sem]
  have s0 : w0.heap.size = w1.heap.size + 1 := by rw [hw0]; simp
  have hTD : w.heap.size < w1.heap.size := cell_lt mt0
  have hbD : b < w1.heap.size := Nat.lt_of_lt_of_le hb X1.out.size
  have hD1 := X1.out.size
  obtain ⟨D, hDD⟩ : ∃ D, w1.heap.size = D := ⟨_, rfl⟩
  obtain ⟨T, hTT⟩ : ∃ T, w.heap.size = T := ⟨_, rfl⟩
  have hwD := X1.out.size
  rw [hDD] at hwD
  rw [hDD, hTT] at hTD hD1
  rw [hDD] at d2 g2 s0 hbD ⊢
  rw [hTT] at d0 ⊢
  have X0 := hid (X1.out.trans x0)
  have hsc := hid (sclT_scl (t := t) (c := c) (d := mo) m1 hc1.1)
  clear hw0 x0 mt0
  replace hDD := hid hDD
  replace hTT := hid hTT
  have hlo := hid (fun i k => And.intro (v.lo i k) (v.hi i k))
  obtain ⟨m, hm⟩ : ∃ m, t.length = m := ⟨_, rfl⟩
  obtain ⟨n, hn⟩ : ∃ n, wid t = n := ⟨_, rfl⟩
  have hst2 : Hid (∀ k, sclN t c mo (k + 1) = sclN t c mo k ++ [sclR t c mo k n]) := hid (by rw [← hn]; exact fun k => rfl)
  rw [hm] at HC m1 m4 d0
  rw [hn] at HC n1 n4
  rw [hm]
  have hgv := hid (And.intro g v)
  replace hm := hid hm
  replace hn := hid hn
  have hmo2 := hid hmo
  clear hT hl hw g v hcc hb hr0 k1 k2 k3 k4 k5 hc X1 htm hmo hfi
  go_loopw [10] (fun i wr => ∃ (k : Nat) (vv : Value), k ≤ m ∧ i = .int .i64 k ∧ Hid (Grw wr D 25 vv (sclN t c mo k)) ∧ Hid (wr.cell? ⟨T, 0, none⟩ = some (.slice (some ⟨b, off, none⟩) m cap)) ∧ Hid (Ext w wr)) (fun i _ => (m - intOf i).toNat)
  case atStart => exact ⟨0, .slice none 0 0, by omega, rfl, hid ⟨d2, g2, OwnT.nil _ _ _ _, by omega⟩, hid d0, X0⟩
  case round =>
   obtain ⟨k, vv, hk, rfl, hG, hF, HW⟩ := hrel
   have d0' := hF.out
   by_cases hlt : k < m
   ·obtain ⟨w1, rfl⟩ : ∃ w1 : World, w1 = wr := ⟨_, rfl⟩
    obtain ⟨p0, _, p1⟩ := HC.out k hlt
    have P0 := hid (HW.out.cell p0)
    have P1 : Hid (∀ j, j < n → w1.cell? ⟨B k, O k + j, none⟩ = some (.int .i64 (ent t k j))) := hid fun j hj => HW.out.cell (p1 j hj)
    have hlt2 : (k : Int) < (m : Int) := by omega
    have u2 := Go.IntWalk.i64_in ((k : Int) + 1) (by omega)
    have hst := hid (hst2.out k)
    have D0 := hid d0'
    clear d0 d2 g2 p0 p1
    go_wp2_with fail
    go_loopw [11, 12] (fun r i wr => ∃ j : Nat, j ≤ n ∧ i = .int .i64 j ∧ Hid (OwnI wr w1.heap.size 2 r (sclR t c mo k j)) ∧ Hid (Ext w1 wr)) (fun _ i _ => (n - intOf i).toNat)
    case atStart => exact ⟨0, by omega, rfl, hid (OwnI.nil _ _ _), hid (Ext.refl _)⟩
    case round =>
     clear d0'
     obtain ⟨j, hj, rfl, ho, hx⟩ := hrel
     have d0' := hx.out.cell D0.out
     have r0 := hx.out.cell P0.out
     by_cases hjl : j < n
     ·have r1 := hx.out.cell (P1.out j hjl)
      have hlen := hid (sclR_len t c mo k j)
      have hsr := hid (show sclR t c mo k (j + 1) = sclR t c mo k j ++ [c * ent t k j + mo] from rfl)
      obtain ⟨bl, bh⟩ := hlo.out k j
      have hmul : -400 ≤ c * ent t k j ∧ c * ent t k j ≤ 400 := by
       have : c = 1 ∨ c = 2 ∨ c = 3 ∨ c = 4 := by omega
       rcases this with rfl | rfl | rfl | rfl <;> omega
      have z1 := Go.IntWalk.i64_in (c * ent t k j) (by omega)
      have z2 := Go.IntWalk.i64_in (c * ent t k j + mo) (by have := hmo2.out; omega)
      have u3 := Go.IntWalk.i64_in ((j : Int) + 1) (by omega)
      have hjl2 : (j : Int) < (n : Int) := by omega
      obtain ⟨x, hxv⟩ : ∃ x, ent t k j = x := ⟨_, rfl⟩
      rw [hxv] at r1 hsr z1 z2
      replace hxv := hid hxv
      clear bl bh hmul
      go_wp2_with (at_builtin; refine app_int rfl _ _ _ rfl 2 Try.underlying25 elemI64 w1.heap.size (sclR t c mo k j) (c * x + mo) _ rfl _ rfl (ho.out.ext (by repeat (with_reducible first | assumption | exact Ext.refl _ | refine Ext.drew ?_ | refine Ext.drewN ?_ _ | refine Ext.alloc ?_ _ | refine xS ?_ _ | refine xT ?_ (by assumption)))) ?c1 ?c2 ?c3 ?_; (case c1 => simp [go_sem]); (case c2 => rw [hlen.out]; omega); (case c3 => have := Ext.size hx.out; simp; omega); intro b9 cp9 w9 own9 ext9 hb9 g9; have own9 := hid own9; have hE9 := hid (ext9 w1 (by have := hx.out; exact (by repeat (with_reducible first | assumption | exact Ext.refl _ | refine Ext.drew ?_ | refine Ext.drewN ?_ _ | refine Ext.alloc ?_ _ | refine xS ?_ _ | refine xT ?_ (by assumption)))) (Nat.le_refl _)))
      go_roundw
      case rel => exact ⟨j + 1, by omega, by go_num, hid (by rw [hsr.out]; have h := own9.out; simp only [List.length_append, List.length_singleton] at h; exact h), hE9⟩
      case measure => simp [intOf]; omega
     ·have hjn : j = n := by omega
      have hnl : ¬ (j : Int) < (n : Int) := by omega
      rw [hjn] at ho
      have hlen := hid (sclR_len t c mo k n)
      have hlt2' := hid (sclN_len t c mo k)
      have hG2 := hid (hG.out.ext hx.out)
      have ra := hid ho.out.block
      obtain ⟨ba, cpa, rfl, hIa⟩ := ho.out.slice
      have hIa := hid hIa
      have hcapa := hid ho.out.cap
      have cD := hG2.out.c
      have fD := hG2.out.f
      have lD := hG2.out.l
      have hF2 := hid (hx.out.cell D0.out)
      have xw := hid (HW.out.trans hx.out)
      clear ho hjn
      go_wp2_with (at_builtin; refine app_row rfl _ _ _ rfl 25 Try.underlying22 elemRow (D + 1) (D + 1) (sclN t c mo k) vv rfl _ rfl (hG2.out.o.ext (by repeat (with_reducible first | assumption | exact Ext.refl _ | refine Ext.drew ?_ | refine Ext.drewN ?_ _ | refine Ext.alloc ?_ _ | refine xS ?_ _ | refine xT ?_ (by assumption)))) (sclR t c mo k n) ba _ cpa rfl ?c4 (hIa.out.ext (by repeat (with_reducible first | assumption | exact Ext.refl _ | refine Ext.drew ?_ | refine Ext.drewN ?_ _ | refine Ext.alloc ?_ _ | refine xS ?_ _ | refine xT ?_ (by assumption)))) hcapa.out.2 ?c5 ?c6 ?c7 ?_; (case c4 => simp [go_sem]); (case c5 => intro bb oo h0 e; subst e; have z1 := (ra.out bb (by simp [Value.ownBlock])).1; have z2 := hG.out.l; exact ⟨fun he => by have := (hG.out.o.block bb he).2; omega, by omega⟩); (case c6 => rw [hlt2'.out]; omega); (case c7 => simp; omega); intro b9 cp9 w9 own9 g9 at9 hb9; obtain ⟨q0, q1, q2, q3⟩ := (hG2.out.ext (show Ext wr _ from (by repeat (with_reducible first | assumption | exact Ext.refl _ | refine Ext.drew ?_ | refine Ext.drewN ?_ _ | refine Ext.alloc ?_ _ | refine xS ?_ _ | refine xT ?_ (by assumption))))).app g9; obtain ⟨r0, r1⟩ := (hG2.out.ext (show Ext wr _ from (by repeat (with_reducible first | assumption | exact Ext.refl _ | refine Ext.drew ?_ | refine Ext.drewN ?_ _ | refine Ext.alloc ?_ _ | refine xS ?_ _ | refine xT ?_ (by assumption))))).old g9 T hTD 0)
      have hlD := hG.out.l
      go_roundw
      case rel => exact ⟨k + 1, _, by omega, by go_num, hid (by rw [hst.out]; exact Grw.put own9 q0 q1 q2), hid (by simp [go_sem, r0, Nat.ne_of_lt hTD]; exact Ext.cell (by repeat (with_reducible first | assumption | exact Ext.refl _ | refine Ext.drew ?_ | refine Ext.drewN ?_ _ | refine Ext.alloc ?_ _ | refine xS ?_ _ | refine xT ?_ (by assumption))) hF2.out), hid (by have xx := q3 w (by have := xw.out; exact (by repeat (with_reducible first | assumption | exact Ext.refl _ | refine Ext.drew ?_ | refine Ext.drewN ?_ _ | refine Ext.alloc ?_ _ | refine xS ?_ _ | refine xT ?_ (by assumption)))) (by omega); exact (by repeat (with_reducible first | assumption | exact Ext.refl _ | refine Ext.drew ?_ | refine Ext.drewN ?_ _ | refine Ext.alloc ?_ _ | refine xS ?_ _ | refine xT ?_ (by assumption))))⟩
      case measure => simp [intOf]; omega
   ·have hkm : k = m := by omega
    have hnl : ¬ (k : Int) < (m : Int) := by omega
    obtain ⟨g, v⟩ := hgv.out
    have hxe : sclN t c mo k = sclT t c mo := by rw [hkm, ← hm.out]; rfl
    rw [hxe] at hG
    obtain ⟨x, hxx⟩ : ∃ x, sclT t c mo = x := ⟨_, rfl⟩
    have hxl : x.length = m := by rw [← hxx, sclT_len, hm.out]
    have hbx : ∀ i k, -1000 ≤ ent x i k ∧ ent x i k ≤ 1000 := fun i k => by rw [← hxx]; exact sclT_bd v hc1.1 hc1.2 hmo2.out.1 hmo2.out.2 i k
    have hrx : ∀ i, (row x i).length ≤ 4 := fun i => by rw [← hxx]; exact Nat.le_trans (sclT_rl i) (by rw [hn.out]; exact n4)
    have qx : FitT x := fun i k => by have := hbx i k; exact ⟨by omega, by omega⟩
    rw [hxx] at hG hsc
    replace hxx := hid hxx
    clear hxe
    obtain ⟨w5, rfl⟩ : ∃ w1 : World, w1 = wr := ⟨_, rfl⟩
    obtain ⟨aa, cc, hvv, hTx⟩ := hG.out.o.slice
    rw [hxl] at hvv
    have hfx := hid (fun W hW => fineL_any x qx aa cc W hW (by omega) (fun i => by have := hrx i; omega))
    rw [hxl] at hfx
    have mt0 := hid d0'
    have mx0 := hid (hG.out.c)
    rw [hvv] at mx0
    have tX := hid hTx
    have X := HW
    have hnm : ¬ (m : Int) < (m : Int) := by omega
    clear hG hvv hTx hF HW d0' d0 d2 g2 s0 X0
    rw [hkm]
    clear hkm hnl
    by_cases gx : chkT x = 0
    case neg =>
     rw [decide_eq_false gx] at hfx
     replace gx := hid gx
     clear g v
     have r_mt0 := mt0.out
     have l_mt0 := cell_lt r_mt0
     dsimp only at l_mt0
     have r_mx0 := mx0.out
     have l_mx0 := cell_lt r_mx0
     dsimp only at l_mx0
     go_wp2_with fail
     refine (hfx.out _ (tX.out.ext (show Ext w5 _ from (by repeat (with_reducible first | assumption | exact Ext.refl _ | refine Ext.drew ?_ | refine Ext.drewN ?_ _ | refine Ext.alloc ?_ _ | refine xS ?_ _ | refine xT ?_ (by assumption)))))).mono ?_; rintro e u1 ⟨rfl, hE⟩
     have x : Ext w5 u1 := (by repeat (with_reducible first | assumption | exact Ext.refl _ | refine Ext.drew ?_ | refine Ext.drewN ?_ _ | refine Ext.alloc ?_ _ | refine xS ?_ _ | refine xT ?_ (by assumption)))
     clear r_mt0 l_mt0 r_mx0 l_mx0
     replace mt0 := hid (x.cell mt0.out)
     replace mx0 := hid (x.cell mx0.out)
     replace tX := hid (tX.out.ext x)
     replace X := hid (X.out.trans x)
     clear x hE
     go_wp2_with fail
     refine (works_any _).mono ?_; rintro e u2 ⟨rfl, hE⟩
     have x : Ext u1 u2 := (by repeat (with_reducible first | assumption | exact Ext.refl _ | refine Ext.drew ?_ | refine Ext.drewN ?_ _ | refine Ext.alloc ?_ _ | refine xS ?_ _ | refine xT ?_ (by assumption)))
     replace mt0 := hid (x.cell mt0.out)
     replace mx0 := hid (x.cell mx0.out)
     replace tX := hid (tX.out.ext x)
     replace X := hid (X.out.trans x)
     clear x hE
     go_wp2_with fail
     go_ret
     exact ⟨rfl, X.out⟩
    case pos =>
     rw [decide_eq_true gx] at hfx
     have vx := chkT_ok.1 gx
     have p1 := (bestL_vld v).len
     have p2 := (bestL_vld (turn_vld v)).len
     rw [turn_len, hn.out] at p2
     rw [hm.out] at p1
     obtain ⟨y1, y2, y3, y4, y5, y6⟩ := val_small v
     have hval := hsc.out.val v vx
     have o1 : ratN (c * (val t).1 + mo * (val t).2) (val t).2 = (val x).1 := (congrArg Prod.fst hval).symm
     have o2 : ratD (c * (val t).1 + mo * (val t).2) (val t).2 = (val x).2 := (congrArg Prod.snd hval).symm
     obtain ⟨f1, f2, f3⟩ := scl_proof hsc.out g gx
     have hwx : wid x = n := by rw [hsc.out.wd, hn.out]
     have h1 := hid (fun W hW => valueL_any t q g (some ⟨b, off, none⟩) cap W hW)
     have h2 := hid (fun W hW => valueL_any x qx gx aa cc W hW)
     have h4 := hid (fun bb cb dd cd W hW hK hL => checkProof_any x qx aa cc (bestL t) (best_i64 v) (by omega) bb cb (bestL (turn t)) (best_i64 (turn_vld v)) (by omega) dd cd W hW (by omega) (fun i => by have := hrx i; omega) hK hL)
     rw [hm.out, hn.out] at h1
     rw [hxl, hwx] at h2
     rw [f1, f2, f3, p1, p2, hxl] at h4
     obtain ⟨vn, hvn⟩ : ∃ x, (val t).1 = x := ⟨_, rfl⟩
     obtain ⟨vd, hvd⟩ : ∃ x, (val t).2 = x := ⟨_, rfl⟩
     obtain ⟨xn, hxn⟩ : ∃ z, (val x).1 = z := ⟨_, rfl⟩
     obtain ⟨xd, hxd⟩ : ∃ z, (val x).2 = z := ⟨_, rfl⟩
     rw [hvn, hvd, hxn] at o1
     rw [hvn, hvd, hxd] at o2
     rw [hvn, hvd] at h1
     rw [hxn, hxd] at h2 h4
     rw [hvd] at y1 y2
     rw [hvn, hvd] at y3 y4
     have c4 : c = 1 ∨ c = 2 ∨ c = 3 ∨ c = 4 := by omega
     have b1 : -80000000000 ≤ c * vn ∧ c * vn ≤ 80000000000 := by rcases c4 with rfl | rfl | rfl | rfl <;> omega
     have b2 : -30000000000 ≤ mo * vd ∧ mo * vd ≤ 30000000000 := by
      have hmm := hmo2.out
      have e1 : mo * vd ≤ 127 * vd := Int.mul_le_mul_of_nonneg_right hmm.2 (by omega)
      have e2 : -128 * vd ≤ mo * vd := Int.mul_le_mul_of_nonneg_right hmm.1 (by omega)
      exact ⟨by omega, by omega⟩
     have z1 := Go.IntWalk.i64_in (c * vn) (by omega)
     have z2 := Go.IntWalk.i64_in (mo * vd) (by omega)
     have z3 := Go.IntWalk.i64_in (c * vn + mo * vd) (by omega)
     have h3 := hid (fun W => byR_any (c * vn + mo * vd) vd (by omega) (by omega) (by omega) (by omega) W)
     rw [o1, o2] at h3
     obtain ⟨rl, hrl⟩ : ∃ x, bestL t = x := ⟨_, rfl⟩
     obtain ⟨kl, hkl⟩ : ∃ x, bestL (turn t) = x := ⟨_, rfl⟩
     rw [hrl, hkl] at h1 h4
     have eS : ∀ w, (Op.equalIn 10000 30 (.agg #[.int .i64 xn, .int .i64 xd]) (.agg #[.int .i64 xn, .int .i64 xd])).run Try.prog w = .ok true w := fun w => by rw [run_eqRatio]; simp
     clear y1 y2 y3 y4 y5 y6 o1 o2 b1 b2 c4 hval f1 f2 f3 p1 p2 hvn hvd hxn hxd hrl hkl vx g v gx
     have r_mt0 := mt0.out
     have l_mt0 := cell_lt r_mt0
     dsimp only at l_mt0
     have r_mx0 := mx0.out
     have l_mx0 := cell_lt r_mx0
     dsimp only at l_mx0
     go_wp2_with fail
     refine (hfx.out _ (tX.out.ext (show Ext w5 _ from (by repeat (with_reducible first | assumption | exact Ext.refl _ | refine Ext.drew ?_ | refine Ext.drewN ?_ _ | refine Ext.alloc ?_ _ | refine xS ?_ _ | refine xT ?_ (by assumption)))))).mono ?_; rintro e u1 ⟨rfl, hE⟩
     have x : Ext w5 u1 := (by repeat (with_reducible first | assumption | exact Ext.refl _ | refine Ext.drew ?_ | refine Ext.drewN ?_ _ | refine Ext.alloc ?_ _ | refine xS ?_ _ | refine xT ?_ (by assumption)))
     clear r_mt0 l_mt0 r_mx0 l_mx0
     replace mt0 := hid (x.cell mt0.out)
     replace mx0 := hid (x.cell mx0.out)
     replace tX := hid (tX.out.ext x)
     replace X := hid (X.out.trans x)
     clear x hE
     have r_mt0 := mt0.out
     have l_mt0 := cell_lt r_mt0
     dsimp only at l_mt0
     have r_mx0 := mx0.out
     have l_mx0 := cell_lt r_mx0
     dsimp only at l_mx0
     go_wp2_with fail
     refine (h1.out _ (hT'.out.ext (X.out.trans (show Ext u1 _ from (by repeat (with_reducible first | assumption | exact Ext.refl _ | refine Ext.drew ?_ | refine Ext.drewN ?_ _ | refine Ext.alloc ?_ _ | refine xS ?_ _ | refine xT ?_ (by assumption))))))).mono ?_; rintro e u2 ⟨ar, cr, ak, ck, rfl, lr_, lk_, hE⟩
     have x : Ext u1 u2 := (by repeat (with_reducible first | assumption | exact Ext.refl _ | refine Ext.drew ?_ | refine Ext.drewN ?_ _ | refine Ext.alloc ?_ _ | refine xS ?_ _ | refine xT ?_ (by assumption)))
     clear r_mt0 l_mt0 r_mx0 l_mx0
     replace mt0 := hid (x.cell mt0.out)
     replace mx0 := hid (x.cell mx0.out)
     replace tX := hid (tX.out.ext x)
     replace X := hid (X.out.trans x)
     have lr := hid lr_
     clear lr_
     have lk := hid lk_
     clear lk_
     clear x hE
     have r_mt0 := mt0.out
     have l_mt0 := cell_lt r_mt0
     dsimp only at l_mt0
     have r_mx0 := mx0.out
     have l_mx0 := cell_lt r_mx0
     dsimp only at l_mx0
     go_wp2_with fail
     refine name_c (fun v3 hw => ?_)
     have x : Ext u2 v3 := by rw [hw]; exact (by repeat (with_reducible first | assumption | exact Ext.refl _ | refine Ext.drew ?_ | refine Ext.drewN ?_ _ | refine Ext.alloc ?_ _ | refine xS ?_ _ | refine xT ?_ (by assumption)))
     have bv0 := hid (show v3.cell? ⟨u2.heap.size, 0, none⟩ = some (.int .i64 vn) by rw [hw]; simp [go_sem])
     have bv1 := hid (show v3.cell? ⟨u2.heap.size, 1, none⟩ = some (.int .i64 vd) by rw [hw]; simp [go_sem])
     clear r_mt0 l_mt0 r_mx0 l_mx0
     replace mt0 := hid (x.cell mt0.out)
     replace mx0 := hid (x.cell mx0.out)
     replace tX := hid (tX.out.ext x)
     replace lr := hid (lr.out.ext x)
     replace lk := hid (lk.out.ext x)
     replace X := hid (X.out.trans x)
     clear x hw
     generalize u2.heap.size = Bbv at *
     refine (h2.out _ (tX.out.ext (show Ext v3 _ from (by repeat (with_reducible first | assumption | exact Ext.refl _ | refine Ext.drew ?_ | refine Ext.drewN ?_ _ | refine Ext.alloc ?_ _ | refine xS ?_ _ | refine xT ?_ (by assumption)))))).mono ?_; rintro e u4 ⟨a8, c8, a9, c9, rfl, ls_, lo_, hE⟩
     have x : Ext v3 u4 := (by repeat (with_reducible first | assumption | exact Ext.refl _ | refine Ext.drew ?_ | refine Ext.drewN ?_ _ | refine Ext.alloc ?_ _ | refine xS ?_ _ | refine xT ?_ (by assumption)))
     replace mt0 := hid (x.cell mt0.out)
     replace mx0 := hid (x.cell mx0.out)
     replace tX := hid (tX.out.ext x)
     replace lr := hid (lr.out.ext x)
     replace lk := hid (lk.out.ext x)
     replace bv0 := hid (x.cell bv0.out)
     replace bv1 := hid (x.cell bv1.out)
     replace X := hid (X.out.trans x)
     have ls := hid ls_
     clear ls_
     have lo := hid lo_
     clear lo_
     clear x hE
     clear ls lo
     have r_mt0 := mt0.out
     have l_mt0 := cell_lt r_mt0
     dsimp only at l_mt0
     have r_mx0 := mx0.out
     have l_mx0 := cell_lt r_mx0
     dsimp only at l_mx0
     have r_bv0 := bv0.out
     have l_bv0 := cell_lt r_bv0
     dsimp only at l_bv0
     have r_bv1 := bv1.out
     have l_bv1 := cell_lt r_bv1
     dsimp only at l_bv1
     go_wp2_with fail
     refine name_wp (fun v5 hw => ?_)
     have x : Ext u4 v5 := by rw [hw]; exact (by repeat (with_reducible first | assumption | exact Ext.refl _ | refine Ext.drew ?_ | refine Ext.drewN ?_ _ | refine Ext.alloc ?_ _ | refine xS ?_ _ | refine xT ?_ (by assumption)))
     have bx0 := hid (show v5.cell? ⟨u4.heap.size, 0, none⟩ = some (.int .i64 xn) by rw [hw]; simp [go_sem])
     have bx1 := hid (show v5.cell? ⟨u4.heap.size, 1, none⟩ = some (.int .i64 xd) by rw [hw]; simp [go_sem])
     clear r_mt0 l_mt0 r_mx0 l_mx0 r_bv0 l_bv0 r_bv1 l_bv1
     replace mt0 := hid (x.cell mt0.out)
     replace mx0 := hid (x.cell mx0.out)
     replace tX := hid (tX.out.ext x)
     replace lr := hid (lr.out.ext x)
     replace lk := hid (lk.out.ext x)
     replace bv0 := hid (x.cell bv0.out)
     replace bv1 := hid (x.cell bv1.out)
     replace X := hid (X.out.trans x)
     clear x hw
     generalize u4.heap.size = Bbx at *
     have q0 := bv0.out
     have q1 := bv1.out
     have q2 := bx0.out
     have q3 := bx1.out
     refine name_act (fun A_ hA_ => ?_)
     obtain ⟨Q2, hQ2⟩ : ∃ Q2 : Exit → Act → World → Prop, Q2 = fun e a' w' => e = .normal ∧ ∃ (v0_ v1_ v2_ v3_ v4_ v5_ v6_ v7_ v8_ v9_ v10_ v11_ v12_ v13_ v14_ v15_ v16_ v17_ v18_ v20_ : Value), a' = ((((((((((((((((((((((A_.put (some 89) (v0_)).put (some 90) (v1_)).put (some 91) (v2_)).put (some 92) (v3_)).put (some 93) (v4_)).put (some 94) (v5_)).put (some 95) (v6_)).put (some 96) (v7_)).put (some 97) (v8_)).put (some 98) (v9_)).put (some 99) (v10_)).put (some 100) (v11_)).put (some 101) (v12_)).put (some 102) (v13_)).put (some 103) (v14_)).put (some 104) (v15_)).put (some 105) (v16_)).put (some 106) (v17_)).put (some 107) (v18_)).put (some 108) (.agg #[.int .i64 xn, .int .i64 xd])).put (some 109) (v20_)).put (some 110) (.bool false)) ∧ Ext v5 w' := ⟨_, rfl⟩
     have hpan : ∀ c a a' w w', Q2 (.panic c) a w → Q2 (.panic c) a' w' := by rw [hQ2]; rintro c a a' w w' ⟨h, _⟩; cases h
     replace hQ2 := hid hQ2
     refine wp_mono (Q := Q2) ?_ ?_
     ·subst hA_
      refine wp_region_held_drew (S := fun w' => Ext v5 w') (by kernel_rfl) (by repeat (with_reducible first | assumption | exact Ext.refl _ | refine Ext.drew ?_ | refine Ext.drewN ?_ _ | refine Ext.alloc ?_ _ | refine xS ?_ _ | refine xT ?_ (by assumption))) fun hHeld => ?_
      refine name_any (fun W0 hW => ?_)
      have s0 : Ext v5 W0 := by rw [hW]; exact hHeld
      clear hW hHeld
      refine tkA (i := 0) (v := ?_) rfl (fun c a w h => hpan c _ _ _ _ h) (Or.inl ⟨by rfl, ?yl⟩) (by assumption) ?_
      case yl => (intro w hSw; (try dsimp only at hSw); have k_0 := Ext.cell hSw q0; have k_1 := Ext.cell hSw q1; have k_2 := Ext.cell hSw q2; have k_3 := Ext.cell hSw q3; go_simp); with_reducible rfl
      try simp only [sxA, sxB, sxC, Act.put, sxD, sxE, sxF]
      refine tkA (i := 1) (v := ?_) rfl (fun c a w h => hpan c _ _ _ _ h) (Or.inl ⟨by rfl, ?yl⟩) (by assumption) ?_
      case yl => (intro w hSw; (try dsimp only at hSw); have k_0 := Ext.cell hSw q0; have k_1 := Ext.cell hSw q1; have k_2 := Ext.cell hSw q2; have k_3 := Ext.cell hSw q3; go_simp); with_reducible rfl
      try simp only [sxA, sxB, sxC, Act.put, sxD, sxE, sxF]
      refine tkA (i := 2) (v := ?_) rfl (fun c a w h => hpan c _ _ _ _ h) (Or.inl ⟨by rfl, ?yl⟩) (by assumption) ?_
      case yl => (intro w hSw; (try dsimp only at hSw); have k_0 := Ext.cell hSw q0; have k_1 := Ext.cell hSw q1; have k_2 := Ext.cell hSw q2; have k_3 := Ext.cell hSw q3; go_simp); with_reducible rfl
      try simp only [sxA, sxB, sxC, Act.put, sxD, sxE, sxF]
      refine tkA (i := 3) (v := ?_) rfl (fun c a w h => hpan c _ _ _ _ h) (Or.inl ⟨by rfl, ?yl⟩) (by assumption) ?_
      case yl => (intro w hSw; (try dsimp only at hSw); have k_0 := Ext.cell hSw q0; have k_1 := Ext.cell hSw q1; have k_2 := Ext.cell hSw q2; have k_3 := Ext.cell hSw q3; go_simp); with_reducible rfl
      try simp only [sxA, sxB, sxC, Act.put, sxD, sxE, sxF]
      refine tkA (i := 4) (v := ?_) rfl (fun c a w h => hpan c _ _ _ _ h) (Or.inl ⟨by rfl, ?yl⟩) (by assumption) ?_
      case yl => (intro w hSw; (try dsimp only at hSw); have k_0 := Ext.cell hSw q0; have k_1 := Ext.cell hSw q1; have k_2 := Ext.cell hSw q2; have k_3 := Ext.cell hSw q3; go_simp); with_reducible rfl
      try simp only [sxA, sxB, sxC, Act.put, sxD, sxE, sxF]
      refine tkA (i := 5) (v := ?_) rfl (fun c a w h => hpan c _ _ _ _ h) (Or.inl ⟨by rfl, ?yl⟩) (by assumption) ?_
      case yl => (intro w hSw; (try dsimp only at hSw); have k_0 := Ext.cell hSw q0; have k_1 := Ext.cell hSw q1; have k_2 := Ext.cell hSw q2; have k_3 := Ext.cell hSw q3; go_simp); with_reducible rfl
      try simp only [sxA, sxB, sxC, Act.put, sxD, sxE, sxF]
      refine tkA (i := 6) (v := ?_) rfl (fun c a w h => hpan c _ _ _ _ h) (Or.inl ⟨by rfl, ?yl⟩) (by assumption) ?_
      case yl => (intro w hSw; (try dsimp only at hSw); have k_0 := Ext.cell hSw q0; have k_1 := Ext.cell hSw q1; have k_2 := Ext.cell hSw q2; have k_3 := Ext.cell hSw q3; go_simp); with_reducible rfl
      try simp only [sxA, sxB, sxC, Act.put, sxD, sxE, sxF]
      refine tkA (i := 7) (v := ?_) rfl (fun c a w h => hpan c _ _ _ _ h) (Or.inl ⟨by rfl, ?yl⟩) (by assumption) ?_
      case yl => (intro w hSw; (try dsimp only at hSw); have k_0 := Ext.cell hSw q0; have k_1 := Ext.cell hSw q1; have k_2 := Ext.cell hSw q2; have k_3 := Ext.cell hSw q3; go_simp); with_reducible rfl
      try simp only [sxA, sxB, sxC, Act.put, sxD, sxE, sxF]
      refine tkA (i := 8) (v := ?_) rfl (fun c a w h => hpan c _ _ _ _ h) (Or.inl ⟨by rfl, ?yl⟩) (by assumption) ?_
      case yl => (intro w hSw; (try dsimp only at hSw); have k_0 := Ext.cell hSw q0; have k_1 := Ext.cell hSw q1; have k_2 := Ext.cell hSw q2; have k_3 := Ext.cell hSw q3; go_simp); with_reducible rfl
      try simp only [sxA, sxB, sxC, Act.put, sxD, sxE, sxF]
      refine tkA (i := 9) (v := ?_) rfl (fun c a w h => hpan c _ _ _ _ h) (Or.inl ⟨by rfl, ?yl⟩) (by assumption) ?_
      case yl => (intro w hSw; (try dsimp only at hSw); have k_0 := Ext.cell hSw q0; have k_1 := Ext.cell hSw q1; have k_2 := Ext.cell hSw q2; have k_3 := Ext.cell hSw q3; go_simp); with_reducible rfl
      try simp only [sxA, sxB, sxC, Act.put, sxD, sxE, sxF]
      refine tkA (i := 10) (v := ?_) rfl (fun c a w h => hpan c _ _ _ _ h) (Or.inl ⟨by rfl, ?yl⟩) (by assumption) ?_
      case yl => (intro w hSw; (try dsimp only at hSw); have k_0 := Ext.cell hSw q0; have k_1 := Ext.cell hSw q1; have k_2 := Ext.cell hSw q2; have k_3 := Ext.cell hSw q3; go_simp); with_reducible rfl
      try simp only [sxA, sxB, sxC, Act.put, sxD, sxE, sxF]
      refine tkA (i := 11) (v := ?_) rfl (fun c a w h => hpan c _ _ _ _ h) (Or.inl ⟨by rfl, ?yl⟩) (by assumption) ?_
      case yl => (intro w hSw; (try dsimp only at hSw); have k_0 := Ext.cell hSw q0; have k_1 := Ext.cell hSw q1; have k_2 := Ext.cell hSw q2; have k_3 := Ext.cell hSw q3; go_simp); with_reducible rfl
      try simp only [sxA, sxB, sxC, Act.put, sxD, sxE, sxF]
      refine tkA (i := 12) (v := ?_) rfl (fun c a w h => hpan c _ _ _ _ h) (Or.inl ⟨by rfl, ?yl⟩) (by assumption) ?_
      case yl => (intro w hSw; (try dsimp only at hSw); have k_0 := Ext.cell hSw q0; have k_1 := Ext.cell hSw q1; have k_2 := Ext.cell hSw q2; have k_3 := Ext.cell hSw q3; go_simp); with_reducible rfl
      try simp only [sxA, sxB, sxC, Act.put, sxD, sxE, sxF]
      refine tkA (i := 13) (v := ?_) rfl (fun c a w h => hpan c _ _ _ _ h) (Or.inl ⟨by rfl, ?yl⟩) (by assumption) ?_
      case yl => (intro w hSw; (try dsimp only at hSw); have k_0 := Ext.cell hSw q0; have k_1 := Ext.cell hSw q1; have k_2 := Ext.cell hSw q2; have k_3 := Ext.cell hSw q3; go_simp); with_reducible rfl
      try simp only [sxA, sxB, sxC, Act.put, sxD, sxE, sxF]
      refine tkA (i := 14) (v := ?_) rfl (fun c a w h => hpan c _ _ _ _ h) (Or.inl ⟨by rfl, ?yl⟩) (by assumption) ?_
      case yl => (intro w hSw; (try dsimp only at hSw); have k_0 := Ext.cell hSw q0; have k_1 := Ext.cell hSw q1; have k_2 := Ext.cell hSw q2; have k_3 := Ext.cell hSw q3; go_simp); with_reducible rfl
      try simp only [sxA, sxB, sxC, Act.put, sxD, sxE, sxF]
      refine tkA (i := 15) (v := ?_) rfl (fun c a w h => hpan c _ _ _ _ h) (Or.inl ⟨by rfl, ?yl⟩) (by assumption) ?_
      case yl => (intro w hSw; (try dsimp only at hSw); have k_0 := Ext.cell hSw q0; have k_1 := Ext.cell hSw q1; have k_2 := Ext.cell hSw q2; have k_3 := Ext.cell hSw q3; go_simp); with_reducible rfl
      try simp only [sxA, sxB, sxC, Act.put, sxD, sxE, sxF]
      refine tkA (i := 16) (v := ?_) rfl (fun c a w h => hpan c _ _ _ _ h) (Or.inl ⟨by rfl, ?yl⟩) (by assumption) ?_
      case yl => (intro w hSw; (try dsimp only at hSw); have k_0 := Ext.cell hSw q0; have k_1 := Ext.cell hSw q1; have k_2 := Ext.cell hSw q2; have k_3 := Ext.cell hSw q3; go_simp); with_reducible rfl
      try simp only [sxA, sxB, sxC, Act.put, sxD, sxE, sxF]
      refine tkA (i := 17) (v := ?_) rfl (fun c a w h => hpan c _ _ _ _ h) (Or.inl ⟨by rfl, ?yl⟩) (by assumption) ?_
      case yl => (intro w hSw; (try dsimp only at hSw); have k_0 := Ext.cell hSw q0; have k_1 := Ext.cell hSw q1; have k_2 := Ext.cell hSw q2; have k_3 := Ext.cell hSw q3; go_simp); with_reducible rfl
      try simp only [sxA, sxB, sxC, Act.put, sxD, sxE, sxF]
      refine tkA (i := 18) (v := ?_) rfl (fun c a w h => hpan c _ _ _ _ h) (Or.inl ⟨by rfl, ?yl⟩) (by assumption) ?_
      case yl => (intro w hSw; (try dsimp only at hSw); have k_0 := Ext.cell hSw q0; have k_1 := Ext.cell hSw q1; have k_2 := Ext.cell hSw q2; have k_3 := Ext.cell hSw q3; go_simp); with_reducible rfl
      try simp only [sxA, sxB, sxC, Act.put, sxD, sxE, sxF]
      refine wpAnyH_ready (rs := [19]) (by kernel_rfl) (by simp) ?_
      refine AllReadyH.cons (o := _) rfl (fun K hK => ?_) AllReadyH.nil
      go_simp
      refine (h3.out _).mono ?_; rintro e W1 ⟨rfl, e1⟩
      have s1 := s0.trans e1
      refine hK.out _ _ s1 (fun _ => ?_)
      clear hK K
      (try simp only [sxA, sxB, sxC, Act.put, sxD, sxE, sxF])
      refine tkA (i := 20) (v := ?_) rfl (fun c a w h => hpan c _ _ _ _ h) (Or.inl ⟨by rfl, ?yl⟩) (by assumption) ?_
      case yl => (intro w hSw; (try dsimp only at hSw); have k_0 := Ext.cell hSw q0; have k_1 := Ext.cell hSw q1; have k_2 := Ext.cell hSw q2; have k_3 := Ext.cell hSw q3; go_simp); with_reducible rfl
      try simp only [sxA, sxB, sxC, Act.put, sxD, sxE, sxF]
      refine tkA (i := 21) (v := ?_) rfl (fun c a w h => hpan c _ _ _ _ h) (Or.inl ⟨by rfl, ?yl⟩) (by assumption) ?_
      case yl => (intro w hSw; (try dsimp only at hSw); have k_0 := Ext.cell hSw q0; have k_1 := Ext.cell hSw q1; have k_2 := Ext.cell hSw q2; have k_3 := Ext.cell hSw q3; go_simp); with_reducible rfl
      try simp only [sxA, sxB, sxC, Act.put, sxD, sxE, sxF]
      refine wpAnyH_done (by kernel_rfl) ?_ _
      try simp only [sxA, sxB, sxC, Act.put, sxD, sxE, sxF]
      rw [hQ2.out]
      refine ⟨rfl, ?u1_0_1, ?u1_1_1, ?u1_2_1, ?u1_3_1, ?u1_4_1, ?u1_5_1, ?u1_6_1, ?u1_7_1, ?u1_8_1, ?u1_9_1, ?u1_10_1, ?u1_11_1, ?u1_12_1, ?u1_13_1, ?u1_14_1, ?u1_15_1, ?u1_16_1, ?u1_17_1, ?u1_18_1, ?u1_19_1, ?eq1_1, s1⟩
      case eq1_1 => ((try simp only [sxA, sxB, sxC, Act.put, sxD, sxE, sxF]); first | done | with_reducible rfl | rfl)
     rw [hQ2.out]
     rintro e a' w9 ⟨rfl, v0_, v1_, v2_, v3_, v4_, v5_, v6_, v7_, v8_, v9_, v10_, v11_, v12_, v13_, v14_, v15_, v16_, v17_, v18_, v20_, rfl, x⟩
     clear hQ2 hpan; clear Q2
     subst hA_
     simp only [sxA, sxB, sxC, Act.put, sxD, sxE, sxF]
     clear q0 q1 q2 q3
     replace mt0 := hid (x.cell mt0.out)
     replace mx0 := hid (x.cell mx0.out)
     replace tX := hid (tX.out.ext x)
     replace lr := hid (lr.out.ext x)
     replace lk := hid (lk.out.ext x)
     replace bv0 := hid (x.cell bv0.out)
     replace bv1 := hid (x.cell bv1.out)
     replace bx0 := hid (x.cell bx0.out)
     replace bx1 := hid (x.cell bx1.out)
     replace X := hid (X.out.trans x)
     clear x
     have r_mt0 := mt0.out
     have l_mt0 := cell_lt r_mt0
     dsimp only at l_mt0
     have r_mx0 := mx0.out
     have l_mx0 := cell_lt r_mx0
     dsimp only at l_mx0
     have r_bx0 := bx0.out
     have l_bx0 := cell_lt r_bx0
     dsimp only at l_bx0
     have r_bx1 := bx1.out
     have l_bx1 := cell_lt r_bx1
     dsimp only at l_bx1
     go_wp2_with fail
     refine (h4.out _ _ _ _ _ (tX.out.ext (show Ext w9 _ from (by repeat (with_reducible first | assumption | exact Ext.refl _ | refine Ext.drew ?_ | refine Ext.drewN ?_ _ | refine Ext.alloc ?_ _ | refine xS ?_ _ | refine xT ?_ (by assumption))))) (lr.out.ext (show Ext w9 _ from (by repeat (with_reducible first | assumption | exact Ext.refl _ | refine Ext.drew ?_ | refine Ext.drewN ?_ _ | refine Ext.alloc ?_ _ | refine xS ?_ _ | refine xT ?_ (by assumption))))) (lk.out.ext (show Ext w9 _ from (by repeat (with_reducible first | assumption | exact Ext.refl _ | refine Ext.drew ?_ | refine Ext.drewN ?_ _ | refine Ext.alloc ?_ _ | refine xS ?_ _ | refine xT ?_ (by assumption)))))).mono ?_; rintro e u6 ⟨rfl, hE⟩
     have x : Ext w9 u6 := (by repeat (with_reducible first | assumption | exact Ext.refl _ | refine Ext.drew ?_ | refine Ext.drewN ?_ _ | refine Ext.alloc ?_ _ | refine xS ?_ _ | refine xT ?_ (by assumption)))
     clear r_mt0 l_mt0 r_mx0 l_mx0 r_bx0 l_bx0 r_bx1 l_bx1
     replace mt0 := hid (x.cell mt0.out)
     replace mx0 := hid (x.cell mx0.out)
     replace tX := hid (tX.out.ext x)
     replace lr := hid (lr.out.ext x)
     replace lk := hid (lk.out.ext x)
     replace bv0 := hid (x.cell bv0.out)
     replace bv1 := hid (x.cell bv1.out)
     replace bx0 := hid (x.cell bx0.out)
     replace bx1 := hid (x.cell bx1.out)
     replace X := hid (X.out.trans x)
     clear x hE
     have r_bx0 := bx0.out
     have l_bx0 := cell_lt r_bx0
     dsimp only at l_bx0
     have r_bx1 := bx1.out
     have l_bx1 := cell_lt r_bx1
     dsimp only at l_bx1
     go_wp2_with fail
     refine name_c (fun v7 hw => ?_)
     have x : Ext u6 v7 := by rw [hw]; exact (by repeat (with_reducible first | assumption | exact Ext.refl _ | refine Ext.drew ?_ | refine Ext.drewN ?_ _ | refine Ext.alloc ?_ _ | refine xS ?_ _ | refine xT ?_ (by assumption)))
     have bp0 := hid (show v7.cell? ⟨u6.heap.size, 0, none⟩ = some (.int .i64 xn) by rw [hw]; simp [go_sem])
     have bp1 := hid (show v7.cell? ⟨u6.heap.size, 1, none⟩ = some (.int .i64 xd) by rw [hw]; simp [go_sem])
     clear r_bx0 l_bx0 r_bx1 l_bx1
     replace mt0 := hid (x.cell mt0.out)
     replace mx0 := hid (x.cell mx0.out)
     replace tX := hid (tX.out.ext x)
     replace lr := hid (lr.out.ext x)
     replace lk := hid (lk.out.ext x)
     replace bv0 := hid (x.cell bv0.out)
     replace bv1 := hid (x.cell bv1.out)
     replace bx0 := hid (x.cell bx0.out)
     replace bx1 := hid (x.cell bx1.out)
     replace X := hid (X.out.trans x)
     clear x hw
     generalize u6.heap.size = Bbp at *
     refine (works_any _).mono ?_; rintro e u8 ⟨rfl, hE⟩
     have x : Ext v7 u8 := (by repeat (with_reducible first | assumption | exact Ext.refl _ | refine Ext.drew ?_ | refine Ext.drewN ?_ _ | refine Ext.alloc ?_ _ | refine xS ?_ _ | refine xT ?_ (by assumption)))
     replace mt0 := hid (x.cell mt0.out)
     replace mx0 := hid (x.cell mx0.out)
     replace tX := hid (tX.out.ext x)
     replace lr := hid (lr.out.ext x)
     replace lk := hid (lk.out.ext x)
     replace bv0 := hid (x.cell bv0.out)
     replace bv1 := hid (x.cell bv1.out)
     replace bx0 := hid (x.cell bx0.out)
     replace bx1 := hid (x.cell bx1.out)
     replace bp0 := hid (x.cell bp0.out)
     replace bp1 := hid (x.cell bp1.out)
     replace X := hid (X.out.trans x)
     clear x hE
     go_wp2_with fail
     go_ret
     exact ⟨rfl, X.out⟩

end Go.Proofs.Ytommhgcgaclflaa
