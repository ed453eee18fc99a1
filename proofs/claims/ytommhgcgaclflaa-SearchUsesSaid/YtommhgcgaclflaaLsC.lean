/- The law SearchUses, walked. (Printed by wip/laws.) -/
import Derived.Test.YtommhgcgaclflaaZB7
import Derived.Test.YtommhgcgaclflaaZUses33
import Derived.Test.YtommhgcgaclflaaZUses34
namespace Go.Proofs.Ytommhgcgaclflaa
set_option linter.unusedVariables false
set_option linter.unusedSimpArgs false
set_option linter.unusedSectionVars false
set_option linter.unnecessarySimpa false
open Go Go.RowKit Game
set_option maxRecDepth 100000

set_option maxHeartbeats 8000000 in
theorem searchUses_any (t : List (List Int)) (q : FitT t) (a : Option Addr) (cap : Nat) (w : World) (hT : Tab w a t) (hl : t.length ≤ 9223372036854775807) (hw : ∀ i, (row t i).length ≤ 9223372036854775807) :
 Calls Try.prog 6 #[(.agg #[.slice a t.length cap])] w fun e w' => e = .returned (.bool true) ∧ Ext w w' := by
 have hT' := hid hT
 have hgr := hid (fun W hW => great_any t a cap W hW hl hw)
 cases g : grtT t with
 | true =>
  rw [g] at hgr
  clear hT hw hl
  go_enter Try.func6, Try.ntmps6
  go_wp2_with fail
  refine (hgr.out _ (hT'.out.ext (by repeat (with_reducible first | assumption | exact Ext.refl _ | refine Ext.drew ?_ | refine Ext.drewN ?_ _ | refine Ext.alloc ?_ _ | refine xS ?_ _ | refine xT ?_ (by assumption))))).mono ?_; rintro e w1 ⟨rfl, hE⟩
  go_wp2_with fail
  refine (works_any _).mono ?_; rintro e w2 ⟨rfl, hE2⟩
  go_wp2_with fail
  go_ret
  exact ⟨rfl, (by repeat (with_reducible first | assumption | exact Ext.refl _ | refine Ext.drew ?_ | refine Ext.drewN ?_ _ | refine Ext.alloc ?_ _ | refine xS ?_ _ | refine xT ?_ (by assumption)))⟩
 | false =>
  rw [g] at hgr
  obtain ⟨hl8, hw8⟩ := grt_no g
  have hl1 : t.length ≤ 1000 := by omega
  have hw1 : ∀ i, (row t i).length ≤ 1000 := fun i => by have := hw8 i; omega
  have h1 := hid (fun W hW => usedP_any t q a cap W hW hl1 hw1)
  have h2 := hid (fun W hW => usedR_any t q a cap W hW hl1 hw1)
  have h3 := hid (fun W hW => left_any t q a cap W hW hl1 hw1)
  have h4 := hid (fun W hW => leftR_any t q a cap W hW hl1 hw1)
  have b1 : (usedR t).length ≤ 4 := by unfold usedR; split; exact bitsTo_len _ 4; simp
  have b2 : (usedC t).length ≤ 4 := by unfold usedC; split; exact bitsTo_len _ 4; simp
  have b3 : (leftR t).length ≤ 4 ∧ (leftC t).length ≤ 4 := by
   unfold leftR leftC
   by_cases g : chkT t = 0
   ·have v := chkT_ok.1 g
    rw [if_pos g, if_pos g, nats_len, nats_len]
    exact ⟨ss_len (LS.left t 8).rs (LS.left t 8).rb v.m4, ss_len (LS.left t 8).cs (LS.left t 8).cb v.n4⟩
   ·rw [if_neg g, if_neg g]; simp
  have i1 := hid (fun a b ca cb W hA hB => ints_any (usedR t) (usedR t) (by omega) (by omega) a b ca cb W hA hB)
  have i2 := hid (fun a b ca cb W hA hB => ints_any (usedC t) (usedC t) (by omega) (by omega) a b ca cb W hA hB)
  have i3 := hid (fun a b ca cb W hA hB => ints_any (leftR t) (leftR t) (by omega) (by omega) a b ca cb W hA hB)
  have i4 := hid (fun a b ca cb W hA hB => ints_any (leftC t) (leftC t) (by omega) (by omega) a b ca cb W hA hB)
  unfold RetL2 at h1 h2
  unfold RetLeft at h3 h4
  obtain ⟨u1, hu1⟩ : ∃ x, usedR t = x := ⟨_, rfl⟩
  obtain ⟨u2, hu2⟩ : ∃ x, usedC t = x := ⟨_, rfl⟩
  obtain ⟨l1, hl1⟩ : ∃ x, leftR t = x := ⟨_, rfl⟩
  obtain ⟨l2, hl2⟩ : ∃ x, leftC t = x := ⟨_, rfl⟩
  obtain ⟨ck, hck⟩ : ∃ x, chkT t = x := ⟨_, rfl⟩
  rw [hu1] at h1 h2 i1
  rw [hu2] at h1 h2 i2
  rw [hl1] at h3 h4 i3
  rw [hl2] at h3 h4 i4
  rw [hck] at h1 h2 h3 h4
  rw [decide_eq_true rfl] at i1 i2 i3 i4
  clear hT hw hl hl8 hw8 hw1 b1 b2 b3 hu1 hu2 hl1 hl2 hck
  go_enter Try.func6, Try.ntmps6
  go_wp2_with fail
  refine (hgr.out _ (hT'.out.ext (by repeat (with_reducible first | assumption | exact Ext.refl _ | refine Ext.drew ?_ | refine Ext.drewN ?_ _ | refine Ext.alloc ?_ _ | refine xS ?_ _ | refine xT ?_ (by assumption))))).mono ?_; rintro e w1 ⟨rfl, hE⟩
  have mt0 := hid (hE.cell (p := ⟨w.heap.size, 0, none⟩) (v := .slice a t.length cap) (by simp [go_sem]))
  have X := hid (show Ext w w1 from (by repeat (with_reducible first | assumption | exact Ext.refl _ | refine Ext.drew ?_ | refine Ext.drewN ?_ _ | refine Ext.alloc ?_ _ | refine xS ?_ _ | refine xT ?_ (by assumption))))
  clear hE
  generalize w.heap.size = Bt at *
  have r_mt0 := mt0.out
  have l_mt0 := cell_lt r_mt0
  dsimp only at l_mt0
  go_wp2_with fail
  refine (h1.out _ (hT'.out.ext (X.out.trans (show Ext w1 _ from (by repeat (with_reducible first | assumption | exact Ext.refl _ | refine Ext.drew ?_ | refine Ext.drewN ?_ _ | refine Ext.alloc ?_ _ | refine xS ?_ _ | refine xT ?_ (by assumption))))))).mono ?_; rintro e u1 ⟨a1, c1, a2, c2, rfl, p1_, p2_, hE⟩
  have x : Ext w1 u1 := (by repeat (with_reducible first | assumption | exact Ext.refl _ | refine Ext.drew ?_ | refine Ext.drewN ?_ _ | refine Ext.alloc ?_ _ | refine xS ?_ _ | refine xT ?_ (by assumption)))
  clear r_mt0 l_mt0
  replace mt0 := hid (x.cell mt0.out)
  replace X := hid (X.out.trans x)
  have p1 := hid p1_
  clear p1_
  have p2 := hid p2_
  clear p2_
  clear x hE
  have r_mt0 := mt0.out
  have l_mt0 := cell_lt r_mt0
  dsimp only at l_mt0
  go_wp2_with fail
  refine (h2.out _ (hT'.out.ext (X.out.trans (show Ext u1 _ from (by repeat (with_reducible first | assumption | exact Ext.refl _ | refine Ext.drew ?_ | refine Ext.drewN ?_ _ | refine Ext.alloc ?_ _ | refine xS ?_ _ | refine xT ?_ (by assumption))))))).mono ?_; rintro e u2 ⟨a3, c3, a4, c4, rfl, p3_, p4_, hE⟩
  have x : Ext u1 u2 := (by repeat (with_reducible first | assumption | exact Ext.refl _ | refine Ext.drew ?_ | refine Ext.drewN ?_ _ | refine Ext.alloc ?_ _ | refine xS ?_ _ | refine xT ?_ (by assumption)))
  clear r_mt0 l_mt0
  replace mt0 := hid (x.cell mt0.out)
  replace p1 := hid (p1.out.ext x)
  replace p2 := hid (p2.out.ext x)
  replace X := hid (X.out.trans x)
  have p3 := hid p3_
  clear p3_
  have p4 := hid p4_
  clear p4_
  clear x hE
  have r_mt0 := mt0.out
  have l_mt0 := cell_lt r_mt0
  dsimp only at l_mt0
  go_wp2_with fail
  refine (h3.out _ (hT'.out.ext (X.out.trans (show Ext u2 _ from (by repeat (with_reducible first | assumption | exact Ext.refl _ | refine Ext.drew ?_ | refine Ext.drewN ?_ _ | refine Ext.alloc ?_ _ | refine xS ?_ _ | refine xT ?_ (by assumption))))))).mono ?_; rintro e u3 ⟨a5, c5, a6, c6, rfl, p5_, p6_, hE⟩
  have x : Ext u2 u3 := (by repeat (with_reducible first | assumption | exact Ext.refl _ | refine Ext.drew ?_ | refine Ext.drewN ?_ _ | refine Ext.alloc ?_ _ | refine xS ?_ _ | refine xT ?_ (by assumption)))
  clear r_mt0 l_mt0
  replace mt0 := hid (x.cell mt0.out)
  replace p1 := hid (p1.out.ext x)
  replace p2 := hid (p2.out.ext x)
  replace p3 := hid (p3.out.ext x)
  replace p4 := hid (p4.out.ext x)
  replace X := hid (X.out.trans x)
  have p5 := hid p5_
  clear p5_
  have p6 := hid p6_
  clear p6_
  clear x hE
  have r_mt0 := mt0.out
  have l_mt0 := cell_lt r_mt0
  dsimp only at l_mt0
  go_wp2_with fail
  refine (h4.out _ (hT'.out.ext (X.out.trans (show Ext u3 _ from (by repeat (with_reducible first | assumption | exact Ext.refl _ | refine Ext.drew ?_ | refine Ext.drewN ?_ _ | refine Ext.alloc ?_ _ | refine xS ?_ _ | refine xT ?_ (by assumption))))))).mono ?_; rintro e u4 ⟨a7, c7, a8, c8, rfl, p7_, p8_, hE⟩
  have x : Ext u3 u4 := (by repeat (with_reducible first | assumption | exact Ext.refl _ | refine Ext.drew ?_ | refine Ext.drewN ?_ _ | refine Ext.alloc ?_ _ | refine xS ?_ _ | refine xT ?_ (by assumption)))
  clear r_mt0 l_mt0
  replace mt0 := hid (x.cell mt0.out)
  replace p1 := hid (p1.out.ext x)
  replace p2 := hid (p2.out.ext x)
  replace p3 := hid (p3.out.ext x)
  replace p4 := hid (p4.out.ext x)
  replace p5 := hid (p5.out.ext x)
  replace p6 := hid (p6.out.ext x)
  replace X := hid (X.out.trans x)
  have p7 := hid p7_
  clear p7_
  have p8 := hid p8_
  clear p8_
  clear x hE
  go_wp2_with fail
  refine (i1.out _ _ _ _ _ (p1.out.ext (show Ext u4 _ from (by repeat (with_reducible first | assumption | exact Ext.refl _ | refine Ext.drew ?_ | refine Ext.drewN ?_ _ | refine Ext.alloc ?_ _ | refine xS ?_ _ | refine xT ?_ (by assumption))))) (p3.out.ext (show Ext u4 _ from (by repeat (with_reducible first | assumption | exact Ext.refl _ | refine Ext.drew ?_ | refine Ext.drewN ?_ _ | refine Ext.alloc ?_ _ | refine xS ?_ _ | refine xT ?_ (by assumption)))))).mono ?_; rintro e u5 ⟨rfl, hE⟩
  have x : Ext u4 u5 := (by repeat (with_reducible first | assumption | exact Ext.refl _ | refine Ext.drew ?_ | refine Ext.drewN ?_ _ | refine Ext.alloc ?_ _ | refine xS ?_ _ | refine xT ?_ (by assumption)))
  replace mt0 := hid (x.cell mt0.out)
  replace p1 := hid (p1.out.ext x)
  replace p2 := hid (p2.out.ext x)
  replace p3 := hid (p3.out.ext x)
  replace p4 := hid (p4.out.ext x)
  replace p5 := hid (p5.out.ext x)
  replace p6 := hid (p6.out.ext x)
  replace p7 := hid (p7.out.ext x)
  replace p8 := hid (p8.out.ext x)
  replace X := hid (X.out.trans x)
  clear x hE
  go_wp2_with fail
  refine (i2.out _ _ _ _ _ (p2.out.ext (show Ext u5 _ from (by repeat (with_reducible first | assumption | exact Ext.refl _ | refine Ext.drew ?_ | refine Ext.drewN ?_ _ | refine Ext.alloc ?_ _ | refine xS ?_ _ | refine xT ?_ (by assumption))))) (p4.out.ext (show Ext u5 _ from (by repeat (with_reducible first | assumption | exact Ext.refl _ | refine Ext.drew ?_ | refine Ext.drewN ?_ _ | refine Ext.alloc ?_ _ | refine xS ?_ _ | refine xT ?_ (by assumption)))))).mono ?_; rintro e u6 ⟨rfl, hE⟩
  have x : Ext u5 u6 := (by repeat (with_reducible first | assumption | exact Ext.refl _ | refine Ext.drew ?_ | refine Ext.drewN ?_ _ | refine Ext.alloc ?_ _ | refine xS ?_ _ | refine xT ?_ (by assumption)))
  replace mt0 := hid (x.cell mt0.out)
  replace p1 := hid (p1.out.ext x)
  replace p2 := hid (p2.out.ext x)
  replace p3 := hid (p3.out.ext x)
  replace p4 := hid (p4.out.ext x)
  replace p5 := hid (p5.out.ext x)
  replace p6 := hid (p6.out.ext x)
  replace p7 := hid (p7.out.ext x)
  replace p8 := hid (p8.out.ext x)
  replace X := hid (X.out.trans x)
  clear x hE
  go_wp2_with fail
  refine (i3.out _ _ _ _ _ (p5.out.ext (show Ext u6 _ from (by repeat (with_reducible first | assumption | exact Ext.refl _ | refine Ext.drew ?_ | refine Ext.drewN ?_ _ | refine Ext.alloc ?_ _ | refine xS ?_ _ | refine xT ?_ (by assumption))))) (p7.out.ext (show Ext u6 _ from (by repeat (with_reducible first | assumption | exact Ext.refl _ | refine Ext.drew ?_ | refine Ext.drewN ?_ _ | refine Ext.alloc ?_ _ | refine xS ?_ _ | refine xT ?_ (by assumption)))))).mono ?_; rintro e u7 ⟨rfl, hE⟩
  have x : Ext u6 u7 := (by repeat (with_reducible first | assumption | exact Ext.refl _ | refine Ext.drew ?_ | refine Ext.drewN ?_ _ | refine Ext.alloc ?_ _ | refine xS ?_ _ | refine xT ?_ (by assumption)))
  replace mt0 := hid (x.cell mt0.out)
  replace p1 := hid (p1.out.ext x)
  replace p2 := hid (p2.out.ext x)
  replace p3 := hid (p3.out.ext x)
  replace p4 := hid (p4.out.ext x)
  replace p5 := hid (p5.out.ext x)
  replace p6 := hid (p6.out.ext x)
  replace p7 := hid (p7.out.ext x)
  replace p8 := hid (p8.out.ext x)
  replace X := hid (X.out.trans x)
  clear x hE
  go_wp2_with fail
  refine (i4.out _ _ _ _ _ (p6.out.ext (show Ext u7 _ from (by repeat (with_reducible first | assumption | exact Ext.refl _ | refine Ext.drew ?_ | refine Ext.drewN ?_ _ | refine Ext.alloc ?_ _ | refine xS ?_ _ | refine xT ?_ (by assumption))))) (p8.out.ext (show Ext u7 _ from (by repeat (with_reducible first | assumption | exact Ext.refl _ | refine Ext.drew ?_ | refine Ext.drewN ?_ _ | refine Ext.alloc ?_ _ | refine xS ?_ _ | refine xT ?_ (by assumption)))))).mono ?_; rintro e u8 ⟨rfl, hE⟩
  have x : Ext u7 u8 := (by repeat (with_reducible first | assumption | exact Ext.refl _ | refine Ext.drew ?_ | refine Ext.drewN ?_ _ | refine Ext.alloc ?_ _ | refine xS ?_ _ | refine xT ?_ (by assumption)))
  replace mt0 := hid (x.cell mt0.out)
  replace p1 := hid (p1.out.ext x)
  replace p2 := hid (p2.out.ext x)
  replace p3 := hid (p3.out.ext x)
  replace p4 := hid (p4.out.ext x)
  replace p5 := hid (p5.out.ext x)
  replace p6 := hid (p6.out.ext x)
  replace p7 := hid (p7.out.ext x)
  replace p8 := hid (p8.out.ext x)
  replace X := hid (X.out.trans x)
  clear x hE
  go_wp2_with fail
  refine (works_any _).mono ?_; rintro e u9 ⟨rfl, hE⟩
  have x : Ext u8 u9 := (by repeat (with_reducible first | assumption | exact Ext.refl _ | refine Ext.drew ?_ | refine Ext.drewN ?_ _ | refine Ext.alloc ?_ _ | refine xS ?_ _ | refine xT ?_ (by assumption)))
  replace mt0 := hid (x.cell mt0.out)
  replace p1 := hid (p1.out.ext x)
  replace p2 := hid (p2.out.ext x)
  replace p3 := hid (p3.out.ext x)
  replace p4 := hid (p4.out.ext x)
  replace p5 := hid (p5.out.ext x)
  replace p6 := hid (p6.out.ext x)
  replace p7 := hid (p7.out.ext x)
  replace p8 := hid (p8.out.ext x)
  replace X := hid (X.out.trans x)
  clear x hE
  go_wp2_with fail
  go_ret
  exact ⟨rfl, X.out⟩

end Go.Proofs.Ytommhgcgaclflaa
