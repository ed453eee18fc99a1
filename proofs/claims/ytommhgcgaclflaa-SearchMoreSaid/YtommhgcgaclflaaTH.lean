/- The laws' examples: the walk of porringerlaw03.Works. (Printed by wip/genworks_s.py.) -/
import Derived.Test.YtommhgcgaclflaaZB7
import Derived.Test.YtommhgcgaclflaaZB23
import Derived.Test.YtommhgcgaclflaaTHa
import Derived.Test.YtommhgcgaclflaaTHb
import Derived.Test.YtommhgcgaclflaaTHc
import Derived.Test.YtommhgcgaclflaaTHd
import Derived.Test.YtommhgcgaclflaaTHe
namespace Go.Proofs.Ytommhgcgaclflaa
set_option linter.unusedVariables false
set_option linter.unusedSimpArgs false
set_option linter.unusedSectionVars false
set_option linter.unnecessarySimpa false
open Go Go.RowKit Game
set_option maxRecDepth 100000

set_option maxHeartbeats 40000000 in
theorem works_any (w : World) : Calls Try.prog 18 #[] w fun e w' => e = .returned (.bool true) ∧ Ext w w' := by
 go_enter Try.func18, Try.ntmps18
 go_wp2_with fail
 refine (mixed_any _).mono ?_; rintro e w1 ⟨ga, ca, rfl, hA, hE1⟩
 replace hA := hid hA
 go_wp2_with fail
 refine (pure_anyT _).mono ?_; rintro e w2 ⟨gb, cb, rfl, hB, hE2⟩
 replace hB := hid hB
 go_wp2_with fail
 refine (round_anyT _).mono ?_; rintro e w3 ⟨gc, cc, rfl, hC, hE3⟩
 replace hC := hid hC
 go_wp2_with fail
 refine name_wp (fun v0 hv0 => ?_)
 have x0 : Ext w3 v0 := by rw [hv0]; exact (by repeat (with_reducible first | assumption | exact Ext.refl _ | refine Ext.drew ?_ | refine Ext.drewN ?_ _ | refine Ext.alloc ?_ _ | refine xS ?_ _ | refine xT ?_ (by assumption)))
 have mA := hid (show v0.cell? ⟨w3.heap.size, 0, none⟩ = some (.slice (some ⟨ga, 0, none⟩) 2 ca) by rw [hv0]; simp [go_sem])
 have mB := hid (show v0.cell? ⟨w3.heap.size + 1, 0, none⟩ = some (.slice (some ⟨gb, 0, none⟩) 2 cb) by rw [hv0]; simp [go_sem])
 have mC := hid (show v0.cell? ⟨w3.heap.size + 1 + 1, 0, none⟩ = some (.slice (some ⟨gc, 0, none⟩) 3 cc) by rw [hv0]; simp [go_sem])
 have tA := hid ((hA.out.ext (Ext.trans hE2 hE3)).ext x0)
 have tB := hid ((hB.out.ext hE3).ext x0)
 have tC := hid (hC.out.ext x0)
 have X := hid (show Ext w v0 from (by repeat (with_reducible first | assumption | exact Ext.refl _ | refine Ext.drew ?_ | refine Ext.drewN ?_ _ | refine Ext.alloc ?_ _ | refine xS ?_ _ | refine xT ?_ (by assumption))))
 clear hv0 x0 hA hB hC hE1 hE2 hE3
 generalize w3.heap.size = B0 at *
 -- D(A, [[3, 2]], S1, bx, (1, 1))
 have m0 := mA.out
 have l0 := cell_lt m0
 dsimp only at l0
 refine wp_mono (stS1 rfl m0 tA.out) ?_
 rintro e a' v1 ⟨rfl, k1, Bbx, rfl, x, c7_0, c7_1, fz7_0, fz7_1, z7⟩
 simp only [sxA, sxB, sxC, Act.put, sxD, sxE, sxF]
 have c0 := c7_0; have c1 := c7_1; clear c7_0 c7_1 fz7_0 fz7_1 z7
 replace c0 := hid c0
 replace c1 := hid c1
 replace mA := hid (x.cell mA.out)
 replace mB := hid (x.cell mB.out)
 replace mC := hid (x.cell mC.out)
 replace tA := hid (tA.out.ext x)
 replace tB := hid (tB.out.ext x)
 replace tC := hid (tC.out.ext x)
 replace X := hid (X.out.trans x)
 have bx0 := c0
 have bx1 := c1
 clear x c0 c1 m0 l0
 go_wp2_with fail
 -- D(A, [[0, 0]], S2, None, (0, 0))
 have m0 := mA.out
 have l0 := cell_lt m0
 dsimp only at l0
 refine wp_mono (stS2 rfl m0 tA.out) ?_
 rintro e a' v2 ⟨rfl, k1, B1_, rfl, x, c7_0, c7_1, fz7_0, fz7_1, z7⟩
 simp only [sxA, sxB, sxC, Act.put, sxD, sxE, sxF]
 have c0 := c7_0; have c1 := c7_1; clear c7_0 c7_1 fz7_0 fz7_1 z7
 replace mA := hid (x.cell mA.out)
 replace mB := hid (x.cell mB.out)
 replace mC := hid (x.cell mC.out)
 replace tA := hid (tA.out.ext x)
 replace tB := hid (tB.out.ext x)
 replace tC := hid (tC.out.ext x)
 replace bx0 := hid (x.cell bx0.out)
 replace bx1 := hid (x.cell bx1.out)
 replace X := hid (X.out.trans x)
 clear x c0 c1 m0 l0
 go_wp2_with fail
 -- D(A, [[1]], S3, None, (0, 0))
 have m0 := mA.out
 have l0 := cell_lt m0
 dsimp only at l0
 refine wp_mono (stS3 rfl m0 tA.out) ?_
 rintro e a' v3 ⟨rfl, k1, B2_, rfl, x, c7_0, c7_1, fz7_0, fz7_1, z7⟩
 simp only [sxA, sxB, sxC, Act.put, sxD, sxE, sxF]
 have c0 := c7_0; have c1 := c7_1; clear c7_0 c7_1 fz7_0 fz7_1 z7
 replace mA := hid (x.cell mA.out)
 replace mB := hid (x.cell mB.out)
 replace mC := hid (x.cell mC.out)
 replace tA := hid (tA.out.ext x)
 replace tB := hid (tB.out.ext x)
 replace tC := hid (tC.out.ext x)
 replace bx0 := hid (x.cell bx0.out)
 replace bx1 := hid (x.cell bx1.out)
 replace X := hid (X.out.trans x)
 clear x c0 c1 m0 l0
 go_wp2_with fail
 -- D(A, [[0, 1]], S4, by, (4, 1))
 have m0 := mA.out
 have l0 := cell_lt m0
 dsimp only at l0
 refine wp_mono (stS4 rfl m0 tA.out) ?_
 rintro e a' v4 ⟨rfl, k1, Bby, rfl, x, c7_0, c7_1, fz7_0, fz7_1, z7⟩
 simp only [sxA, sxB, sxC, Act.put, sxD, sxE, sxF]
 have c0 := c7_0; have c1 := c7_1; clear c7_0 c7_1 fz7_0 fz7_1 z7
 replace c0 := hid c0
 replace c1 := hid c1
 replace mA := hid (x.cell mA.out)
 replace mB := hid (x.cell mB.out)
 replace mC := hid (x.cell mC.out)
 replace tA := hid (tA.out.ext x)
 replace tB := hid (tB.out.ext x)
 replace tC := hid (tC.out.ext x)
 replace bx0 := hid (x.cell bx0.out)
 replace bx1 := hid (x.cell bx1.out)
 replace X := hid (X.out.trans x)
 have by0 := c0
 have by1 := c1
 clear x c0 c1 m0 l0
 have m0 := mA.out
 have l0 := cell_lt m0
 dsimp only at l0
 go_wp2_with fail
 -- P(A, S5, bv, (1, 1))
 refine (S5 _ _ _ (tA.out.ext (by repeat (with_reducible first | assumption | exact Ext.refl _ | refine Ext.drew ?_ | refine Ext.drewN ?_ _ | refine Ext.alloc ?_ _ | refine xS ?_ _ | refine xT ?_ (by assumption))))).mono ?_; rintro e u4 ⟨rfl, hE⟩
 have x : Ext v4 u4 := (by repeat (with_reducible first | assumption | exact Ext.refl _ | refine Ext.drew ?_ | refine Ext.drewN ?_ _ | refine Ext.alloc ?_ _ | refine xS ?_ _ | refine xT ?_ (by assumption)))
 replace mA := hid (x.cell mA.out)
 replace mB := hid (x.cell mB.out)
 replace mC := hid (x.cell mC.out)
 replace tA := hid (tA.out.ext x)
 replace tB := hid (tB.out.ext x)
 replace tC := hid (tC.out.ext x)
 replace bx0 := hid (x.cell bx0.out)
 replace bx1 := hid (x.cell bx1.out)
 replace by0 := hid (x.cell by0.out)
 replace by1 := hid (x.cell by1.out)
 replace X := hid (X.out.trans x)
 clear x hE m0 l0
 have m0 := mC.out
 have l0 := cell_lt m0
 dsimp only at l0
 go_wp2_with fail
 refine name_c (fun v5 hw => ?_)
 have x : Ext u4 v5 := by rw [hw]; exact (by repeat (with_reducible first | assumption | exact Ext.refl _ | refine Ext.drew ?_ | refine Ext.drewN ?_ _ | refine Ext.alloc ?_ _ | refine xS ?_ _ | refine xT ?_ (by assumption)))
 have bv0 := hid (show v5.cell? ⟨u4.heap.size, 0, none⟩ = some (.int .i64 1) by rw [hw]; simp [go_sem])
 have bv1 := hid (show v5.cell? ⟨u4.heap.size, 1, none⟩ = some (.int .i64 1) by rw [hw]; simp [go_sem])
 replace mA := hid (x.cell mA.out)
 replace mB := hid (x.cell mB.out)
 replace mC := hid (x.cell mC.out)
 replace tA := hid (tA.out.ext x)
 replace tB := hid (tB.out.ext x)
 replace tC := hid (tC.out.ext x)
 replace bx0 := hid (x.cell bx0.out)
 replace bx1 := hid (x.cell bx1.out)
 replace by0 := hid (x.cell by0.out)
 replace by1 := hid (x.cell by1.out)
 replace X := hid (X.out.trans x)
 clear m0 l0
 clear x hw
 generalize u4.heap.size = Bbv at *
 have m0 := mC.out
 have l0 := cell_lt m0
 dsimp only at l0
 -- P(C, S6, bw, (0, 1))
 refine (S6 _ _ _ (tC.out.ext (by repeat (with_reducible first | assumption | exact Ext.refl _ | refine Ext.drew ?_ | refine Ext.drewN ?_ _ | refine Ext.alloc ?_ _ | refine xS ?_ _ | refine xT ?_ (by assumption))))).mono ?_; rintro e u5 ⟨rfl, hE⟩
 have x : Ext v5 u5 := (by repeat (with_reducible first | assumption | exact Ext.refl _ | refine Ext.drew ?_ | refine Ext.drewN ?_ _ | refine Ext.alloc ?_ _ | refine xS ?_ _ | refine xT ?_ (by assumption)))
 replace mA := hid (x.cell mA.out)
 replace mB := hid (x.cell mB.out)
 replace mC := hid (x.cell mC.out)
 replace tA := hid (tA.out.ext x)
 replace tB := hid (tB.out.ext x)
 replace tC := hid (tC.out.ext x)
 replace bx0 := hid (x.cell bx0.out)
 replace bx1 := hid (x.cell bx1.out)
 replace by0 := hid (x.cell by0.out)
 replace by1 := hid (x.cell by1.out)
 replace bv0 := hid (x.cell bv0.out)
 replace bv1 := hid (x.cell bv1.out)
 replace X := hid (X.out.trans x)
 clear x hE m0 l0
 have m0 := mA.out
 have l0 := cell_lt m0
 dsimp only at l0
 go_wp2_with fail
 refine name_c (fun v6 hw => ?_)
 have x : Ext u5 v6 := by rw [hw]; exact (by repeat (with_reducible first | assumption | exact Ext.refl _ | refine Ext.drew ?_ | refine Ext.drewN ?_ _ | refine Ext.alloc ?_ _ | refine xS ?_ _ | refine xT ?_ (by assumption)))
 have bw0 := hid (show v6.cell? ⟨u5.heap.size, 0, none⟩ = some (.int .i64 0) by rw [hw]; simp [go_sem])
 have bw1 := hid (show v6.cell? ⟨u5.heap.size, 1, none⟩ = some (.int .i64 1) by rw [hw]; simp [go_sem])
 replace mA := hid (x.cell mA.out)
 replace mB := hid (x.cell mB.out)
 replace mC := hid (x.cell mC.out)
 replace tA := hid (tA.out.ext x)
 replace tB := hid (tB.out.ext x)
 replace tC := hid (tC.out.ext x)
 replace bx0 := hid (x.cell bx0.out)
 replace bx1 := hid (x.cell bx1.out)
 replace by0 := hid (x.cell by0.out)
 replace by1 := hid (x.cell by1.out)
 replace bv0 := hid (x.cell bv0.out)
 replace bv1 := hid (x.cell bv1.out)
 replace X := hid (X.out.trans x)
 clear m0 l0
 clear x hw
 generalize u5.heap.size = Bbw at *
 have m0 := mA.out
 have l0 := cell_lt m0
 dsimp only at l0
 -- L(A, S7, lr)
 refine (S7 _ _ _ (tA.out.ext (by repeat (with_reducible first | assumption | exact Ext.refl _ | refine Ext.drew ?_ | refine Ext.drewN ?_ _ | refine Ext.alloc ?_ _ | refine xS ?_ _ | refine xT ?_ (by assumption))))).mono ?_; rintro e u6 ⟨a6, c6, rfl, hI, hE⟩
 have x : Ext v6 u6 := (by repeat (with_reducible first | assumption | exact Ext.refl _ | refine Ext.drew ?_ | refine Ext.drewN ?_ _ | refine Ext.alloc ?_ _ | refine xS ?_ _ | refine xT ?_ (by assumption)))
 replace mA := hid (x.cell mA.out)
 replace mB := hid (x.cell mB.out)
 replace mC := hid (x.cell mC.out)
 replace tA := hid (tA.out.ext x)
 replace tB := hid (tB.out.ext x)
 replace tC := hid (tC.out.ext x)
 replace bx0 := hid (x.cell bx0.out)
 replace bx1 := hid (x.cell bx1.out)
 replace by0 := hid (x.cell by0.out)
 replace by1 := hid (x.cell by1.out)
 replace bv0 := hid (x.cell bv0.out)
 replace bv1 := hid (x.cell bv1.out)
 replace bw0 := hid (x.cell bw0.out)
 replace bw1 := hid (x.cell bw1.out)
 replace X := hid (X.out.trans x)
 have lr := hid hI
 clear hI
 clear x hE m0 l0
 have m0 := mA.out
 have l0 := cell_lt m0
 dsimp only at l0
 go_wp2_with fail
 -- L(A, S8, lk)
 refine (S8 _ _ _ (tA.out.ext (by repeat (with_reducible first | assumption | exact Ext.refl _ | refine Ext.drew ?_ | refine Ext.drewN ?_ _ | refine Ext.alloc ?_ _ | refine xS ?_ _ | refine xT ?_ (by assumption))))).mono ?_; rintro e u7 ⟨a7, c7, rfl, hI, hE⟩
 have x : Ext u6 u7 := (by repeat (with_reducible first | assumption | exact Ext.refl _ | refine Ext.drew ?_ | refine Ext.drewN ?_ _ | refine Ext.alloc ?_ _ | refine xS ?_ _ | refine xT ?_ (by assumption)))
 replace mA := hid (x.cell mA.out)
 replace mB := hid (x.cell mB.out)
 replace mC := hid (x.cell mC.out)
 replace tA := hid (tA.out.ext x)
 replace tB := hid (tB.out.ext x)
 replace tC := hid (tC.out.ext x)
 replace bx0 := hid (x.cell bx0.out)
 replace bx1 := hid (x.cell bx1.out)
 replace by0 := hid (x.cell by0.out)
 replace by1 := hid (x.cell by1.out)
 replace bv0 := hid (x.cell bv0.out)
 replace bv1 := hid (x.cell bv1.out)
 replace bw0 := hid (x.cell bw0.out)
 replace bw1 := hid (x.cell bw1.out)
 replace lr := hid (lr.out.ext x)
 replace X := hid (X.out.trans x)
 have lk := hid hI
 clear hI
 clear x hE m0 l0
 go_wp2_with fail
 -- D(A, [[3, 2], [1, 1]], S9, bn, (1, 1))
 have m0 := mA.out
 have l0 := cell_lt m0
 dsimp only at l0
 refine wp_mono (stS9 rfl m0 tA.out) ?_
 rintro e a' v9 ⟨rfl, k1, k3, Bbn, rfl, x, c9_0, c9_1, fz9_0, fz9_1, z9⟩
 simp only [sxA, sxB, sxC, Act.put, sxD, sxE, sxF]
 have c0 := c9_0; have c1 := c9_1; clear c9_0 c9_1 fz9_0 fz9_1 z9
 replace c0 := hid c0
 replace c1 := hid c1
 replace mA := hid (x.cell mA.out)
 replace mB := hid (x.cell mB.out)
 replace mC := hid (x.cell mC.out)
 replace tA := hid (tA.out.ext x)
 replace tB := hid (tB.out.ext x)
 replace tC := hid (tC.out.ext x)
 replace bx0 := hid (x.cell bx0.out)
 replace bx1 := hid (x.cell bx1.out)
 replace by0 := hid (x.cell by0.out)
 replace by1 := hid (x.cell by1.out)
 replace bv0 := hid (x.cell bv0.out)
 replace bv1 := hid (x.cell bv1.out)
 replace bw0 := hid (x.cell bw0.out)
 replace bw1 := hid (x.cell bw1.out)
 replace lr := hid (lr.out.ext x)
 replace lk := hid (lk.out.ext x)
 replace X := hid (X.out.trans x)
 have bn0 := c0
 have bn1 := c1
 clear x c0 c1 m0 l0
 go_wp2_with fail
 -- D(A, [[1, 1], [1, 1]], S10, None, (0, 0))
 have m0 := mA.out
 have l0 := cell_lt m0
 dsimp only at l0
 refine wp_mono (stS10 rfl m0 tA.out) ?_
 rintro e a' v10 ⟨rfl, k1, k3, B9_, rfl, x, c9_0, c9_1, fz9_0, fz9_1, z9⟩
 simp only [sxA, sxB, sxC, Act.put, sxD, sxE, sxF]
 have c0 := c9_0; have c1 := c9_1; clear c9_0 c9_1 fz9_0 fz9_1 z9
 replace mA := hid (x.cell mA.out)
 replace mB := hid (x.cell mB.out)
 replace mC := hid (x.cell mC.out)
 replace tA := hid (tA.out.ext x)
 replace tB := hid (tB.out.ext x)
 replace tC := hid (tC.out.ext x)
 replace bx0 := hid (x.cell bx0.out)
 replace bx1 := hid (x.cell bx1.out)
 replace by0 := hid (x.cell by0.out)
 replace by1 := hid (x.cell by1.out)
 replace bv0 := hid (x.cell bv0.out)
 replace bv1 := hid (x.cell bv1.out)
 replace bw0 := hid (x.cell bw0.out)
 replace bw1 := hid (x.cell bw1.out)
 replace lr := hid (lr.out.ext x)
 replace lk := hid (lk.out.ext x)
 replace bn0 := hid (x.cell bn0.out)
 replace bn1 := hid (x.cell bn1.out)
 replace X := hid (X.out.trans x)
 clear x c0 c1 m0 l0
 have m0 := mA.out
 have l0 := cell_lt m0
 dsimp only at l0
 go_wp2_with fail
 -- U(A, S11)
 refine (S11 _ _ _ (tA.out.ext (by repeat (with_reducible first | assumption | exact Ext.refl _ | refine Ext.drew ?_ | refine Ext.drewN ?_ _ | refine Ext.alloc ?_ _ | refine xS ?_ _ | refine xT ?_ (by assumption))))).mono ?_; rintro e u10 ⟨rfl, hE⟩
 have x : Ext v10 u10 := (by repeat (with_reducible first | assumption | exact Ext.refl _ | refine Ext.drew ?_ | refine Ext.drewN ?_ _ | refine Ext.alloc ?_ _ | refine xS ?_ _ | refine xT ?_ (by assumption)))
 replace mA := hid (x.cell mA.out)
 replace mB := hid (x.cell mB.out)
 replace mC := hid (x.cell mC.out)
 replace tA := hid (tA.out.ext x)
 replace tB := hid (tB.out.ext x)
 replace tC := hid (tC.out.ext x)
 replace bx0 := hid (x.cell bx0.out)
 replace bx1 := hid (x.cell bx1.out)
 replace by0 := hid (x.cell by0.out)
 replace by1 := hid (x.cell by1.out)
 replace bv0 := hid (x.cell bv0.out)
 replace bv1 := hid (x.cell bv1.out)
 replace bw0 := hid (x.cell bw0.out)
 replace bw1 := hid (x.cell bw1.out)
 replace lr := hid (lr.out.ext x)
 replace lk := hid (lk.out.ext x)
 replace bn0 := hid (x.cell bn0.out)
 replace bn1 := hid (x.cell bn1.out)
 replace X := hid (X.out.trans x)
 clear x hE m0 l0
 have m0 := mB.out
 have l0 := cell_lt m0
 dsimp only at l0
 go_wp2_with fail
 -- U(B, S12)
 refine (S12 _ _ _ (tB.out.ext (by repeat (with_reducible first | assumption | exact Ext.refl _ | refine Ext.drew ?_ | refine Ext.drewN ?_ _ | refine Ext.alloc ?_ _ | refine xS ?_ _ | refine xT ?_ (by assumption))))).mono ?_; rintro e u11 ⟨rfl, hE⟩
 have x : Ext u10 u11 := (by repeat (with_reducible first | assumption | exact Ext.refl _ | refine Ext.drew ?_ | refine Ext.drewN ?_ _ | refine Ext.alloc ?_ _ | refine xS ?_ _ | refine xT ?_ (by assumption)))
 replace mA := hid (x.cell mA.out)
 replace mB := hid (x.cell mB.out)
 replace mC := hid (x.cell mC.out)
 replace tA := hid (tA.out.ext x)
 replace tB := hid (tB.out.ext x)
 replace tC := hid (tC.out.ext x)
 replace bx0 := hid (x.cell bx0.out)
 replace bx1 := hid (x.cell bx1.out)
 replace by0 := hid (x.cell by0.out)
 replace by1 := hid (x.cell by1.out)
 replace bv0 := hid (x.cell bv0.out)
 replace bv1 := hid (x.cell bv1.out)
 replace bw0 := hid (x.cell bw0.out)
 replace bw1 := hid (x.cell bw1.out)
 replace lr := hid (lr.out.ext x)
 replace lk := hid (lk.out.ext x)
 replace bn0 := hid (x.cell bn0.out)
 replace bn1 := hid (x.cell bn1.out)
 replace X := hid (X.out.trans x)
 clear x hE m0 l0
 go_wp2_with fail
 -- E(A, [[1, 1]], S13, ll)
 have m0 := mA.out
 have l0 := cell_lt m0
 dsimp only at l0
 refine wp_region_held_drew (S := fun w' => Ext u11 w') (by kernel_rfl) (by repeat (with_reducible first | assumption | exact Ext.refl _ | refine Ext.drew ?_ | refine Ext.drewN ?_ _ | refine Ext.alloc ?_ _ | refine xS ?_ _ | refine xT ?_ (by assumption))) fun hHeld => ?_
 refine tkA (i := 0) (v := ?_) rfl (fun _ _ _ h => h) (Or.inl ⟨by rfl, ?yl⟩) (by assumption) ?_
 case yl => (intro w hSw; (try dsimp only at hSw); have k1 := Ext.cell hSw m0; go_simp); with_reducible rfl
 try simp only [sxA, sxB, sxC, Act.put, sxD, sxE, sxF]
 refine wpAnyH_ready (rs := [1]) (by kernel_rfl) (by simp) ?_
 refine AllReadyH.cons (o := _) rfl (fun K hK => ?_) AllReadyH.nil
 go_simp
 refine hK.out _ _ (by repeat (with_reducible first | assumption | exact Ext.refl _ | refine Ext.drew ?_ | refine Ext.drewN ?_ _ | refine Ext.alloc ?_ _ | refine xS ?_ _ | refine xT ?_ (by assumption))) (fun hHeld => ?_)
 clear hK K
 try simp only [sxA, sxB, sxC, Act.put, sxD, sxE, sxF]
 have i12_0 := hid (lit2 (w := u11) (x := 1) (y := 1) (t := 2) (n := u11.heap.size) (by simp))
 refine wpAnyH_ready (rs := [2]) (by kernel_rfl) (by simp) ?_
 refine AllReadyH.cons (o := _) rfl (fun K hK => ?_) AllReadyH.nil
 go_simp
 refine (longs_any _ _).mono ?_; rintro e w' ⟨rfl, rfl⟩
 refine hK.out _ _ (by repeat (with_reducible first | assumption | exact Ext.refl _ | refine Ext.drew ?_ | refine Ext.drewN ?_ _ | refine Ext.alloc ?_ _ | refine xS ?_ _ | refine xT ?_ (by assumption))) (fun hHeld => ?_)
 clear hK K
 try simp only [sxA, sxB, sxC, Act.put, sxD, sxE, sxF]
 refine wpAnyH_ready (rs := [3]) (by kernel_rfl) (by simp) ?_
 refine AllReadyH.cons (o := _) rfl (fun K hK => ?_) AllReadyH.nil
 go_simp
 refine (S13 _ _ _ _ _ (tA.out.ext (by repeat (with_reducible first | assumption | exact Ext.refl _ | refine Ext.drew ?_ | refine Ext.drewN ?_ _ | refine Ext.alloc ?_ _ | refine xS ?_ _ | refine xT ?_ (by assumption)))) (i12_0.out.ext (by repeat (with_reducible first | assumption | exact Ext.refl _ | refine Ext.drew ?_ | refine Ext.drewN ?_ _ | refine Ext.alloc ?_ _ | refine xS ?_ _ | refine xT ?_ (by assumption))))).mono ?_; rintro e u12 ⟨a12, c12, rfl, hI, hE⟩
 have hE0 : Ext u11 u12 := (by repeat (with_reducible first | assumption | exact Ext.refl _ | refine Ext.drew ?_ | refine Ext.drewN ?_ _ | refine Ext.alloc ?_ _ | refine xS ?_ _ | refine xT ?_ (by assumption)))
 have z0 := hE0.size
 clear hE
 refine hK.out _ _ (by repeat (with_reducible first | assumption | exact Ext.refl _ | refine Ext.drew ?_ | refine Ext.drewN ?_ _ | refine Ext.alloc ?_ _ | refine xS ?_ _ | refine xT ?_ (by assumption))) (fun hHeld => ?_)
 clear hK K
 try simp only [sxA, sxB, sxC, Act.put, sxD, sxE, sxF]
 refine tkA (i := 4) (v := ?_) rfl (fun _ _ _ h => h) (Or.inl ⟨by rfl, ?yl⟩) (by assumption) ?_
 case yl => (intro w hSw; (try dsimp only at hSw); have k1 := Ext.cell hSw m0; go_simp); with_reducible rfl
 try simp only [sxA, sxB, sxC, Act.put, sxD, sxE, sxF]
 refine tkA (i := 5) (v := ?_) rfl (fun _ _ _ h => h) (Or.inl ⟨by rfl, ?yl⟩) (by assumption) ?_
 case yl => (intro w hSw; (try dsimp only at hSw); have k1 := Ext.cell hSw m0; go_simp); with_reducible rfl
 try simp only [sxA, sxB, sxC, Act.put, sxD, sxE, sxF]
 refine tkA (i := 6) (v := ?_) rfl (fun _ _ _ h => h) (Or.inl ⟨by rfl, ?yl⟩) (by assumption) ?_
 case yl => (intro w hSw; (try dsimp only at hSw); have k1 := Ext.cell hSw m0; go_simp); with_reducible rfl
 try simp only [sxA, sxB, sxC, Act.put, sxD, sxE, sxF]
 refine tkA (i := 7) (v := ?_) rfl (fun _ _ _ h => h) (Or.inl ⟨by rfl, ?yl⟩) (by assumption) ?_
 case yl => (intro w hSw; (try dsimp only at hSw); have k1 := Ext.cell hSw m0; go_simp); with_reducible rfl
 try simp only [sxA, sxB, sxC, Act.put, sxD, sxE, sxF]
 refine tkA (i := 8) (v := ?_) rfl (fun _ _ _ h => h) (Or.inl ⟨by rfl, ?yl⟩) (by assumption) ?_
 case yl => (intro w hSw; (try dsimp only at hSw); have k1 := Ext.cell hSw m0; go_simp); with_reducible rfl
 try simp only [sxA, sxB, sxC, Act.put, sxD, sxE, sxF]
 refine wpAnyH_done (by kernel_rfl) ?_ _
 try simp only [sxA, sxB, sxC, Act.put, sxD, sxE, sxF]
 refine name_w (fun v13 hw => ?_)
 have x : Ext u11 v13 := by rw [hw]; exact (by repeat (with_reducible first | assumption | exact Ext.refl _ | refine Ext.drew ?_ | refine Ext.drewN ?_ _ | refine Ext.alloc ?_ _ | refine xS ?_ _ | refine xT ?_ (by assumption)))
 have ll := hid (hI.ext (show Ext u12 v13 from by rw [hw]; exact (by repeat (with_reducible first | assumption | exact Ext.refl _ | refine Ext.drew ?_ | refine Ext.drewN ?_ _ | refine Ext.alloc ?_ _ | refine xS ?_ _ | refine xT ?_ (by assumption)))))
 clear hI
 replace mA := hid (x.cell mA.out)
 replace mB := hid (x.cell mB.out)
 replace mC := hid (x.cell mC.out)
 replace tA := hid (tA.out.ext x)
 replace tB := hid (tB.out.ext x)
 replace tC := hid (tC.out.ext x)
 replace bx0 := hid (x.cell bx0.out)
 replace bx1 := hid (x.cell bx1.out)
 replace by0 := hid (x.cell by0.out)
 replace by1 := hid (x.cell by1.out)
 replace bv0 := hid (x.cell bv0.out)
 replace bv1 := hid (x.cell bv1.out)
 replace bw0 := hid (x.cell bw0.out)
 replace bw1 := hid (x.cell bw1.out)
 replace lr := hid (lr.out.ext x)
 replace lk := hid (lk.out.ext x)
 replace bn0 := hid (x.cell bn0.out)
 replace bn1 := hid (x.cell bn1.out)
 replace X := hid (X.out.trans x)
 clear x hw hHeld hE0 z0 m0 l0 i12_0
 go_wp2_with fail
 -- E(A, [[3, 1]], S14, lm)
 have m0 := mA.out
 have l0 := cell_lt m0
 dsimp only at l0
 refine wp_region_held_drew (S := fun w' => Ext v13 w') (by kernel_rfl) (by repeat (with_reducible first | assumption | exact Ext.refl _ | refine Ext.drew ?_ | refine Ext.drewN ?_ _ | refine Ext.alloc ?_ _ | refine xS ?_ _ | refine xT ?_ (by assumption))) fun hHeld => ?_
 refine tkA (i := 0) (v := ?_) rfl (fun _ _ _ h => h) (Or.inl ⟨by rfl, ?yl⟩) (by assumption) ?_
 case yl => (intro w hSw; (try dsimp only at hSw); have k1 := Ext.cell hSw m0; go_simp); with_reducible rfl
 try simp only [sxA, sxB, sxC, Act.put, sxD, sxE, sxF]
 refine wpAnyH_ready (rs := [1]) (by kernel_rfl) (by simp) ?_
 refine AllReadyH.cons (o := _) rfl (fun K hK => ?_) AllReadyH.nil
 go_simp
 refine hK.out _ _ (by repeat (with_reducible first | assumption | exact Ext.refl _ | refine Ext.drew ?_ | refine Ext.drewN ?_ _ | refine Ext.alloc ?_ _ | refine xS ?_ _ | refine xT ?_ (by assumption))) (fun hHeld => ?_)
 clear hK K
 try simp only [sxA, sxB, sxC, Act.put, sxD, sxE, sxF]
 have i13_0 := hid (lit2 (w := v13) (x := 3) (y := 1) (t := 2) (n := v13.heap.size) (by simp))
 refine wpAnyH_ready (rs := [2]) (by kernel_rfl) (by simp) ?_
 refine AllReadyH.cons (o := _) rfl (fun K hK => ?_) AllReadyH.nil
 go_simp
 refine (longs_any _ _).mono ?_; rintro e w' ⟨rfl, rfl⟩
 refine hK.out _ _ (by repeat (with_reducible first | assumption | exact Ext.refl _ | refine Ext.drew ?_ | refine Ext.drewN ?_ _ | refine Ext.alloc ?_ _ | refine xS ?_ _ | refine xT ?_ (by assumption))) (fun hHeld => ?_)
 clear hK K
 try simp only [sxA, sxB, sxC, Act.put, sxD, sxE, sxF]
 refine wpAnyH_ready (rs := [3]) (by kernel_rfl) (by simp) ?_
 refine AllReadyH.cons (o := _) rfl (fun K hK => ?_) AllReadyH.nil
 go_simp
 refine (S14 _ _ _ _ _ (tA.out.ext (by repeat (with_reducible first | assumption | exact Ext.refl _ | refine Ext.drew ?_ | refine Ext.drewN ?_ _ | refine Ext.alloc ?_ _ | refine xS ?_ _ | refine xT ?_ (by assumption)))) (i13_0.out.ext (by repeat (with_reducible first | assumption | exact Ext.refl _ | refine Ext.drew ?_ | refine Ext.drewN ?_ _ | refine Ext.alloc ?_ _ | refine xS ?_ _ | refine xT ?_ (by assumption))))).mono ?_; rintro e u13 ⟨a13, c13, rfl, hI, hE⟩
 have hE0 : Ext v13 u13 := (by repeat (with_reducible first | assumption | exact Ext.refl _ | refine Ext.drew ?_ | refine Ext.drewN ?_ _ | refine Ext.alloc ?_ _ | refine xS ?_ _ | refine xT ?_ (by assumption)))
 have z0 := hE0.size
 clear hE
 refine hK.out _ _ (by repeat (with_reducible first | assumption | exact Ext.refl _ | refine Ext.drew ?_ | refine Ext.drewN ?_ _ | refine Ext.alloc ?_ _ | refine xS ?_ _ | refine xT ?_ (by assumption))) (fun hHeld => ?_)
 clear hK K
 try simp only [sxA, sxB, sxC, Act.put, sxD, sxE, sxF]
 refine tkA (i := 4) (v := ?_) rfl (fun _ _ _ h => h) (Or.inl ⟨by rfl, ?yl⟩) (by assumption) ?_
 case yl => (intro w hSw; (try dsimp only at hSw); have k1 := Ext.cell hSw m0; go_simp); with_reducible rfl
 try simp only [sxA, sxB, sxC, Act.put, sxD, sxE, sxF]
 refine tkA (i := 5) (v := ?_) rfl (fun _ _ _ h => h) (Or.inl ⟨by rfl, ?yl⟩) (by assumption) ?_
 case yl => (intro w hSw; (try dsimp only at hSw); have k1 := Ext.cell hSw m0; go_simp); with_reducible rfl
 try simp only [sxA, sxB, sxC, Act.put, sxD, sxE, sxF]
 refine tkA (i := 6) (v := ?_) rfl (fun _ _ _ h => h) (Or.inl ⟨by rfl, ?yl⟩) (by assumption) ?_
 case yl => (intro w hSw; (try dsimp only at hSw); have k1 := Ext.cell hSw m0; go_simp); with_reducible rfl
 try simp only [sxA, sxB, sxC, Act.put, sxD, sxE, sxF]
 refine tkA (i := 7) (v := ?_) rfl (fun _ _ _ h => h) (Or.inl ⟨by rfl, ?yl⟩) (by assumption) ?_
 case yl => (intro w hSw; (try dsimp only at hSw); have k1 := Ext.cell hSw m0; go_simp); with_reducible rfl
 try simp only [sxA, sxB, sxC, Act.put, sxD, sxE, sxF]
 refine tkA (i := 8) (v := ?_) rfl (fun _ _ _ h => h) (Or.inl ⟨by rfl, ?yl⟩) (by assumption) ?_
 case yl => (intro w hSw; (try dsimp only at hSw); have k1 := Ext.cell hSw m0; go_simp); with_reducible rfl
 try simp only [sxA, sxB, sxC, Act.put, sxD, sxE, sxF]
 refine wpAnyH_done (by kernel_rfl) ?_ _
 try simp only [sxA, sxB, sxC, Act.put, sxD, sxE, sxF]
 refine name_w (fun v14 hw => ?_)
 have x : Ext v13 v14 := by rw [hw]; exact (by repeat (with_reducible first | assumption | exact Ext.refl _ | refine Ext.drew ?_ | refine Ext.drewN ?_ _ | refine Ext.alloc ?_ _ | refine xS ?_ _ | refine xT ?_ (by assumption)))
 have lm := hid (hI.ext (show Ext u13 v14 from by rw [hw]; exact (by repeat (with_reducible first | assumption | exact Ext.refl _ | refine Ext.drew ?_ | refine Ext.drewN ?_ _ | refine Ext.alloc ?_ _ | refine xS ?_ _ | refine xT ?_ (by assumption)))))
 clear hI
 replace mA := hid (x.cell mA.out)
 replace mB := hid (x.cell mB.out)
 replace mC := hid (x.cell mC.out)
 replace tA := hid (tA.out.ext x)
 replace tB := hid (tB.out.ext x)
 replace tC := hid (tC.out.ext x)
 replace bx0 := hid (x.cell bx0.out)
 replace bx1 := hid (x.cell bx1.out)
 replace by0 := hid (x.cell by0.out)
 replace by1 := hid (x.cell by1.out)
 replace bv0 := hid (x.cell bv0.out)
 replace bv1 := hid (x.cell bv1.out)
 replace bw0 := hid (x.cell bw0.out)
 replace bw1 := hid (x.cell bw1.out)
 replace lr := hid (lr.out.ext x)
 replace lk := hid (lk.out.ext x)
 replace bn0 := hid (x.cell bn0.out)
 replace bn1 := hid (x.cell bn1.out)
 replace ll := hid (ll.out.ext x)
 replace X := hid (X.out.trans x)
 clear x hw hHeld hE0 z0 m0 l0 i13_0
 have m0 := mB.out
 have l0 := cell_lt m0
 dsimp only at l0
 go_wp2_with fail
 -- M(B, S15, lp, lq)
 refine (S15 _ _ _ (tB.out.ext (by repeat (with_reducible first | assumption | exact Ext.refl _ | refine Ext.drew ?_ | refine Ext.drewN ?_ _ | refine Ext.alloc ?_ _ | refine xS ?_ _ | refine xT ?_ (by assumption))))).mono ?_; rintro e u14 ⟨a14, c14, b14, d14, rfl, hI, hJ, hE⟩
 have x : Ext v14 u14 := (by repeat (with_reducible first | assumption | exact Ext.refl _ | refine Ext.drew ?_ | refine Ext.drewN ?_ _ | refine Ext.alloc ?_ _ | refine xS ?_ _ | refine xT ?_ (by assumption)))
 replace mA := hid (x.cell mA.out)
 replace mB := hid (x.cell mB.out)
 replace mC := hid (x.cell mC.out)
 replace tA := hid (tA.out.ext x)
 replace tB := hid (tB.out.ext x)
 replace tC := hid (tC.out.ext x)
 replace bx0 := hid (x.cell bx0.out)
 replace bx1 := hid (x.cell bx1.out)
 replace by0 := hid (x.cell by0.out)
 replace by1 := hid (x.cell by1.out)
 replace bv0 := hid (x.cell bv0.out)
 replace bv1 := hid (x.cell bv1.out)
 replace bw0 := hid (x.cell bw0.out)
 replace bw1 := hid (x.cell bw1.out)
 replace lr := hid (lr.out.ext x)
 replace lk := hid (lk.out.ext x)
 replace bn0 := hid (x.cell bn0.out)
 replace bn1 := hid (x.cell bn1.out)
 replace ll := hid (ll.out.ext x)
 replace lm := hid (lm.out.ext x)
 replace X := hid (X.out.trans x)
 have lp := hid hI
 have lq := hid hJ
 clear hI hJ
 clear x hE m0 l0
 have m0 := mB.out
 have l0 := cell_lt m0
 dsimp only at l0
 go_wp2_with fail
 -- M(B, S16, ls, lt)
 refine (S16 _ _ _ (tB.out.ext (by repeat (with_reducible first | assumption | exact Ext.refl _ | refine Ext.drew ?_ | refine Ext.drewN ?_ _ | refine Ext.alloc ?_ _ | refine xS ?_ _ | refine xT ?_ (by assumption))))).mono ?_; rintro e u15 ⟨a15, c15, b15, d15, rfl, hI, hJ, hE⟩
 have x : Ext u14 u15 := (by repeat (with_reducible first | assumption | exact Ext.refl _ | refine Ext.drew ?_ | refine Ext.drewN ?_ _ | refine Ext.alloc ?_ _ | refine xS ?_ _ | refine xT ?_ (by assumption)))
 replace mA := hid (x.cell mA.out)
 replace mB := hid (x.cell mB.out)
 replace mC := hid (x.cell mC.out)
 replace tA := hid (tA.out.ext x)
 replace tB := hid (tB.out.ext x)
 replace tC := hid (tC.out.ext x)
 replace bx0 := hid (x.cell bx0.out)
 replace bx1 := hid (x.cell bx1.out)
 replace by0 := hid (x.cell by0.out)
 replace by1 := hid (x.cell by1.out)
 replace bv0 := hid (x.cell bv0.out)
 replace bv1 := hid (x.cell bv1.out)
 replace bw0 := hid (x.cell bw0.out)
 replace bw1 := hid (x.cell bw1.out)
 replace lr := hid (lr.out.ext x)
 replace lk := hid (lk.out.ext x)
 replace bn0 := hid (x.cell bn0.out)
 replace bn1 := hid (x.cell bn1.out)
 replace ll := hid (ll.out.ext x)
 replace lm := hid (lm.out.ext x)
 replace lp := hid (lp.out.ext x)
 replace lq := hid (lq.out.ext x)
 replace X := hid (X.out.trans x)
 have ls := hid hI
 have lt := hid hJ
 clear hI hJ
 clear x hE m0 l0
 have m0 := mA.out
 have l0 := cell_lt m0
 dsimp only at l0
 go_wp2_with fail
 -- the reference says the same of the plans that are returned
 refine (S20 _ _ _ _ _ _ _ (tA.out.ext (by repeat (with_reducible first | assumption | exact Ext.refl _ | refine Ext.drew ?_ | refine Ext.drewN ?_ _ | refine Ext.alloc ?_ _ | refine xS ?_ _ | refine xT ?_ (by assumption)))) (lr.out.ext (by repeat (with_reducible first | assumption | exact Ext.refl _ | refine Ext.drew ?_ | refine Ext.drewN ?_ _ | refine Ext.alloc ?_ _ | refine xS ?_ _ | refine xT ?_ (by assumption)))) (lk.out.ext (by repeat (with_reducible first | assumption | exact Ext.refl _ | refine Ext.drew ?_ | refine Ext.drewN ?_ _ | refine Ext.alloc ?_ _ | refine xS ?_ _ | refine xT ?_ (by assumption))))).mono ?_; rintro e y0 ⟨rfl, hE⟩
 have x : Ext u15 y0 := (by repeat (with_reducible first | assumption | exact Ext.refl _ | refine Ext.drew ?_ | refine Ext.drewN ?_ _ | refine Ext.alloc ?_ _ | refine xS ?_ _ | refine xT ?_ (by assumption)))
 replace mA := hid (x.cell mA.out)
 replace mB := hid (x.cell mB.out)
 replace mC := hid (x.cell mC.out)
 replace tA := hid (tA.out.ext x)
 replace tB := hid (tB.out.ext x)
 replace tC := hid (tC.out.ext x)
 replace bx0 := hid (x.cell bx0.out)
 replace bx1 := hid (x.cell bx1.out)
 replace by0 := hid (x.cell by0.out)
 replace by1 := hid (x.cell by1.out)
 replace bv0 := hid (x.cell bv0.out)
 replace bv1 := hid (x.cell bv1.out)
 replace bw0 := hid (x.cell bw0.out)
 replace bw1 := hid (x.cell bw1.out)
 replace lr := hid (lr.out.ext x)
 replace lk := hid (lk.out.ext x)
 replace bn0 := hid (x.cell bn0.out)
 replace bn1 := hid (x.cell bn1.out)
 replace ll := hid (ll.out.ext x)
 replace lm := hid (lm.out.ext x)
 replace lp := hid (lp.out.ext x)
 replace lq := hid (lq.out.ext x)
 replace ls := hid (ls.out.ext x)
 replace lt := hid (lt.out.ext x)
 replace X := hid (X.out.trans x)
 clear x hE m0 l0
 have e11 : ∀ w, (Op.equalIn 10000 30 (.agg #[.int .i64 1, .int .i64 1]) (.agg #[.int .i64 1, .int .i64 1])).run Try.prog w = .ok true w := fun w => by rw [run_eqRatio]; rfl
 have e41 : ∀ w, (Op.equalIn 10000 30 (.agg #[.int .i64 4, .int .i64 1]) (.agg #[.int .i64 4, .int .i64 1])).run Try.prog w = .ok true w := fun w => by rw [run_eqRatio]; rfl
 have e01 : ∀ w, (Op.equalIn 10000 30 (.agg #[.int .i64 0, .int .i64 1]) (.agg #[.int .i64 0, .int .i64 1])).run Try.prog w = .ok true w := fun w => by rw [run_eqRatio]; rfl
 have fbx0 := bx0.out
 have fbx1 := bx1.out
 have gbx := cell_lt fbx0
 dsimp only at gbx
 have fby0 := by0.out
 have fby1 := by1.out
 have gby := cell_lt fby0
 dsimp only at gby
 have fbv0 := bv0.out
 have fbv1 := bv1.out
 have gbv := cell_lt fbv0
 dsimp only at gbv
 have fbw0 := bw0.out
 have fbw1 := bw1.out
 have gbw := cell_lt fbw0
 dsimp only at gbw
 have fbn0 := bn0.out
 have fbn1 := bn1.out
 have gbn := cell_lt fbn0
 dsimp only at gbn
 go_wp2_with fail
 refine name_wp (fun y1 hw => ?_)
 have x : Ext y0 y1 := by rw [hw]; exact (by repeat (with_reducible first | assumption | exact Ext.refl _ | refine Ext.drew ?_ | refine Ext.drewN ?_ _ | refine Ext.alloc ?_ _ | refine xS ?_ _ | refine xT ?_ (by assumption)))
 have bz0 := hid (show y1.cell? ⟨y0.heap.size, 0, none⟩ = some (.int .i64 1) by rw [hw]; simp [go_sem])
 have bz1 := hid (show y1.cell? ⟨y0.heap.size, 1, none⟩ = some (.int .i64 1) by rw [hw]; simp [go_sem])
 clear fbx0 fbx1 gbx fby0 fby1 gby fbv0 fbv1 gbv fbw0 fbw1 gbw fbn0 fbn1 gbn
 replace mA := hid (x.cell mA.out)
 replace mB := hid (x.cell mB.out)
 replace mC := hid (x.cell mC.out)
 replace tA := hid (tA.out.ext x)
 replace tB := hid (tB.out.ext x)
 replace tC := hid (tC.out.ext x)
 replace bx0 := hid (x.cell bx0.out)
 replace bx1 := hid (x.cell bx1.out)
 replace by0 := hid (x.cell by0.out)
 replace by1 := hid (x.cell by1.out)
 replace bv0 := hid (x.cell bv0.out)
 replace bv1 := hid (x.cell bv1.out)
 replace bw0 := hid (x.cell bw0.out)
 replace bw1 := hid (x.cell bw1.out)
 replace lr := hid (lr.out.ext x)
 replace lk := hid (lk.out.ext x)
 replace bn0 := hid (x.cell bn0.out)
 replace bn1 := hid (x.cell bn1.out)
 replace ll := hid (ll.out.ext x)
 replace lm := hid (lm.out.ext x)
 replace lp := hid (lp.out.ext x)
 replace lq := hid (lq.out.ext x)
 replace ls := hid (ls.out.ext x)
 replace lt := hid (lt.out.ext x)
 replace X := hid (X.out.trans x)
 clear x hw
 generalize y0.heap.size = Bbz at *
 have fbx0 := bx0.out
 have fbx1 := bx1.out
 have hbx := And.intro fbx0 fbx1
 replace hbx := hid hbx
 clear fbx0 fbx1
 have fby0 := by0.out
 have fby1 := by1.out
 have hby := And.intro fby0 fby1
 replace hby := hid hby
 clear fby0 fby1
 have fbv0 := bv0.out
 have fbv1 := bv1.out
 have hbv := And.intro fbv0 fbv1
 replace hbv := hid hbv
 clear fbv0 fbv1
 have fbw0 := bw0.out
 have fbw1 := bw1.out
 have hbw := And.intro fbw0 fbw1
 replace hbw := hid hbw
 clear fbw0 fbw1
 have fbn0 := bn0.out
 have fbn1 := bn1.out
 have hbn := And.intro fbn0 fbn1
 replace hbn := hid hbn
 clear fbn0 fbn1
 have fbz0 := bz0.out
 have fbz1 := bz1.out
 have hbz := And.intro fbz0 fbz1
 replace hbz := hid hbz
 clear fbz0 fbz1
 refine wp_mono (stTail rfl hbx.out hby.out hbv.out hbw.out hbn.out hbz.out ll.out lm.out lp.out lq.out ls.out lt.out) ?_
 rintro e a' y9 ⟨rfl, q0, q1, q2, q3, q4, q5, q6, q7, q8, q9, q10, q11, q12, q13, q14, q15, q16, q17, q18, q19, q20, q21, q22, q23, q24, q25, q26, q27, q28, q29, q30, q31, q32, q33, q34, q35, q36, q37, q38, q39, q40, q41, q42, q43, q44, q45, q46, q47, q48, q49, q50, q51, q52, q53, q54, q55, q56, q57, q58, q59, q60, q61, q62, q63, q64, q65, q66, q67, q68, q69, q70, q71, q72, q73, q74, q75, rfl, x⟩
 simp only [sxA, sxB, sxC, Act.put, sxD, sxE, sxF]
 go_wp2_with fail
 go_ret
 exact ⟨rfl, X.out.trans x⟩

end Go.Proofs.Ytommhgcgaclflaa
