/- The examples of Works: the walk of porringerlaw01.Works. (Printed by wip/gen_alloy_w.py.) -/
import Derived.Test.YtpnfhcnnodolbaaZB10
import Derived.Test.YtpnfhcnnodolbaaZB29
namespace Go.Proofs.Ytpnfhcnnodolbaa
set_option linter.unusedVariables false
set_option linter.unusedSimpArgs false
set_option linter.unusedSectionVars false
set_option linter.unnecessarySimpa false
open Go Go.RowKit Game
set_option maxRecDepth 100000
set_option maxHeartbeats 40000000 in
theorem works_any (w : World) : Calls Try.prog 18 #[] w fun e w' => e = .returned (.bool true) ∧ Ext w w' := by
 go_enter Try.func18, Try.ntmps18
 go_wp2_with fail
 refine (four_any _).mono ?_; rintro e w1 ⟨gm, rfl, hM, hE1⟩
 replace hM := hid hM
 go_wp2_with fail
 refine (two_any _).mono ?_; rintro e w2 ⟨gv, rfl, hV, hE2⟩
 replace hV := hid hV
 go_wp2_with fail
 refine (touchL_any _).mono ?_; rintro e w3 ⟨rfl, hE3⟩
 go_upto_region 2 with (fail)
 refine name_wp (fun v0 hv0 => ?_)
 have x0 : Ext w3 v0 := by rw [hv0]; exact exE
 have t0 := hid (show v0.cell? ⟨w3.heap.size, 0, none⟩ = some (.int .i64 100) by rw [hv0]; simp [go_sem])
 have t1 := hid (show v0.cell? ⟨w3.heap.size, 1, none⟩ = some (.int .i64 10) by rw [hv0]; simp [go_sem])
 have hm := hid (hM.out.ext (show Ext w1 v0 from exE))
 have hv := hid (hV.out.ext (show Ext w2 v0 from exE))
 have X := hid (show Ext w v0 from exE)
 clear hv0 x0 hM hV hE1 hE2 hE3
 obtain ⟨T, hT⟩ : ∃ T, w3.heap.size = T := ⟨_, rfl⟩
 rw [hT] at t0 t1 ⊢
 clear hT
 refine wp_mono (stW2 hm.out) ?_
 rintro e a' v1 ⟨rfl, B4, zW', zX', zY', zZ', uA', uB', uC', rfl, x, n0_, n1_⟩
 replace hm := hid (hm.out.ext x)
 replace hv := hid (hv.out.ext x)
 replace t0 := hid (x.cell t0.out)
 replace t1 := hid (x.cell t1.out)
 replace X := hid (X.out.trans x)
 have B4c0 := hid n0_
 have B4c1 := hid n1_
 clear x n0_ n1_
 go_upto_region 3 with (fail)
 refine wp_mono (stW3 hm.out) ?_
 rintro e a' v2 ⟨rfl, B6, uD', uE', uF', uG', uH', uI', uJ', rfl, x, n0_, n1_⟩
 replace hm := hid (hm.out.ext x)
 replace hv := hid (hv.out.ext x)
 replace t0 := hid (x.cell t0.out)
 replace t1 := hid (x.cell t1.out)
 replace B4c0 := hid (x.cell B4c0.out)
 replace B4c1 := hid (x.cell B4c1.out)
 replace X := hid (X.out.trans x)
 clear x n0_ n1_
 go_upto_region 4 with (fail)
 refine wp_mono (stW4 hm.out) ?_
 rintro e a' v3 ⟨rfl, B8, uK', uL', uM', uN', uO', uP', uQ', rfl, x, n0_, n1_⟩
 replace hm := hid (hm.out.ext x)
 replace hv := hid (hv.out.ext x)
 replace t0 := hid (x.cell t0.out)
 replace t1 := hid (x.cell t1.out)
 replace B4c0 := hid (x.cell B4c0.out)
 replace B4c1 := hid (x.cell B4c1.out)
 replace X := hid (X.out.trans x)
 clear x n0_ n1_
 go_upto_region 5 with (fail)
 refine wp_mono (stW5 hm.out) ?_
 rintro e a' v4 ⟨rfl, B10, B11, uR', uS', uT', uU', uV', uW', uX', uY', rfl, x, n0_, n1_, n2_, n3_⟩
 replace hm := hid (hm.out.ext x)
 replace hv := hid (hv.out.ext x)
 replace t0 := hid (x.cell t0.out)
 replace t1 := hid (x.cell t1.out)
 replace B4c0 := hid (x.cell B4c0.out)
 replace B4c1 := hid (x.cell B4c1.out)
 replace X := hid (X.out.trans x)
 have B10c0 := hid n0_
 have B10c1 := hid n1_
 have B11c0 := hid n2_
 have B11c1 := hid n3_
 clear x n0_ n1_ n2_ n3_
 go_upto_region 6 with (fail)
 refine wp_mono (stW6 rfl hm.out t0.out t1.out) ?_
 rintro e a' v5 ⟨rfl, k2, k7, rfl, x⟩
 replace hm := hid (hm.out.ext x)
 replace hv := hid (hv.out.ext x)
 replace t0 := hid (x.cell t0.out)
 replace t1 := hid (x.cell t1.out)
 replace B4c0 := hid (x.cell B4c0.out)
 replace B4c1 := hid (x.cell B4c1.out)
 replace B10c0 := hid (x.cell B10c0.out)
 replace B10c1 := hid (x.cell B10c1.out)
 replace B11c0 := hid (x.cell B11c0.out)
 replace B11c1 := hid (x.cell B11c1.out)
 replace X := hid (X.out.trans x)
 clear x
 go_upto_region 7 with (fail)
 refine wp_mono (stW7 rfl hm.out t0.out t1.out) ?_
 rintro e a' v6 ⟨rfl, k2, k7, rfl, x⟩
 replace hm := hid (hm.out.ext x)
 replace hv := hid (hv.out.ext x)
 replace t0 := hid (x.cell t0.out)
 replace t1 := hid (x.cell t1.out)
 replace B4c0 := hid (x.cell B4c0.out)
 replace B4c1 := hid (x.cell B4c1.out)
 replace B10c0 := hid (x.cell B10c0.out)
 replace B10c1 := hid (x.cell B10c1.out)
 replace B11c0 := hid (x.cell B11c0.out)
 replace B11c1 := hid (x.cell B11c1.out)
 replace X := hid (X.out.trans x)
 clear x
 go_upto_region 8 with (fail)
 refine wp_mono (stW8 hm.out t0.out t1.out) ?_
 rintro e a' v7 ⟨rfl, B17, iT', iU', iV', iW', iX', iY', rfl, x, n0_, n1_⟩
 replace hm := hid (hm.out.ext x)
 replace hv := hid (hv.out.ext x)
 replace t0 := hid (x.cell t0.out)
 replace t1 := hid (x.cell t1.out)
 replace B4c0 := hid (x.cell B4c0.out)
 replace B4c1 := hid (x.cell B4c1.out)
 replace B10c0 := hid (x.cell B10c0.out)
 replace B10c1 := hid (x.cell B10c1.out)
 replace B11c0 := hid (x.cell B11c0.out)
 replace B11c1 := hid (x.cell B11c1.out)
 replace X := hid (X.out.trans x)
 have B17c0 := hid n0_
 have B17c1 := hid n1_
 clear x n0_ n1_
 go_upto_region 9 with (fail)
 refine wp_mono (stW9 hm.out t0.out t1.out) ?_
 rintro e a' v8 ⟨rfl, B19, iZ', oA', oB', oC', oD', oE', rfl, x, n0_, n1_⟩
 replace hm := hid (hm.out.ext x)
 replace hv := hid (hv.out.ext x)
 replace t0 := hid (x.cell t0.out)
 replace t1 := hid (x.cell t1.out)
 replace B4c0 := hid (x.cell B4c0.out)
 replace B4c1 := hid (x.cell B4c1.out)
 replace B10c0 := hid (x.cell B10c0.out)
 replace B10c1 := hid (x.cell B10c1.out)
 replace B11c0 := hid (x.cell B11c0.out)
 replace B11c1 := hid (x.cell B11c1.out)
 replace B17c0 := hid (x.cell B17c0.out)
 replace B17c1 := hid (x.cell B17c1.out)
 replace X := hid (X.out.trans x)
 have B19c0 := hid n0_
 have B19c1 := hid n1_
 clear x n0_ n1_
 go_upto_region 10 with (fail)
 refine wp_mono (stW10 hv.out t0.out t1.out) ?_
 rintro e a' v9 ⟨rfl, B21, oF', oG', oH', oI', oJ', oK', rfl, x, n0_, n1_⟩
 replace hm := hid (hm.out.ext x)
 replace hv := hid (hv.out.ext x)
 replace t0 := hid (x.cell t0.out)
 replace t1 := hid (x.cell t1.out)
 replace B4c0 := hid (x.cell B4c0.out)
 replace B4c1 := hid (x.cell B4c1.out)
 replace B10c0 := hid (x.cell B10c0.out)
 replace B10c1 := hid (x.cell B10c1.out)
 replace B11c0 := hid (x.cell B11c0.out)
 replace B11c1 := hid (x.cell B11c1.out)
 replace B17c0 := hid (x.cell B17c0.out)
 replace B17c1 := hid (x.cell B17c1.out)
 replace B19c0 := hid (x.cell B19c0.out)
 replace B19c1 := hid (x.cell B19c1.out)
 replace X := hid (X.out.trans x)
 clear x n0_ n1_
 go_upto_region 11 with (fail)
 refine wp_mono (stW11 hm.out t0.out t1.out) ?_
 rintro e a' v10 ⟨rfl, al, cl, oL', oM', oN', oO', oP', oQ', rfl, x, n0_⟩
 replace hm := hid (hm.out.ext x)
 replace hv := hid (hv.out.ext x)
 replace t0 := hid (x.cell t0.out)
 replace t1 := hid (x.cell t1.out)
 replace B4c0 := hid (x.cell B4c0.out)
 replace B4c1 := hid (x.cell B4c1.out)
 replace B10c0 := hid (x.cell B10c0.out)
 replace B10c1 := hid (x.cell B10c1.out)
 replace B11c0 := hid (x.cell B11c0.out)
 replace B11c1 := hid (x.cell B11c1.out)
 replace B17c0 := hid (x.cell B17c0.out)
 replace B17c1 := hid (x.cell B17c1.out)
 replace B19c0 := hid (x.cell B19c0.out)
 replace B19c1 := hid (x.cell B19c1.out)
 replace X := hid (X.out.trans x)
 have hl := hid n0_
 clear x n0_
 go_upto_region 12 with (fail)
 refine wp_mono (stW12 rfl hm.out t0.out t1.out) ?_
 rintro e a' v11 ⟨rfl, B25, rfl, x, c7_0, c7_1, fz7_0, fz7_1, z7⟩
 replace hm := hid (hm.out.ext x)
 replace hv := hid (hv.out.ext x)
 replace t0 := hid (x.cell t0.out)
 replace t1 := hid (x.cell t1.out)
 replace B4c0 := hid (x.cell B4c0.out)
 replace B4c1 := hid (x.cell B4c1.out)
 replace B10c0 := hid (x.cell B10c0.out)
 replace B10c1 := hid (x.cell B10c1.out)
 replace B11c0 := hid (x.cell B11c0.out)
 replace B11c1 := hid (x.cell B11c1.out)
 replace B17c0 := hid (x.cell B17c0.out)
 replace B17c1 := hid (x.cell B17c1.out)
 replace B19c0 := hid (x.cell B19c0.out)
 replace B19c1 := hid (x.cell B19c1.out)
 replace hl := hid (hl.out.ext x)
 replace X := hid (X.out.trans x)
 have B25c0 := hid c7_0
 have B25c1 := hid c7_1
 clear x c7_0 c7_1 fz7_0 fz7_1 z7
 go_upto_region 13 with (fail)
 refine wp_mono (stW13 rfl hm.out t0.out t1.out) ?_
 rintro e a' v12 ⟨rfl, B27, rfl, x, c7_0, c7_1, fz7_0, fz7_1, z7⟩
 replace hm := hid (hm.out.ext x)
 replace hv := hid (hv.out.ext x)
 replace t0 := hid (x.cell t0.out)
 replace t1 := hid (x.cell t1.out)
 replace B4c0 := hid (x.cell B4c0.out)
 replace B4c1 := hid (x.cell B4c1.out)
 replace B10c0 := hid (x.cell B10c0.out)
 replace B10c1 := hid (x.cell B10c1.out)
 replace B11c0 := hid (x.cell B11c0.out)
 replace B11c1 := hid (x.cell B11c1.out)
 replace B17c0 := hid (x.cell B17c0.out)
 replace B17c1 := hid (x.cell B17c1.out)
 replace B19c0 := hid (x.cell B19c0.out)
 replace B19c1 := hid (x.cell B19c1.out)
 replace hl := hid (hl.out.ext x)
 replace B25c0 := hid (x.cell B25c0.out)
 replace B25c1 := hid (x.cell B25c1.out)
 replace X := hid (X.out.trans x)
 clear x c7_0 c7_1 fz7_0 fz7_1 z7
 go_upto_region 14 with (fail)
 refine wp_mono (stW14 hm.out t0.out t1.out) ?_
 rintro e a' v13 ⟨rfl, B29, qF', qG', qH', qI', qJ', qK', rfl, x, n0_, n1_, n2_, n3_⟩
 replace hm := hid (hm.out.ext x)
 replace hv := hid (hv.out.ext x)
 replace t0 := hid (x.cell t0.out)
 replace t1 := hid (x.cell t1.out)
 replace B4c0 := hid (x.cell B4c0.out)
 replace B4c1 := hid (x.cell B4c1.out)
 replace B10c0 := hid (x.cell B10c0.out)
 replace B10c1 := hid (x.cell B10c1.out)
 replace B11c0 := hid (x.cell B11c0.out)
 replace B11c1 := hid (x.cell B11c1.out)
 replace B17c0 := hid (x.cell B17c0.out)
 replace B17c1 := hid (x.cell B17c1.out)
 replace B19c0 := hid (x.cell B19c0.out)
 replace B19c1 := hid (x.cell B19c1.out)
 replace hl := hid (hl.out.ext x)
 replace B25c0 := hid (x.cell B25c0.out)
 replace B25c1 := hid (x.cell B25c1.out)
 replace X := hid (X.out.trans x)
 have B29c0 := hid n0_
 have B29c1 := hid n1_
 have B29c2 := hid n2_
 have B29c3 := hid n3_
 clear x n0_ n1_ n2_ n3_
 go_upto_region 15 with (fail)
 refine wp_mono (stW15 rfl hv.out t0.out t1.out) ?_
 rintro e a' v14 ⟨rfl, rfl, x⟩
 replace hm := hid (hm.out.ext x)
 replace hv := hid (hv.out.ext x)
 replace t0 := hid (x.cell t0.out)
 replace t1 := hid (x.cell t1.out)
 replace B4c0 := hid (x.cell B4c0.out)
 replace B4c1 := hid (x.cell B4c1.out)
 replace B10c0 := hid (x.cell B10c0.out)
 replace B10c1 := hid (x.cell B10c1.out)
 replace B11c0 := hid (x.cell B11c0.out)
 replace B11c1 := hid (x.cell B11c1.out)
 replace B17c0 := hid (x.cell B17c0.out)
 replace B17c1 := hid (x.cell B17c1.out)
 replace B19c0 := hid (x.cell B19c0.out)
 replace B19c1 := hid (x.cell B19c1.out)
 replace hl := hid (hl.out.ext x)
 replace B25c0 := hid (x.cell B25c0.out)
 replace B25c1 := hid (x.cell B25c1.out)
 replace B29c0 := hid (x.cell B29c0.out)
 replace B29c1 := hid (x.cell B29c1.out)
 replace B29c2 := hid (x.cell B29c2.out)
 replace B29c3 := hid (x.cell B29c3.out)
 replace X := hid (X.out.trans x)
 clear x
 go_upto_region 16 with (fail)
 refine wp_mono (stW16 hv.out t0.out t1.out) ?_
 rintro e a' v15 ⟨rfl, B33, qT', qU', qV', qW', qX', qY', rfl, x, n0_, n1_, n2_, n3_⟩
 replace hm := hid (hm.out.ext x)
 replace hv := hid (hv.out.ext x)
 replace t0 := hid (x.cell t0.out)
 replace t1 := hid (x.cell t1.out)
 replace B4c0 := hid (x.cell B4c0.out)
 replace B4c1 := hid (x.cell B4c1.out)
 replace B10c0 := hid (x.cell B10c0.out)
 replace B10c1 := hid (x.cell B10c1.out)
 replace B11c0 := hid (x.cell B11c0.out)
 replace B11c1 := hid (x.cell B11c1.out)
 replace B17c0 := hid (x.cell B17c0.out)
 replace B17c1 := hid (x.cell B17c1.out)
 replace B19c0 := hid (x.cell B19c0.out)
 replace B19c1 := hid (x.cell B19c1.out)
 replace hl := hid (hl.out.ext x)
 replace B25c0 := hid (x.cell B25c0.out)
 replace B25c1 := hid (x.cell B25c1.out)
 replace B29c0 := hid (x.cell B29c0.out)
 replace B29c1 := hid (x.cell B29c1.out)
 replace B29c2 := hid (x.cell B29c2.out)
 replace B29c3 := hid (x.cell B29c3.out)
 replace X := hid (X.out.trans x)
 have B33c0 := hid n0_
 have B33c1 := hid n1_
 have B33c2 := hid n2_
 have B33c3 := hid n3_
 clear x n0_ n1_ n2_ n3_
 go_upto_region 17 with (fail)
 refine wp_mono (stW17 hm.out t0.out t1.out) ?_
 rintro e a' v16 ⟨rfl, B35, qZ', rA', rB', rC', rD', rE', rfl, x, n0_, n1_, n2_, n3_⟩
 replace hm := hid (hm.out.ext x)
 replace hv := hid (hv.out.ext x)
 replace t0 := hid (x.cell t0.out)
 replace t1 := hid (x.cell t1.out)
 replace B4c0 := hid (x.cell B4c0.out)
 replace B4c1 := hid (x.cell B4c1.out)
 replace B10c0 := hid (x.cell B10c0.out)
 replace B10c1 := hid (x.cell B10c1.out)
 replace B11c0 := hid (x.cell B11c0.out)
 replace B11c1 := hid (x.cell B11c1.out)
 replace B17c0 := hid (x.cell B17c0.out)
 replace B17c1 := hid (x.cell B17c1.out)
 replace B19c0 := hid (x.cell B19c0.out)
 replace B19c1 := hid (x.cell B19c1.out)
 replace hl := hid (hl.out.ext x)
 replace B25c0 := hid (x.cell B25c0.out)
 replace B25c1 := hid (x.cell B25c1.out)
 replace B29c0 := hid (x.cell B29c0.out)
 replace B29c1 := hid (x.cell B29c1.out)
 replace B29c2 := hid (x.cell B29c2.out)
 replace B29c3 := hid (x.cell B29c3.out)
 replace B33c0 := hid (x.cell B33c0.out)
 replace B33c1 := hid (x.cell B33c1.out)
 replace B33c2 := hid (x.cell B33c2.out)
 replace B33c3 := hid (x.cell B33c3.out)
 replace X := hid (X.out.trans x)
 clear x n0_ n1_ n2_ n3_
 go_upto_region 18 with (fail)
 refine wp_mono (stW18 hm.out t0.out t1.out) ?_
 rintro e a' v17 ⟨rfl, B37, B38, rF', rG', rH', rI', rJ', rK', rL', rfl, x, n0_, n1_, n2_, n3_⟩
 replace hm := hid (hm.out.ext x)
 replace hv := hid (hv.out.ext x)
 replace t0 := hid (x.cell t0.out)
 replace t1 := hid (x.cell t1.out)
 replace B4c0 := hid (x.cell B4c0.out)
 replace B4c1 := hid (x.cell B4c1.out)
 replace B10c0 := hid (x.cell B10c0.out)
 replace B10c1 := hid (x.cell B10c1.out)
 replace B11c0 := hid (x.cell B11c0.out)
 replace B11c1 := hid (x.cell B11c1.out)
 replace B17c0 := hid (x.cell B17c0.out)
 replace B17c1 := hid (x.cell B17c1.out)
 replace B19c0 := hid (x.cell B19c0.out)
 replace B19c1 := hid (x.cell B19c1.out)
 replace hl := hid (hl.out.ext x)
 replace B25c0 := hid (x.cell B25c0.out)
 replace B25c1 := hid (x.cell B25c1.out)
 replace B29c0 := hid (x.cell B29c0.out)
 replace B29c1 := hid (x.cell B29c1.out)
 replace B29c2 := hid (x.cell B29c2.out)
 replace B29c3 := hid (x.cell B29c3.out)
 replace B33c0 := hid (x.cell B33c0.out)
 replace B33c1 := hid (x.cell B33c1.out)
 replace B33c2 := hid (x.cell B33c2.out)
 replace B33c3 := hid (x.cell B33c3.out)
 replace X := hid (X.out.trans x)
 have B37c0 := hid n0_
 have B37c1 := hid n1_
 have B38c0 := hid n2_
 have B38c1 := hid n3_
 clear x n0_ n1_ n2_ n3_
 go_upto_region 19 with (fail)
 refine wp_mono (stW19 hm.out t0.out t1.out) ?_
 rintro e a' v18 ⟨rfl, B40, B41, rM', rN', rO', rP', rQ', rR', rS', rfl, x, n0_, n1_, n2_, n3_⟩
 replace hm := hid (hm.out.ext x)
 replace hv := hid (hv.out.ext x)
 replace t0 := hid (x.cell t0.out)
 replace t1 := hid (x.cell t1.out)
 replace B4c0 := hid (x.cell B4c0.out)
 replace B4c1 := hid (x.cell B4c1.out)
 replace B10c0 := hid (x.cell B10c0.out)
 replace B10c1 := hid (x.cell B10c1.out)
 replace B11c0 := hid (x.cell B11c0.out)
 replace B11c1 := hid (x.cell B11c1.out)
 replace B17c0 := hid (x.cell B17c0.out)
 replace B17c1 := hid (x.cell B17c1.out)
 replace B19c0 := hid (x.cell B19c0.out)
 replace B19c1 := hid (x.cell B19c1.out)
 replace hl := hid (hl.out.ext x)
 replace B25c0 := hid (x.cell B25c0.out)
 replace B25c1 := hid (x.cell B25c1.out)
 replace B29c0 := hid (x.cell B29c0.out)
 replace B29c1 := hid (x.cell B29c1.out)
 replace B29c2 := hid (x.cell B29c2.out)
 replace B29c3 := hid (x.cell B29c3.out)
 replace B33c0 := hid (x.cell B33c0.out)
 replace B33c1 := hid (x.cell B33c1.out)
 replace B33c2 := hid (x.cell B33c2.out)
 replace B33c3 := hid (x.cell B33c3.out)
 replace B37c0 := hid (x.cell B37c0.out)
 replace B37c1 := hid (x.cell B37c1.out)
 replace B38c0 := hid (x.cell B38c0.out)
 replace B38c1 := hid (x.cell B38c1.out)
 replace X := hid (X.out.trans x)
 clear x n0_ n1_ n2_ n3_
 go_upto_region 20 with (fail)
 refine wp_mono (stW20 ) ?_
 rintro e a' v19 ⟨rfl, rT', rU', rV', rW', rX', rY', rZ', jA', jB', jC', jD', jE', jF', jG', jH', jI', jJ', jK', jL', jM', jN', jO', jP', jQ', jR', jS', jT', jU', jV', jW', jX', jY', jZ', nA', nB', nC', nD', nE', nF', nG', nH', nI', nJ', nK', nL', nM', nN', nO', nP', nQ', nR', nS', nT', nU', nV', nW', nX', nY', nZ', gA', gB', gC', gD', gE', gF', gG', gH', gI', gJ', gK', gL', gM', gN', gO', gP', gQ', gR', gS', gT', gU', gV', rfl, x⟩
 replace hm := hid (hm.out.ext x)
 replace hv := hid (hv.out.ext x)
 replace t0 := hid (x.cell t0.out)
 replace t1 := hid (x.cell t1.out)
 replace B4c0 := hid (x.cell B4c0.out)
 replace B4c1 := hid (x.cell B4c1.out)
 replace B10c0 := hid (x.cell B10c0.out)
 replace B10c1 := hid (x.cell B10c1.out)
 replace B11c0 := hid (x.cell B11c0.out)
 replace B11c1 := hid (x.cell B11c1.out)
 replace B17c0 := hid (x.cell B17c0.out)
 replace B17c1 := hid (x.cell B17c1.out)
 replace B19c0 := hid (x.cell B19c0.out)
 replace B19c1 := hid (x.cell B19c1.out)
 replace hl := hid (hl.out.ext x)
 replace B25c0 := hid (x.cell B25c0.out)
 replace B25c1 := hid (x.cell B25c1.out)
 replace B29c0 := hid (x.cell B29c0.out)
 replace B29c1 := hid (x.cell B29c1.out)
 replace B29c2 := hid (x.cell B29c2.out)
 replace B29c3 := hid (x.cell B29c3.out)
 replace B33c0 := hid (x.cell B33c0.out)
 replace B33c1 := hid (x.cell B33c1.out)
 replace B33c2 := hid (x.cell B33c2.out)
 replace B33c3 := hid (x.cell B33c3.out)
 replace B37c0 := hid (x.cell B37c0.out)
 replace B37c1 := hid (x.cell B37c1.out)
 replace B38c0 := hid (x.cell B38c0.out)
 replace B38c1 := hid (x.cell B38c1.out)
 replace X := hid (X.out.trans x)
 clear x
 go_upto_region 22 with (fail)
 refine wp_mono (stW22 hm.out t0.out t1.out B29c0.out B29c1.out B29c2.out B29c3.out) ?_
 rintro e a' v20 ⟨rfl, B43, gX', gY', gZ', fA', fB', fC', fD', rfl, x, n0_, n1_⟩
 replace hm := hid (hm.out.ext x)
 replace hv := hid (hv.out.ext x)
 replace t0 := hid (x.cell t0.out)
 replace t1 := hid (x.cell t1.out)
 replace B4c0 := hid (x.cell B4c0.out)
 replace B4c1 := hid (x.cell B4c1.out)
 replace B10c0 := hid (x.cell B10c0.out)
 replace B10c1 := hid (x.cell B10c1.out)
 replace B11c0 := hid (x.cell B11c0.out)
 replace B11c1 := hid (x.cell B11c1.out)
 replace B17c0 := hid (x.cell B17c0.out)
 replace B17c1 := hid (x.cell B17c1.out)
 replace B19c0 := hid (x.cell B19c0.out)
 replace B19c1 := hid (x.cell B19c1.out)
 replace hl := hid (hl.out.ext x)
 replace B25c0 := hid (x.cell B25c0.out)
 replace B25c1 := hid (x.cell B25c1.out)
 replace B29c0 := hid (x.cell B29c0.out)
 replace B29c1 := hid (x.cell B29c1.out)
 replace B29c2 := hid (x.cell B29c2.out)
 replace B29c3 := hid (x.cell B29c3.out)
 replace B33c0 := hid (x.cell B33c0.out)
 replace B33c1 := hid (x.cell B33c1.out)
 replace B33c2 := hid (x.cell B33c2.out)
 replace B33c3 := hid (x.cell B33c3.out)
 replace B37c0 := hid (x.cell B37c0.out)
 replace B37c1 := hid (x.cell B37c1.out)
 replace B38c0 := hid (x.cell B38c0.out)
 replace B38c1 := hid (x.cell B38c1.out)
 replace X := hid (X.out.trans x)
 have B43c0 := hid n0_
 have B43c1 := hid n1_
 clear x n0_ n1_
 go_upto_region 23 with (fail)
 refine wp_mono (stW23 rfl hm.out hv.out t0.out t1.out B43c0.out B43c1.out B33c0.out B33c1.out B33c2.out B33c3.out hl.out) ?_
 rintro e a' v21 ⟨rfl, rfl, x⟩
 replace hm := hid (hm.out.ext x)
 replace hv := hid (hv.out.ext x)
 replace t0 := hid (x.cell t0.out)
 replace t1 := hid (x.cell t1.out)
 replace B4c0 := hid (x.cell B4c0.out)
 replace B4c1 := hid (x.cell B4c1.out)
 replace B10c0 := hid (x.cell B10c0.out)
 replace B10c1 := hid (x.cell B10c1.out)
 replace B11c0 := hid (x.cell B11c0.out)
 replace B11c1 := hid (x.cell B11c1.out)
 replace B17c0 := hid (x.cell B17c0.out)
 replace B17c1 := hid (x.cell B17c1.out)
 replace B19c0 := hid (x.cell B19c0.out)
 replace B19c1 := hid (x.cell B19c1.out)
 replace hl := hid (hl.out.ext x)
 replace B25c0 := hid (x.cell B25c0.out)
 replace B25c1 := hid (x.cell B25c1.out)
 replace B29c0 := hid (x.cell B29c0.out)
 replace B29c1 := hid (x.cell B29c1.out)
 replace B29c2 := hid (x.cell B29c2.out)
 replace B29c3 := hid (x.cell B29c3.out)
 replace B33c0 := hid (x.cell B33c0.out)
 replace B33c1 := hid (x.cell B33c1.out)
 replace B33c2 := hid (x.cell B33c2.out)
 replace B33c3 := hid (x.cell B33c3.out)
 replace B37c0 := hid (x.cell B37c0.out)
 replace B37c1 := hid (x.cell B37c1.out)
 replace B38c0 := hid (x.cell B38c0.out)
 replace B38c1 := hid (x.cell B38c1.out)
 replace B43c0 := hid (x.cell B43c0.out)
 replace B43c1 := hid (x.cell B43c1.out)
 replace X := hid (X.out.trans x)
 clear x
 go_upto_region 25 with (fail)
 refine wp_mono (stW25 rfl B4c0.out B4c1.out B43c0.out B43c1.out B10c0.out B10c1.out B11c0.out B11c1.out B17c0.out B17c1.out B19c0.out B19c1.out B25c0.out B25c1.out B37c0.out B37c1.out B38c0.out B38c1.out) ?_
 rintro e a' v22 ⟨rfl, rfl, x⟩
 replace hm := hid (hm.out.ext x)
 replace hv := hid (hv.out.ext x)
 replace t0 := hid (x.cell t0.out)
 replace t1 := hid (x.cell t1.out)
 replace B4c0 := hid (x.cell B4c0.out)
 replace B4c1 := hid (x.cell B4c1.out)
 replace B10c0 := hid (x.cell B10c0.out)
 replace B10c1 := hid (x.cell B10c1.out)
 replace B11c0 := hid (x.cell B11c0.out)
 replace B11c1 := hid (x.cell B11c1.out)
 replace B17c0 := hid (x.cell B17c0.out)
 replace B17c1 := hid (x.cell B17c1.out)
 replace B19c0 := hid (x.cell B19c0.out)
 replace B19c1 := hid (x.cell B19c1.out)
 replace hl := hid (hl.out.ext x)
 replace B25c0 := hid (x.cell B25c0.out)
 replace B25c1 := hid (x.cell B25c1.out)
 replace B29c0 := hid (x.cell B29c0.out)
 replace B29c1 := hid (x.cell B29c1.out)
 replace B29c2 := hid (x.cell B29c2.out)
 replace B29c3 := hid (x.cell B29c3.out)
 replace B33c0 := hid (x.cell B33c0.out)
 replace B33c1 := hid (x.cell B33c1.out)
 replace B33c2 := hid (x.cell B33c2.out)
 replace B33c3 := hid (x.cell B33c3.out)
 replace B37c0 := hid (x.cell B37c0.out)
 replace B37c1 := hid (x.cell B37c1.out)
 replace B38c0 := hid (x.cell B38c0.out)
 replace B38c1 := hid (x.cell B38c1.out)
 replace B43c0 := hid (x.cell B43c0.out)
 replace B43c1 := hid (x.cell B43c1.out)
 replace X := hid (X.out.trans x)
 clear x
 go_wp2_with fail
 go_ret
 exact ⟨rfl, X.out⟩

end Go.Proofs.Ytpnfhcnnodolbaa
