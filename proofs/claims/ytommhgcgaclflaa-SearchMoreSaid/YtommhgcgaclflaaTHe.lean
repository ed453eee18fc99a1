/- The laws' examples, the last stage: of the walk of porringerlaw03.Works. (Printed by wip/genworks_s.py.) -/
import Derived.Test.YtommhgcgaclflaaZB7
import Derived.Test.YtommhgcgaclflaaZB23
namespace Go.Proofs.Ytommhgcgaclflaa
set_option linter.unusedVariables false
set_option linter.unusedSimpArgs false
set_option linter.unusedSectionVars false
set_option linter.unnecessarySimpa false
open Go Go.RowKit Game
set_option maxRecDepth 100000

set_option maxHeartbeats 40000000 in
theorem stTail {A_ : Act} {s0 s1 s2 s3 s5 s6 s7 s8 s9 s11 s13 s15 s16 s17 s18 s19 s21 s22 s23 s24 s25 s26 s29 s31 s33 s36 s39 s42 s43 s44 s45 s46 s47 s48 s49 s50 s51 s52 s53 s54 s55 s56 s57 s58 s59 s60 s61 s62 s63 s64 s65 s66 s67 s68 s69 s70 s71 s72 s73 s74 s75 s76 s77 s78 s79 s80 s81 s82 s83 s84 s85 s86 s87 s88 s89 s90 s91 s92 s93 s94 s95 s96 s97 s98 s99 s100 s101 s102 s103 s104 s105 s106 s107 s108 s109 s110 s111 s112 s113 s114 s115 s116 s117 s118 s119 s120 s121 s122 s123 s124 s125 s126 s127 s128 s129 s130 s131 s132 s133 s134 s135 s136 s137 s138 s139 s140 s141 s142 s143 s144 s145 s146 s147 s148 s149 s150 s151 s152 s153 s154 s155 s156 s157 s158 s159 s160 s161 s162 s163 s164 s165 s166 s167 s168 s169 s170 s171 s172 s173 s174 s175 s176 s177 s178 s179 s180 s181 s182 s183 s184 s185 s186 s187 s188 s189 s190 s191 s192 s193 s194 s195 s196 s197 s198 s199 s200 s201 s202 s203 s204 s205 s206 s207 s208 s209 s210 s211 s212 s213 s214 s215 s216 s217 s218 s219 s220 s221 s222 s223 s224 s225 s226 s227 s228 s229 s230 s231 s232 s233 s234 s235 s236 s237 s238 s239 s240 s241 s242 s243 s244 s245 s246 s247 s248 s249 s250 s251 s252 s253 s254 s255 s256 s257 s258 s259 s260 s261 s262 s263 s264 s265 s266 s267 s268 s269 s270 s271 s272 s273 s274 s275 s276 s277 s278 s279 s280 s281 s282 s283 s284 s285 s286 s287 s288 s289 s290 s291 s292 s293 : Value} {Bbx Bby Bbv Bbw Bbn Bbz : Nat} {all alm alp alq als alt : Option Addr} {cll clm clp clq cls clt : Nat} {y1 : World} (hA0_ : A_ = { tmps := #[s0, s1, s2, s3, .pointer (some ⟨Bbx, 0, none⟩), s5, s6, s7, s8, s9, .pointer (some ⟨Bby, 0, none⟩), s11, .pointer (some ⟨Bbv, 0, none⟩), s13, .pointer (some ⟨Bbw, 0, none⟩), s15, s16, s17, s18, s19, .pointer (some ⟨Bbn, 0, none⟩), s21, s22, s23, s24, s25, s26, .int .i64 0, .int .i64 0, s29, .slice all 2 cll, s31, .slice alm 1 clm, s33, .slice alp 1 clp, .slice alq 1 clq, s36, .slice als 1 cls, .slice alt 1 clt, s39, .pointer (some ⟨Bbz, 0, none⟩), .int .i64 0, s42, s43, s44, s45, s46, s47, s48, s49, s50, s51, s52, s53, s54, s55, s56, s57, s58, s59, s60, s61, s62, s63, s64, s65, s66, s67, s68, s69, s70, s71, s72, s73, s74, s75, s76, s77, s78, s79, s80, s81, s82, s83, s84, s85, s86, s87, s88, s89, s90, s91, s92, s93, s94, s95, s96, s97, s98, s99, s100, s101, s102, s103, s104, s105, s106, s107, s108, s109, s110, s111, s112, s113, s114, s115, s116, s117, s118, s119, s120, s121, s122, s123, s124, s125, s126, s127, s128, s129, s130, s131, s132, s133, s134, s135, s136, s137, s138, s139, s140, s141, s142, s143, s144, s145, s146, s147, s148, s149, s150, s151, s152, s153, s154, s155, s156, s157, s158, s159, s160, s161, s162, s163, s164, s165, s166, s167, s168, s169, s170, s171, s172, s173, s174, s175, s176, s177, s178, s179, s180, s181, s182, s183, s184, s185, s186, s187, s188, s189, s190, s191, s192, s193, s194, s195, s196, s197, s198, s199, s200, s201, s202, s203, s204, s205, s206, s207, s208, s209, s210, s211, s212, s213, s214, s215, s216, s217, s218, s219, s220, s221, s222, s223, s224, s225, s226, s227, s228, s229, s230, s231, s232, s233, s234, s235, s236, s237, s238, s239, s240, s241, s242, s243, s244, s245, s246, s247, s248, s249, s250, s251, s252, s253, s254, s255, s256, s257, s258, s259, s260, s261, s262, s263, s264, s265, s266, s267, s268, s269, s270, s271, s272, s273, s274, s275, s276, s277, s278, s279, s280, s281, s282, s283, s284, s285, s286, s287, s288, s289, s290, s291, s292, s293], defers := [] }) (hbx : y1.cell? ⟨Bbx, 0, none⟩ = some (.int .i64 1) ∧ y1.cell? ⟨Bbx, 1, none⟩ = some (.int .i64 1)) (hby : y1.cell? ⟨Bby, 0, none⟩ = some (.int .i64 4) ∧ y1.cell? ⟨Bby, 1, none⟩ = some (.int .i64 1)) (hbv : y1.cell? ⟨Bbv, 0, none⟩ = some (.int .i64 1) ∧ y1.cell? ⟨Bbv, 1, none⟩ = some (.int .i64 1)) (hbw : y1.cell? ⟨Bbw, 0, none⟩ = some (.int .i64 0) ∧ y1.cell? ⟨Bbw, 1, none⟩ = some (.int .i64 1)) (hbn : y1.cell? ⟨Bbn, 0, none⟩ = some (.int .i64 1) ∧ y1.cell? ⟨Bbn, 1, none⟩ = some (.int .i64 1)) (hbz : y1.cell? ⟨Bbz, 0, none⟩ = some (.int .i64 1) ∧ y1.cell? ⟨Bbz, 1, none⟩ = some (.int .i64 1)) (ll : Ints y1 all [0, 1]) (lm : Ints y1 alm [0]) (lp : Ints y1 alp [0]) (lq : Ints y1 alq [0]) (ls : Ints y1 als [0]) (lt : Ints y1 alt [0]) :
 Code.wp Try.prog (rgn Try.f18 21) (fun e a' w' => e = .normal ∧ ∃ (q0 q1 q2 q3 q4 q5 q6 q7 q8 q9 q10 q11 q12 q13 q14 q15 q16 q17 q18 q19 q20 q21 q22 q23 q24 q25 q26 q27 q28 q29 q30 q31 q32 q33 q34 q35 q36 q37 q38 q39 q40 q41 q42 q43 q44 q45 q46 q47 q48 q49 q50 q51 q52 q53 q54 q55 q56 q57 q58 q59 q60 q61 q62 q63 q64 q65 q66 q67 q68 q69 q70 q71 q72 q73 q74 q75 : Value), a' = (((((((((((((((((((((((((((((((((((((((((((((((((((((((((((((((((((((((((((((A_.put (some 218) q0).put (some 219) q1).put (some 220) q2).put (some 221) q3).put (some 222) q4).put (some 223) q5).put (some 224) q6).put (some 225) q7).put (some 226) q8).put (some 227) q9).put (some 228) q10).put (some 229) q11).put (some 230) q12).put (some 231) q13).put (some 232) q14).put (some 233) q15).put (some 234) q16).put (some 235) q17).put (some 236) q18).put (some 237) q19).put (some 238) q20).put (some 239) q21).put (some 240) q22).put (some 241) q23).put (some 242) q24).put (some 243) q25).put (some 244) q26).put (some 245) q27).put (some 246) q28).put (some 247) q29).put (some 248) q30).put (some 249) q31).put (some 250) q32).put (some 251) q33).put (some 252) q34).put (some 253) q35).put (some 254) q36).put (some 255) q37).put (some 256) q38).put (some 257) q39).put (some 258) q40).put (some 259) q41).put (some 260) q42).put (some 261) q43).put (some 262) q44).put (some 263) q45).put (some 264) q46).put (some 265) q47).put (some 266) q48).put (some 267) q49).put (some 268) q50).put (some 269) q51).put (some 270) q52).put (some 271) q53).put (some 272) q54).put (some 273) q55).put (some 274) q56).put (some 275) q57).put (some 276) q58).put (some 277) q59).put (some 278) q60).put (some 279) q61).put (some 280) q62).put (some 281) q63).put (some 282) q64).put (some 283) q65).put (some 284) q66).put (some 285) q67).put (some 286) q68).put (some 287) q69).put (some 288) q70).put (some 289) q71).put (some 290) q72).put (some 291) q73).put (some 292) q74).put (some 293) q75).put (some 0) (.bool true)) ∧ Ext y1 w') A_ y1 := by
 conv => arg 2; whnf
 refine st_intro (fun Q2 hQ2 => ?_)
 have hA_ := hid hA0_
 clear hA0_
 have hpan : ∀ c a a' w w', Q2 (.panic c) a w → Q2 (.panic c) a' w' := by rw [hQ2]; rintro c a a' w w' ⟨h, _⟩; cases h
 replace hQ2 := hid hQ2
 replace hbx := hid hbx
 replace hby := hid hby
 replace hbv := hid hbv
 replace hbw := hid hbw
 replace hbn := hid hbn
 replace hbz := hid hbz
 replace ll := hid ll
 replace lm := hid lm
 replace lp := hid lp
 replace lq := hid lq
 replace ls := hid ls
 replace lt := hid lt
 have e11 : ∀ w, (Op.equalIn 10000 30 (.agg #[.int .i64 1, .int .i64 1]) (.agg #[.int .i64 1, .int .i64 1])).run Try.prog w = .ok true w := fun w => by rw [run_eqRatio]; rfl
 have e41 : ∀ w, (Op.equalIn 10000 30 (.agg #[.int .i64 4, .int .i64 1]) (.agg #[.int .i64 4, .int .i64 1])).run Try.prog w = .ok true w := fun w => by rw [run_eqRatio]; rfl
 have e01 : ∀ w, (Op.equalIn 10000 30 (.agg #[.int .i64 0, .int .i64 1]) (.agg #[.int .i64 0, .int .i64 1])).run Try.prog w = .ok true w := fun w => by rw [run_eqRatio]; rfl
 refine wp_region_held_drew (S := fun w' => Ext y1 w') (by kernel_rfl) (by repeat (with_reducible first | assumption | exact Ext.refl _ | refine Ext.drew ?_ | refine Ext.drewN ?_ _ | refine Ext.alloc ?_ _ | refine xS ?_ _ | refine xT ?_ (by assumption))) fun hHeld => ?_
 simp only [List.append_eq, List.cons_append, List.nil_append]
 rw [hA_.out]
 refine tkA (i := 0) (v := ?_) rfl (fun c a w h => hpan c _ _ _ _ h) (Or.inl ⟨by rfl, ?yl⟩) (by assumption) ?_
 case yl => (intro w hSw; (try dsimp only at hSw); have k0 := Ext.cell hSw hbx.out.1; have k1 := Ext.cell hSw hbx.out.2; go_simp); with_reducible rfl
 try simp only [sxA, sxB, sxC, Act.put, sxD, sxE, sxF]
 refine wpAnyH_ready (rs := [1]) (by kernel_rfl) (by simp) ?_
 refine AllReadyH.cons (o := _) rfl (fun K hK => ?_) AllReadyH.nil
 go_simp
 refine (byL_any 1 1 _).mono ?_; rintro e y2 ⟨rfl, hE⟩
 have hEy2 : Ext y1 y2 := (by repeat (with_reducible first | assumption | exact Ext.refl _ | refine Ext.drew ?_ | refine Ext.drewN ?_ _ | refine Ext.alloc ?_ _ | refine xS ?_ _ | refine xT ?_ (by assumption)))
 clear hE
 refine hK.out _ _ (by repeat (with_reducible first | assumption | exact Ext.refl _ | refine Ext.drew ?_ | refine Ext.drewN ?_ _ | refine Ext.alloc ?_ _ | refine xS ?_ _ | refine xT ?_ (by assumption))) (fun hHeld => ?_)
 clear hK K
 try simp only [sxA, sxB, sxC, Act.put, sxD, sxE, sxF]
 refine tkA (i := 2) (v := ?_) rfl (fun c a w h => hpan c _ _ _ _ h) (Or.inl ⟨by rfl, ?yl⟩) (by assumption) ?_
 case yl => (intro w hSw; go_simp); with_reducible rfl
 try simp only [sxA, sxB, sxC, Act.put, sxD, sxE, sxF]
 refine tkA (i := 3) (v := ?_) rfl (fun c a w h => hpan c _ _ _ _ h) (Or.inl ⟨by rfl, ?yl⟩) (by assumption) ?_
 case yl => (intro w hSw; go_simp); with_reducible rfl
 try simp only [sxA, sxB, sxC, Act.put, sxD, sxE, sxF]
 refine tkA (i := 4) (v := ?_) rfl (fun c a w h => hpan c _ _ _ _ h) (Or.inl ⟨by rfl, ?yl⟩) (by assumption) ?_
 case yl => (intro w hSw; (try dsimp only at hSw); have k0 := Ext.cell hSw hby.out.1; have k1 := Ext.cell hSw hby.out.2; go_simp); with_reducible rfl
 try simp only [sxA, sxB, sxC, Act.put, sxD, sxE, sxF]
 refine wpAnyH_ready (rs := [5]) (by kernel_rfl) (by simp) ?_
 refine AllReadyH.cons (o := _) rfl (fun K hK => ?_) AllReadyH.nil
 go_simp
 refine (byL_any 4 1 _).mono ?_; rintro e y3 ⟨rfl, hE⟩
 have hEy3 : Ext y1 y3 := (by repeat (with_reducible first | assumption | exact Ext.refl _ | refine Ext.drew ?_ | refine Ext.drewN ?_ _ | refine Ext.alloc ?_ _ | refine xS ?_ _ | refine xT ?_ (by assumption)))
 clear hE
 refine hK.out _ _ (by repeat (with_reducible first | assumption | exact Ext.refl _ | refine Ext.drew ?_ | refine Ext.drewN ?_ _ | refine Ext.alloc ?_ _ | refine xS ?_ _ | refine xT ?_ (by assumption))) (fun hHeld => ?_)
 clear hK K
 try simp only [sxA, sxB, sxC, Act.put, sxD, sxE, sxF]
 refine tkA (i := 6) (v := ?_) rfl (fun c a w h => hpan c _ _ _ _ h) (Or.inl ⟨by rfl, ?yl⟩) (by assumption) ?_
 case yl => (intro w hSw; go_simp); with_reducible rfl
 try simp only [sxA, sxB, sxC, Act.put, sxD, sxE, sxF]
 refine tkA (i := 7) (v := ?_) rfl (fun c a w h => hpan c _ _ _ _ h) (Or.inl ⟨by rfl, ?yl⟩) (by assumption) ?_
 case yl => (intro w hSw; go_simp); with_reducible rfl
 try simp only [sxA, sxB, sxC, Act.put, sxD, sxE, sxF]
 refine tkA (i := 8) (v := ?_) rfl (fun c a w h => hpan c _ _ _ _ h) (Or.inl ⟨by rfl, ?yl⟩) (by assumption) ?_
 case yl => (intro w hSw; go_simp); with_reducible rfl
 try simp only [sxA, sxB, sxC, Act.put, sxD, sxE, sxF]
 refine tkA (i := 9) (v := ?_) rfl (fun c a w h => hpan c _ _ _ _ h) (Or.inl ⟨by rfl, ?yl⟩) (by assumption) ?_
 case yl => (intro w hSw; (try dsimp only at hSw); have k0 := Ext.cell hSw hbv.out.1; have k1 := Ext.cell hSw hbv.out.2; go_simp); with_reducible rfl
 try simp only [sxA, sxB, sxC, Act.put, sxD, sxE, sxF]
 refine tkA (i := 10) (v := ?_) rfl (fun c a w h => hpan c _ _ _ _ h) (Or.inl ⟨by rfl, ?yl⟩) (by assumption) ?_
 case yl => (intro w hSw; (try dsimp only at hSw); have k0 := Ext.cell hSw hbx.out.1; have k1 := Ext.cell hSw hbx.out.2; go_simp); with_reducible rfl
 try simp only [sxA, sxB, sxC, Act.put, sxD, sxE, sxF]
 refine tkA (i := 11) (v := ?_) rfl (fun c a w h => hpan c _ _ _ _ h) (Or.inl ⟨by rfl, ?yl⟩) (by assumption) ?_
 case yl => (intro w hSw; go_simp); with_reducible rfl
 try simp only [sxA, sxB, sxC, Act.put, sxD, sxE, sxF]
 refine tkA (i := 12) (v := ?_) rfl (fun c a w h => hpan c _ _ _ _ h) (Or.inl ⟨by rfl, ?yl⟩) (by assumption) ?_
 case yl => (intro w hSw; go_simp); with_reducible rfl
 try simp only [sxA, sxB, sxC, Act.put, sxD, sxE, sxF]
 refine tkA (i := 13) (v := ?_) rfl (fun c a w h => hpan c _ _ _ _ h) (Or.inl ⟨by rfl, ?yl⟩) (by assumption) ?_
 case yl => (intro w hSw; go_simp); with_reducible rfl
 try simp only [sxA, sxB, sxC, Act.put, sxD, sxE, sxF]
 refine tkA (i := 14) (v := ?_) rfl (fun c a w h => hpan c _ _ _ _ h) (Or.inl ⟨by rfl, ?yl⟩) (by assumption) ?_
 case yl => (intro w hSw; (try dsimp only at hSw); have k0 := Ext.cell hSw hbw.out.1; have k1 := Ext.cell hSw hbw.out.2; go_simp); with_reducible rfl
 try simp only [sxA, sxB, sxC, Act.put, sxD, sxE, sxF]
 refine wpAnyH_ready (rs := [15]) (by kernel_rfl) (by simp) ?_
 refine AllReadyH.cons (o := _) rfl (fun K hK => ?_) AllReadyH.nil
 go_simp
 refine (byL_any 0 1 _).mono ?_; rintro e y4 ⟨rfl, hE⟩
 have hEy4 : Ext y1 y4 := (by repeat (with_reducible first | assumption | exact Ext.refl _ | refine Ext.drew ?_ | refine Ext.drewN ?_ _ | refine Ext.alloc ?_ _ | refine xS ?_ _ | refine xT ?_ (by assumption)))
 clear hE
 refine hK.out _ _ (by repeat (with_reducible first | assumption | exact Ext.refl _ | refine Ext.drew ?_ | refine Ext.drewN ?_ _ | refine Ext.alloc ?_ _ | refine xS ?_ _ | refine xT ?_ (by assumption))) (fun hHeld => ?_)
 clear hK K
 try simp only [sxA, sxB, sxC, Act.put, sxD, sxE, sxF]
 refine tkA (i := 16) (v := ?_) rfl (fun c a w h => hpan c _ _ _ _ h) (Or.inl ⟨by rfl, ?yl⟩) (by assumption) ?_
 case yl => (intro w hSw; go_simp); with_reducible rfl
 try simp only [sxA, sxB, sxC, Act.put, sxD, sxE, sxF]
 refine tkA (i := 17) (v := ?_) rfl (fun c a w h => hpan c _ _ _ _ h) (Or.inl ⟨by rfl, ?yl⟩) (by assumption) ?_
 case yl => (intro w hSw; go_simp); with_reducible rfl
 try simp only [sxA, sxB, sxC, Act.put, sxD, sxE, sxF]
 refine tkA (i := 18) (v := ?_) rfl (fun c a w h => hpan c _ _ _ _ h) (Or.inl ⟨by rfl, ?yl⟩) (by assumption) ?_
 case yl => (intro w hSw; go_simp); with_reducible rfl
 try simp only [sxA, sxB, sxC, Act.put, sxD, sxE, sxF]
 refine tkA (i := 19) (v := ?_) rfl (fun c a w h => hpan c _ _ _ _ h) (Or.inl ⟨by rfl, ?yl⟩) (by assumption) ?_
 case yl => (intro w hSw; (try dsimp only at hSw); have k0 := Ext.cell hSw hbn.out.1; have k1 := Ext.cell hSw hbn.out.2; go_simp); with_reducible rfl
 try simp only [sxA, sxB, sxC, Act.put, sxD, sxE, sxF]
 refine tkA (i := 20) (v := ?_) rfl (fun c a w h => hpan c _ _ _ _ h) (Or.inl ⟨by rfl, ?yl⟩) (by assumption) ?_
 case yl => (intro w hSw; (try dsimp only at hSw); have k0 := Ext.cell hSw hbx.out.1; have k1 := Ext.cell hSw hbx.out.2; go_simp); with_reducible rfl
 try simp only [sxA, sxB, sxC, Act.put, sxD, sxE, sxF]
 refine tkA (i := 21) (v := ?_) rfl (fun c a w h => hpan c _ _ _ _ h) (Or.inl ⟨by rfl, ?yl⟩) (by assumption) ?_
 case yl => (intro w hSw; go_simp); with_reducible rfl
 try simp only [sxA, sxB, sxC, Act.put, sxD, sxE, sxF]
 refine tkA (i := 22) (v := ?_) rfl (fun c a w h => hpan c _ _ _ _ h) (Or.inl ⟨by rfl, ?yl⟩) (by assumption) ?_
 case yl => (intro w hSw; go_simp); with_reducible rfl
 try simp only [sxA, sxB, sxC, Act.put, sxD, sxE, sxF]
 refine tkA (i := 23) (v := ?_) rfl (fun c a w h => hpan c _ _ _ _ h) (Or.inl ⟨by rfl, ?yl⟩) (by assumption) ?_
 case yl => (intro w hSw; go_simp); with_reducible rfl
 try simp only [sxA, sxB, sxC, Act.put, sxD, sxE, sxF]
 refine tkA (i := 24) (v := ?_) rfl (fun c a w h => hpan c _ _ _ _ h) (Or.inl ⟨by rfl, ?yl⟩) (by assumption) ?_
 case yl => (intro w hSw; go_simp); with_reducible rfl
 try simp only [sxA, sxB, sxC, Act.put, sxD, sxE, sxF]
 refine tkA (i := 25) (v := ?_) rfl (fun c a w h => hpan c _ _ _ _ h) (Or.inl ⟨by rfl, ?yl⟩) (by assumption) ?_
 case yl => (intro w hSw; go_simp); with_reducible rfl
 try simp only [sxA, sxB, sxC, Act.put, sxD, sxE, sxF]
 refine tkA (i := 26) (v := ?_) rfl (fun c a w h => hpan c _ _ _ _ h) (Or.inl ⟨by rfl, ?yl⟩) (by assumption) ?_
 case yl => (intro w hSw; go_simp); with_reducible rfl
 try simp only [sxA, sxB, sxC, Act.put, sxD, sxE, sxF]
 refine tkA (i := 27) (v := ?_) rfl (fun c a w h => hpan c _ _ _ _ h) (Or.inl ⟨by rfl, ?yl⟩) (by assumption) ?_
 case yl => (intro w hSw; go_simp); with_reducible rfl
 try simp only [sxA, sxB, sxC, Act.put, sxD, sxE, sxF]
 refine tkA (i := 28) (v := ?_) rfl (fun c a w h => hpan c _ _ _ _ h) (Or.inl ⟨by rfl, ?yl⟩) (by assumption) ?_
 case yl => (intro w hSw; (try dsimp only at hSw); have k0 := Ext.cell hSw hbz.out.1; have k1 := Ext.cell hSw hbz.out.2; go_simp); with_reducible rfl
 try simp only [sxA, sxB, sxC, Act.put, sxD, sxE, sxF]
 refine tkA (i := 29) (v := ?_) rfl (fun c a w h => hpan c _ _ _ _ h) (Or.inl ⟨by rfl, ?yl⟩) (by assumption) ?_
 case yl => (intro w hSw; (try dsimp only at hSw); have k0 := Ext.cell hSw hbx.out.1; have k1 := Ext.cell hSw hbx.out.2; go_simp); with_reducible rfl
 try simp only [sxA, sxB, sxC, Act.put, sxD, sxE, sxF]
 refine tkA (i := 30) (v := ?_) rfl (fun c a w h => hpan c _ _ _ _ h) (Or.inl ⟨by rfl, ?yl⟩) (by assumption) ?_
 case yl => (intro w hSw; go_simp); with_reducible rfl
 try simp only [sxA, sxB, sxC, Act.put, sxD, sxE, sxF]
 refine tkA (i := 31) (v := ?_) rfl (fun c a w h => hpan c _ _ _ _ h) (Or.inl ⟨by rfl, ?yl⟩) (by assumption) ?_
 case yl => (intro w hSw; go_simp); with_reducible rfl
 try simp only [sxA, sxB, sxC, Act.put, sxD, sxE, sxF]
 refine tkA (i := 32) (v := ?_) rfl (fun c a w h => hpan c _ _ _ _ h) (Or.inl ⟨by rfl, ?yl⟩) (by assumption) ?_
 case yl => (intro w hSw; go_simp); with_reducible rfl
 try simp only [sxA, sxB, sxC, Act.put, sxD, sxE, sxF]
 refine tkA (i := 33) (v := ?_) rfl (fun c a w h => hpan c _ _ _ _ h) (Or.inl ⟨by rfl, ?yl⟩) (by assumption) ?_
 case yl => (intro w hSw; go_simp); with_reducible rfl
 try simp only [sxA, sxB, sxC, Act.put, sxD, sxE, sxF]
 refine tkA (i := 34) (v := ?_) rfl (fun c a w h => hpan c _ _ _ _ h) (Or.inl ⟨by rfl, ?yl⟩) (by assumption) ?_
 case yl => (intro w hSw; go_simp); with_reducible rfl
 try simp only [sxA, sxB, sxC, Act.put, sxD, sxE, sxF]
 refine tkA (i := 35) (v := ?_) rfl (fun c a w h => hpan c _ _ _ _ h) (Or.inl ⟨by rfl, ?yl⟩) (by assumption) ?_
 case yl => (intro w hSw; go_simp); with_reducible rfl
 try simp only [sxA, sxB, sxC, Act.put, sxD, sxE, sxF]
 refine tkA (i := 36) (v := ?_) rfl (fun c a w h => hpan c _ _ _ _ h) (Or.inl ⟨by rfl, ?yl⟩) (by assumption) ?_
 case yl => (intro w hSw; go_simp); with_reducible rfl
 try simp only [sxA, sxB, sxC, Act.put, sxD, sxE, sxF]
 refine tkA (i := 37) (v := ?_) rfl (fun c a w h => hpan c _ _ _ _ h) (Or.inl ⟨by rfl, ?yl⟩) (by assumption) ?_
 case yl => (intro w hSw; go_simp); with_reducible rfl
 try simp only [sxA, sxB, sxC, Act.put, sxD, sxE, sxF]
 refine tkA (i := 38) (v := ?_) rfl (fun c a w h => hpan c _ _ _ _ h) (Or.inl ⟨by rfl, ?yl⟩) (by assumption) ?_
 case yl => (intro w hSw; go_simp); with_reducible rfl
 try simp only [sxA, sxB, sxC, Act.put, sxD, sxE, sxF]
 refine tkA (i := 39) (v := ?_) rfl (fun c a w h => hpan c _ _ _ _ h) (Or.inl ⟨by rfl, ?yl⟩) (by assumption) ?_
 case yl => (intro w hSw; go_simp); with_reducible rfl
 try simp only [sxA, sxB, sxC, Act.put, sxD, sxE, sxF]
 refine tkA (i := 40) (v := ?_) rfl (fun c a w h => hpan c _ _ _ _ h) (Or.inl ⟨by rfl, ?yl⟩) (by assumption) ?_
 case yl => (intro w hSw; go_simp); with_reducible rfl
 try simp only [sxA, sxB, sxC, Act.put, sxD, sxE, sxF]
 refine tkA (i := 41) (v := ?_) rfl (fun c a w h => hpan c _ _ _ _ h) (Or.inl ⟨by rfl, ?yl⟩) (by assumption) ?_
 case yl => (intro w hSw; go_simp); with_reducible rfl
 try simp only [sxA, sxB, sxC, Act.put, sxD, sxE, sxF]
 refine wpAnyH_ready (rs := [42]) (by kernel_rfl) (by simp) ?_
 refine AllReadyH.cons (o := _) rfl (fun K hK => ?_) AllReadyH.nil
 go_simp
 refine hK.out _ _ (by repeat (with_reducible first | assumption | exact Ext.refl _ | refine Ext.drew ?_ | refine Ext.drewN ?_ _ | refine Ext.alloc ?_ _ | refine xS ?_ _ | refine xT ?_ (by assumption))) (fun hHeld => ?_)
 clear hK K
 try simp only [sxA, sxB, sxC, Act.put, sxD, sxE, sxF]
 have j0 := hid (lit2 (w := y4) (x := 0) (y := 1) (t := 3) (n := y4.heap.size) rfl)
 refine wpAnyH_ready (rs := [43]) (by kernel_rfl) (by simp) ?_
 refine AllReadyH.cons (o := _) rfl (fun K hK => ?_) AllReadyH.nil
 go_simp
 refine (of_any _ _).mono ?_; rintro e w' ⟨rfl, rfl⟩
 refine hK.out _ _ (by repeat (with_reducible first | assumption | exact Ext.refl _ | refine Ext.drew ?_ | refine Ext.drewN ?_ _ | refine Ext.alloc ?_ _ | refine xS ?_ _ | refine xT ?_ (by assumption))) (fun hHeld => ?_)
 clear hK K
 try simp only [sxA, sxB, sxC, Act.put, sxD, sxE, sxF]
 refine wpAnyH_ready (rs := [44]) (by kernel_rfl) (by simp) ?_
 refine AllReadyH.cons (o := _) rfl (fun K hK => ?_) AllReadyH.nil
 go_simp
 refine (intsY2 _ _ _ _ 0 1 _ (ll.out.ext (by repeat (with_reducible first | assumption | exact Ext.refl _ | refine Ext.drew ?_ | refine Ext.drewN ?_ _ | refine Ext.alloc ?_ _ | refine xS ?_ _ | refine xT ?_ (by assumption)))) (j0.out.ext (by repeat (with_reducible first | assumption | exact Ext.refl _ | refine Ext.drew ?_ | refine Ext.drewN ?_ _ | refine Ext.alloc ?_ _ | refine xS ?_ _ | refine xT ?_ (by assumption))))).mono ?_; rintro e z0 ⟨rfl, hE⟩
 have hEz0 : Ext y1 z0 := (by repeat (with_reducible first | assumption | exact Ext.refl _ | refine Ext.drew ?_ | refine Ext.drewN ?_ _ | refine Ext.alloc ?_ _ | refine xS ?_ _ | refine xT ?_ (by assumption)))
 clear hE
 refine hK.out _ _ (by repeat (with_reducible first | assumption | exact Ext.refl _ | refine Ext.drew ?_ | refine Ext.drewN ?_ _ | refine Ext.alloc ?_ _ | refine xS ?_ _ | refine xT ?_ (by assumption))) (fun hHeld => ?_)
 clear hK K
 try simp only [sxA, sxB, sxC, Act.put, sxD, sxE, sxF]
 clear j0 hEy4
 refine tkA (i := 45) (v := ?_) rfl (fun c a w h => hpan c _ _ _ _ h) (Or.inl ⟨by rfl, ?yl⟩) (by assumption) ?_
 case yl => (intro w hSw; go_simp); with_reducible rfl
 try simp only [sxA, sxB, sxC, Act.put, sxD, sxE, sxF]
 refine tkA (i := 46) (v := ?_) rfl (fun c a w h => hpan c _ _ _ _ h) (Or.inl ⟨by rfl, ?yl⟩) (by assumption) ?_
 case yl => (intro w hSw; go_simp); with_reducible rfl
 try simp only [sxA, sxB, sxC, Act.put, sxD, sxE, sxF]
 refine tkA (i := 47) (v := ?_) rfl (fun c a w h => hpan c _ _ _ _ h) (Or.inl ⟨by rfl, ?yl⟩) (by assumption) ?_
 case yl => (intro w hSw; go_simp); with_reducible rfl
 try simp only [sxA, sxB, sxC, Act.put, sxD, sxE, sxF]
 refine wpAnyH_ready (rs := [48]) (by kernel_rfl) (by simp) ?_
 refine AllReadyH.cons (o := _) rfl (fun K hK => ?_) AllReadyH.nil
 go_simp
 refine hK.out _ _ (by repeat (with_reducible first | assumption | exact Ext.refl _ | refine Ext.drew ?_ | refine Ext.drewN ?_ _ | refine Ext.alloc ?_ _ | refine xS ?_ _ | refine xT ?_ (by assumption))) (fun hHeld => ?_)
 clear hK K
 try simp only [sxA, sxB, sxC, Act.put, sxD, sxE, sxF]
 have j1 := hid (lit1 (w := z0) (x := 0) (t := 3) (n := z0.heap.size) rfl)
 refine wpAnyH_ready (rs := [49]) (by kernel_rfl) (by simp) ?_
 refine AllReadyH.cons (o := _) rfl (fun K hK => ?_) AllReadyH.nil
 go_simp
 refine (of_any _ _).mono ?_; rintro e w' ⟨rfl, rfl⟩
 refine hK.out _ _ (by repeat (with_reducible first | assumption | exact Ext.refl _ | refine Ext.drew ?_ | refine Ext.drewN ?_ _ | refine Ext.alloc ?_ _ | refine xS ?_ _ | refine xT ?_ (by assumption))) (fun hHeld => ?_)
 clear hK K
 try simp only [sxA, sxB, sxC, Act.put, sxD, sxE, sxF]
 refine wpAnyH_ready (rs := [50]) (by kernel_rfl) (by simp) ?_
 refine AllReadyH.cons (o := _) rfl (fun K hK => ?_) AllReadyH.nil
 go_simp
 refine (intsY1 _ _ _ _ 0 _ (lm.out.ext (by repeat (with_reducible first | assumption | exact Ext.refl _ | refine Ext.drew ?_ | refine Ext.drewN ?_ _ | refine Ext.alloc ?_ _ | refine xS ?_ _ | refine xT ?_ (by assumption)))) (j1.out.ext (by repeat (with_reducible first | assumption | exact Ext.refl _ | refine Ext.drew ?_ | refine Ext.drewN ?_ _ | refine Ext.alloc ?_ _ | refine xS ?_ _ | refine xT ?_ (by assumption))))).mono ?_; rintro e z1 ⟨rfl, hE⟩
 have hEz1 : Ext y1 z1 := (by repeat (with_reducible first | assumption | exact Ext.refl _ | refine Ext.drew ?_ | refine Ext.drewN ?_ _ | refine Ext.alloc ?_ _ | refine xS ?_ _ | refine xT ?_ (by assumption)))
 clear hE
 refine hK.out _ _ (by repeat (with_reducible first | assumption | exact Ext.refl _ | refine Ext.drew ?_ | refine Ext.drewN ?_ _ | refine Ext.alloc ?_ _ | refine xS ?_ _ | refine xT ?_ (by assumption))) (fun hHeld => ?_)
 clear hK K
 try simp only [sxA, sxB, sxC, Act.put, sxD, sxE, sxF]
 clear j1 hEz0
 refine tkA (i := 51) (v := ?_) rfl (fun c a w h => hpan c _ _ _ _ h) (Or.inl ⟨by rfl, ?yl⟩) (by assumption) ?_
 case yl => (intro w hSw; go_simp); with_reducible rfl
 try simp only [sxA, sxB, sxC, Act.put, sxD, sxE, sxF]
 refine tkA (i := 52) (v := ?_) rfl (fun c a w h => hpan c _ _ _ _ h) (Or.inl ⟨by rfl, ?yl⟩) (by assumption) ?_
 case yl => (intro w hSw; go_simp); with_reducible rfl
 try simp only [sxA, sxB, sxC, Act.put, sxD, sxE, sxF]
 refine tkA (i := 53) (v := ?_) rfl (fun c a w h => hpan c _ _ _ _ h) (Or.inl ⟨by rfl, ?yl⟩) (by assumption) ?_
 case yl => (intro w hSw; go_simp); with_reducible rfl
 try simp only [sxA, sxB, sxC, Act.put, sxD, sxE, sxF]
 refine wpAnyH_ready (rs := [54]) (by kernel_rfl) (by simp) ?_
 refine AllReadyH.cons (o := _) rfl (fun K hK => ?_) AllReadyH.nil
 go_simp
 refine hK.out _ _ (by repeat (with_reducible first | assumption | exact Ext.refl _ | refine Ext.drew ?_ | refine Ext.drewN ?_ _ | refine Ext.alloc ?_ _ | refine xS ?_ _ | refine xT ?_ (by assumption))) (fun hHeld => ?_)
 clear hK K
 try simp only [sxA, sxB, sxC, Act.put, sxD, sxE, sxF]
 have j2 := hid (lit1 (w := z1) (x := 0) (t := 3) (n := z1.heap.size) rfl)
 refine wpAnyH_ready (rs := [55]) (by kernel_rfl) (by simp) ?_
 refine AllReadyH.cons (o := _) rfl (fun K hK => ?_) AllReadyH.nil
 go_simp
 refine (of_any _ _).mono ?_; rintro e w' ⟨rfl, rfl⟩
 refine hK.out _ _ (by repeat (with_reducible first | assumption | exact Ext.refl _ | refine Ext.drew ?_ | refine Ext.drewN ?_ _ | refine Ext.alloc ?_ _ | refine xS ?_ _ | refine xT ?_ (by assumption))) (fun hHeld => ?_)
 clear hK K
 try simp only [sxA, sxB, sxC, Act.put, sxD, sxE, sxF]
 refine wpAnyH_ready (rs := [56]) (by kernel_rfl) (by simp) ?_
 refine AllReadyH.cons (o := _) rfl (fun K hK => ?_) AllReadyH.nil
 go_simp
 refine (intsY1 _ _ _ _ 0 _ (lp.out.ext (by repeat (with_reducible first | assumption | exact Ext.refl _ | refine Ext.drew ?_ | refine Ext.drewN ?_ _ | refine Ext.alloc ?_ _ | refine xS ?_ _ | refine xT ?_ (by assumption)))) (j2.out.ext (by repeat (with_reducible first | assumption | exact Ext.refl _ | refine Ext.drew ?_ | refine Ext.drewN ?_ _ | refine Ext.alloc ?_ _ | refine xS ?_ _ | refine xT ?_ (by assumption))))).mono ?_; rintro e z2 ⟨rfl, hE⟩
 have hEz2 : Ext y1 z2 := (by repeat (with_reducible first | assumption | exact Ext.refl _ | refine Ext.drew ?_ | refine Ext.drewN ?_ _ | refine Ext.alloc ?_ _ | refine xS ?_ _ | refine xT ?_ (by assumption)))
 clear hE
 refine hK.out _ _ (by repeat (with_reducible first | assumption | exact Ext.refl _ | refine Ext.drew ?_ | refine Ext.drewN ?_ _ | refine Ext.alloc ?_ _ | refine xS ?_ _ | refine xT ?_ (by assumption))) (fun hHeld => ?_)
 clear hK K
 try simp only [sxA, sxB, sxC, Act.put, sxD, sxE, sxF]
 clear j2 hEz1
 refine tkA (i := 57) (v := ?_) rfl (fun c a w h => hpan c _ _ _ _ h) (Or.inl ⟨by rfl, ?yl⟩) (by assumption) ?_
 case yl => (intro w hSw; go_simp); with_reducible rfl
 try simp only [sxA, sxB, sxC, Act.put, sxD, sxE, sxF]
 refine tkA (i := 58) (v := ?_) rfl (fun c a w h => hpan c _ _ _ _ h) (Or.inl ⟨by rfl, ?yl⟩) (by assumption) ?_
 case yl => (intro w hSw; go_simp); with_reducible rfl
 try simp only [sxA, sxB, sxC, Act.put, sxD, sxE, sxF]
 refine tkA (i := 59) (v := ?_) rfl (fun c a w h => hpan c _ _ _ _ h) (Or.inl ⟨by rfl, ?yl⟩) (by assumption) ?_
 case yl => (intro w hSw; go_simp); with_reducible rfl
 try simp only [sxA, sxB, sxC, Act.put, sxD, sxE, sxF]
 refine wpAnyH_ready (rs := [60]) (by kernel_rfl) (by simp) ?_
 refine AllReadyH.cons (o := _) rfl (fun K hK => ?_) AllReadyH.nil
 go_simp
 refine hK.out _ _ (by repeat (with_reducible first | assumption | exact Ext.refl _ | refine Ext.drew ?_ | refine Ext.drewN ?_ _ | refine Ext.alloc ?_ _ | refine xS ?_ _ | refine xT ?_ (by assumption))) (fun hHeld => ?_)
 clear hK K
 try simp only [sxA, sxB, sxC, Act.put, sxD, sxE, sxF]
 have j3 := hid (lit1 (w := z2) (x := 0) (t := 3) (n := z2.heap.size) rfl)
 refine wpAnyH_ready (rs := [61]) (by kernel_rfl) (by simp) ?_
 refine AllReadyH.cons (o := _) rfl (fun K hK => ?_) AllReadyH.nil
 go_simp
 refine (of_any _ _).mono ?_; rintro e w' ⟨rfl, rfl⟩
 refine hK.out _ _ (by repeat (with_reducible first | assumption | exact Ext.refl _ | refine Ext.drew ?_ | refine Ext.drewN ?_ _ | refine Ext.alloc ?_ _ | refine xS ?_ _ | refine xT ?_ (by assumption))) (fun hHeld => ?_)
 clear hK K
 try simp only [sxA, sxB, sxC, Act.put, sxD, sxE, sxF]
 refine wpAnyH_ready (rs := [62]) (by kernel_rfl) (by simp) ?_
 refine AllReadyH.cons (o := _) rfl (fun K hK => ?_) AllReadyH.nil
 go_simp
 refine (intsY1 _ _ _ _ 0 _ (lq.out.ext (by repeat (with_reducible first | assumption | exact Ext.refl _ | refine Ext.drew ?_ | refine Ext.drewN ?_ _ | refine Ext.alloc ?_ _ | refine xS ?_ _ | refine xT ?_ (by assumption)))) (j3.out.ext (by repeat (with_reducible first | assumption | exact Ext.refl _ | refine Ext.drew ?_ | refine Ext.drewN ?_ _ | refine Ext.alloc ?_ _ | refine xS ?_ _ | refine xT ?_ (by assumption))))).mono ?_; rintro e z3 ⟨rfl, hE⟩
 have hEz3 : Ext y1 z3 := (by repeat (with_reducible first | assumption | exact Ext.refl _ | refine Ext.drew ?_ | refine Ext.drewN ?_ _ | refine Ext.alloc ?_ _ | refine xS ?_ _ | refine xT ?_ (by assumption)))
 clear hE
 refine hK.out _ _ (by repeat (with_reducible first | assumption | exact Ext.refl _ | refine Ext.drew ?_ | refine Ext.drewN ?_ _ | refine Ext.alloc ?_ _ | refine xS ?_ _ | refine xT ?_ (by assumption))) (fun hHeld => ?_)
 clear hK K
 try simp only [sxA, sxB, sxC, Act.put, sxD, sxE, sxF]
 clear j3 hEz2
 refine tkA (i := 63) (v := ?_) rfl (fun c a w h => hpan c _ _ _ _ h) (Or.inl ⟨by rfl, ?yl⟩) (by assumption) ?_
 case yl => (intro w hSw; go_simp); with_reducible rfl
 try simp only [sxA, sxB, sxC, Act.put, sxD, sxE, sxF]
 refine tkA (i := 64) (v := ?_) rfl (fun c a w h => hpan c _ _ _ _ h) (Or.inl ⟨by rfl, ?yl⟩) (by assumption) ?_
 case yl => (intro w hSw; go_simp); with_reducible rfl
 try simp only [sxA, sxB, sxC, Act.put, sxD, sxE, sxF]
 refine tkA (i := 65) (v := ?_) rfl (fun c a w h => hpan c _ _ _ _ h) (Or.inl ⟨by rfl, ?yl⟩) (by assumption) ?_
 case yl => (intro w hSw; go_simp); with_reducible rfl
 try simp only [sxA, sxB, sxC, Act.put, sxD, sxE, sxF]
 refine wpAnyH_ready (rs := [66]) (by kernel_rfl) (by simp) ?_
 refine AllReadyH.cons (o := _) rfl (fun K hK => ?_) AllReadyH.nil
 go_simp
 refine hK.out _ _ (by repeat (with_reducible first | assumption | exact Ext.refl _ | refine Ext.drew ?_ | refine Ext.drewN ?_ _ | refine Ext.alloc ?_ _ | refine xS ?_ _ | refine xT ?_ (by assumption))) (fun hHeld => ?_)
 clear hK K
 try simp only [sxA, sxB, sxC, Act.put, sxD, sxE, sxF]
 have j4 := hid (lit1 (w := z3) (x := 0) (t := 3) (n := z3.heap.size) rfl)
 refine wpAnyH_ready (rs := [67]) (by kernel_rfl) (by simp) ?_
 refine AllReadyH.cons (o := _) rfl (fun K hK => ?_) AllReadyH.nil
 go_simp
 refine (of_any _ _).mono ?_; rintro e w' ⟨rfl, rfl⟩
 refine hK.out _ _ (by repeat (with_reducible first | assumption | exact Ext.refl _ | refine Ext.drew ?_ | refine Ext.drewN ?_ _ | refine Ext.alloc ?_ _ | refine xS ?_ _ | refine xT ?_ (by assumption))) (fun hHeld => ?_)
 clear hK K
 try simp only [sxA, sxB, sxC, Act.put, sxD, sxE, sxF]
 refine wpAnyH_ready (rs := [68]) (by kernel_rfl) (by simp) ?_
 refine AllReadyH.cons (o := _) rfl (fun K hK => ?_) AllReadyH.nil
 go_simp
 refine (intsY1 _ _ _ _ 0 _ (ls.out.ext (by repeat (with_reducible first | assumption | exact Ext.refl _ | refine Ext.drew ?_ | refine Ext.drewN ?_ _ | refine Ext.alloc ?_ _ | refine xS ?_ _ | refine xT ?_ (by assumption)))) (j4.out.ext (by repeat (with_reducible first | assumption | exact Ext.refl _ | refine Ext.drew ?_ | refine Ext.drewN ?_ _ | refine Ext.alloc ?_ _ | refine xS ?_ _ | refine xT ?_ (by assumption))))).mono ?_; rintro e z4 ⟨rfl, hE⟩
 have hEz4 : Ext y1 z4 := (by repeat (with_reducible first | assumption | exact Ext.refl _ | refine Ext.drew ?_ | refine Ext.drewN ?_ _ | refine Ext.alloc ?_ _ | refine xS ?_ _ | refine xT ?_ (by assumption)))
 clear hE
 refine hK.out _ _ (by repeat (with_reducible first | assumption | exact Ext.refl _ | refine Ext.drew ?_ | refine Ext.drewN ?_ _ | refine Ext.alloc ?_ _ | refine xS ?_ _ | refine xT ?_ (by assumption))) (fun hHeld => ?_)
 clear hK K
 try simp only [sxA, sxB, sxC, Act.put, sxD, sxE, sxF]
 clear j4 hEz3
 refine tkA (i := 69) (v := ?_) rfl (fun c a w h => hpan c _ _ _ _ h) (Or.inl ⟨by rfl, ?yl⟩) (by assumption) ?_
 case yl => (intro w hSw; go_simp); with_reducible rfl
 try simp only [sxA, sxB, sxC, Act.put, sxD, sxE, sxF]
 refine tkA (i := 70) (v := ?_) rfl (fun c a w h => hpan c _ _ _ _ h) (Or.inl ⟨by rfl, ?yl⟩) (by assumption) ?_
 case yl => (intro w hSw; go_simp); with_reducible rfl
 try simp only [sxA, sxB, sxC, Act.put, sxD, sxE, sxF]
 refine tkA (i := 71) (v := ?_) rfl (fun c a w h => hpan c _ _ _ _ h) (Or.inl ⟨by rfl, ?yl⟩) (by assumption) ?_
 case yl => (intro w hSw; go_simp); with_reducible rfl
 try simp only [sxA, sxB, sxC, Act.put, sxD, sxE, sxF]
 refine wpAnyH_ready (rs := [72]) (by kernel_rfl) (by simp) ?_
 refine AllReadyH.cons (o := _) rfl (fun K hK => ?_) AllReadyH.nil
 go_simp
 refine hK.out _ _ (by repeat (with_reducible first | assumption | exact Ext.refl _ | refine Ext.drew ?_ | refine Ext.drewN ?_ _ | refine Ext.alloc ?_ _ | refine xS ?_ _ | refine xT ?_ (by assumption))) (fun hHeld => ?_)
 clear hK K
 try simp only [sxA, sxB, sxC, Act.put, sxD, sxE, sxF]
 have j5 := hid (lit1 (w := z4) (x := 0) (t := 3) (n := z4.heap.size) rfl)
 refine wpAnyH_ready (rs := [73]) (by kernel_rfl) (by simp) ?_
 refine AllReadyH.cons (o := _) rfl (fun K hK => ?_) AllReadyH.nil
 go_simp
 refine (of_any _ _).mono ?_; rintro e w' ⟨rfl, rfl⟩
 refine hK.out _ _ (by repeat (with_reducible first | assumption | exact Ext.refl _ | refine Ext.drew ?_ | refine Ext.drewN ?_ _ | refine Ext.alloc ?_ _ | refine xS ?_ _ | refine xT ?_ (by assumption))) (fun hHeld => ?_)
 clear hK K
 try simp only [sxA, sxB, sxC, Act.put, sxD, sxE, sxF]
 refine wpAnyH_ready (rs := [74]) (by kernel_rfl) (by simp) ?_
 refine AllReadyH.cons (o := _) rfl (fun K hK => ?_) AllReadyH.nil
 go_simp
 refine (intsY1 _ _ _ _ 0 _ (lt.out.ext (by repeat (with_reducible first | assumption | exact Ext.refl _ | refine Ext.drew ?_ | refine Ext.drewN ?_ _ | refine Ext.alloc ?_ _ | refine xS ?_ _ | refine xT ?_ (by assumption)))) (j5.out.ext (by repeat (with_reducible first | assumption | exact Ext.refl _ | refine Ext.drew ?_ | refine Ext.drewN ?_ _ | refine Ext.alloc ?_ _ | refine xS ?_ _ | refine xT ?_ (by assumption))))).mono ?_; rintro e z5 ⟨rfl, hE⟩
 have hEz5 : Ext y1 z5 := (by repeat (with_reducible first | assumption | exact Ext.refl _ | refine Ext.drew ?_ | refine Ext.drewN ?_ _ | refine Ext.alloc ?_ _ | refine xS ?_ _ | refine xT ?_ (by assumption)))
 clear hE
 refine hK.out _ _ (by repeat (with_reducible first | assumption | exact Ext.refl _ | refine Ext.drew ?_ | refine Ext.drewN ?_ _ | refine Ext.alloc ?_ _ | refine xS ?_ _ | refine xT ?_ (by assumption))) (fun hHeld => ?_)
 clear hK K
 try simp only [sxA, sxB, sxC, Act.put, sxD, sxE, sxF]
 clear j5 hEz4
 refine tkA (i := 75) (v := ?_) rfl (fun c a w h => hpan c _ _ _ _ h) (Or.inl ⟨by rfl, ?yl⟩) (by assumption) ?_
 case yl => (intro w hSw; go_simp); with_reducible rfl
 try simp only [sxA, sxB, sxC, Act.put, sxD, sxE, sxF]
 refine tkA (i := 76) (v := ?_) rfl (fun c a w h => hpan c _ _ _ _ h) (Or.inl ⟨by rfl, ?yl⟩) (by assumption) ?_
 case yl => (intro w hSw; go_simp); with_reducible rfl
 try simp only [sxA, sxB, sxC, Act.put, sxD, sxE, sxF]
 refine wpAnyH_done (by kernel_rfl) ?_ _
 try simp only [sxA, sxB, sxC, Act.put, sxD, sxE, sxF]
 rw [hQ2.out]
 refine ⟨rfl, ?q0, ?q1, ?q2, ?q3, ?q4, ?q5, ?q6, ?q7, ?q8, ?q9, ?q10, ?q11, ?q12, ?q13, ?q14, ?q15, ?q16, ?q17, ?q18, ?q19, ?q20, ?q21, ?q22, ?q23, ?q24, ?q25, ?q26, ?q27, ?q28, ?q29, ?q30, ?q31, ?q32, ?q33, ?q34, ?q35, ?q36, ?q37, ?q38, ?q39, ?q40, ?q41, ?q42, ?q43, ?q44, ?q45, ?q46, ?q47, ?q48, ?q49, ?q50, ?q51, ?q52, ?q53, ?q54, ?q55, ?q56, ?q57, ?q58, ?q59, ?q60, ?q61, ?q62, ?q63, ?q64, ?q65, ?q66, ?q67, ?q68, ?q69, ?q70, ?q71, ?q72, ?q73, ?q74, ?q75, ?eqT, (by repeat (with_reducible first | assumption | exact Ext.refl _ | refine Ext.drew ?_ | refine Ext.drewN ?_ _ | refine Ext.alloc ?_ _ | refine xS ?_ _ | refine xT ?_ (by assumption)))⟩
 case eqT => (rw [hA_.out]; (try simp only [sxA, sxB, sxC, Act.put, sxD, sxE, sxF]); first | done | with_reducible rfl | rfl)

end Go.Proofs.Ytommhgcgaclflaa
