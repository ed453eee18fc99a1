/- Texts of one proof, laid together: Wn, Wna, Wnb, Wnc, LaK. -/
import Derived.Test.YtpnfhcnnodolbaaZB29
import Derived.Test.YtpnfhcnnodolbaaZB10
import Derived.Test.YtpnfhcnnodolbaaWk
namespace Go.Proofs.Ytpnfhcnnodolbaa
set_option linter.unusedVariables false
set_option linter.unusedSimpArgs false
set_option linter.unusedSectionVars false
set_option linter.unnecessarySimpa false
open Go Go.RowKit Game
set_option maxRecDepth 100000
theorem cCostK (a : Option Addr) (cap : Nat) (a2 : Option Addr) (c2 : Nat) (w : World) (hM : Mts w a mL) (hI : Ints w a2 [1, 1, 0, 0]) : Calls Try.prog 19 #[.slice a 4 cap, .slice a2 4 c2] w fun e w' => e = .returned (.tuple #[.agg #[.int .i64 (55), .int .i64 (1)], .int .i64 (0)]) ∧ Ext w w' := by
 have h := costC_any mL mL_fit (by decide) a cap [1, 1, 0, 0] (fitI_of (by decide)) (by decide) a2 c2 w hM hI
 rw [show costNE mL [1, 1, 0, 0] = 55 by decide +kernel, show costDE mL [1, 1, 0, 0] = 1 by decide +kernel, show costE mL [1, 1, 0, 0] = 0 by decide +kernel] at h
 exact h
theorem cEndsK (a : Option Addr) (cap : Nat) (a2 : Option Addr) (c2 : Nat) (w : World) (hM : Mts w a mL) (hI : Ints w a2 [0, 0, 0, 1]) : Calls Try.prog 21 #[.slice a 4 cap, .slice a2 4 c2, .bool true] w fun e w' => e = .returned (.tuple #[.agg #[.int .i64 (10), .int .i64 (1)], .agg #[.int .i64 (20), .int .i64 (1)], .int .i64 (0)]) ∧ Ext w w' := by
 have h := endsC_any mL mL_fit (by decide) a cap [0, 0, 0, 1] (fitI_of (by decide)) (by decide) a2 c2 true w hM hI
 rw [show endX mL true [0, 0, 0, 1] = [10, 1, 20, 1] by decide +kernel, show costE mL [0, 0, 0, 1] = 0 by decide +kernel] at h
 exact h
theorem cLstK (a : Option Addr) (cap : Nat) (w : World) (hM : Mts w a vL) : Calls Try.prog 29 #[.slice a 2 cap, (.agg #[.int .i64 (100), .int .i64 (10)]), .bool false] w fun e w' => e = .returned (.tuple #[.agg #[.int .i64 (0), .int .i64 (0)], .int .i64 (17)]) ∧ Ext w w' := by
 have h := least_any vL (fitM_of (by decide)) (by decide) a cap 100 10 i100 i10 false w hM
 rw [show lstN vL 100 10 false = 0 by decide +kernel, show lstD vL 100 10 false = 0 by decide +kernel, show cheE vL 100 10 false = 17 by decide +kernel] at h
 exact h
theorem cPrfK (a : Option Addr) (cap : Nat) (w : World) (hM : Mts w a mL) : Calls Try.prog 33 #[.slice a 4 cap, (.agg #[.int .i64 (100), .int .i64 (10)]), .bool true, (.agg #[.int .i64 (1), .int .i64 (90), .int .i64 (0), .int .i64 (0)])] w fun e w' => e = .returned (.tuple #[.agg #[.int .i64 (0), .int .i64 (0)], .int .i64 (14)]) ∧ Ext w w' := by
 have h := checkProof_any mL mL_fit (by decide) a cap 100 10 i100 i10 true 1 90 0 0 (i64_of (by decide)) (i64_of (by decide)) (i64_of (by decide)) (i64_of (by decide)) w hM
 rw [show prfNE mL 100 10 true 1 90 0 0 = 0 by decide +kernel, show prfDE mL 100 10 true 1 90 0 0 = 0 by decide +kernel, show prfE mL 100 10 true 1 90 0 0 = 14 by decide +kernel] at h
 exact h
theorem cPrfM (a : Option Addr) (cap : Nat) (w : World) (hM : Mts w a mL) : Calls Try.prog 33 #[.slice a 4 cap, (.agg #[.int .i64 (100), .int .i64 (10)]), .bool true, (.agg #[.int .i64 (0), .int .i64 (0), .int .i64 (0), .int .i64 (0)])] w fun e w' => e = .returned (.tuple #[.agg #[.int .i64 (0), .int .i64 (0)], .int .i64 (3)]) ∧ Ext w w' := by
 have h := checkProof_any mL mL_fit (by decide) a cap 100 10 i100 i10 true 0 0 0 0 (i64_of (by decide)) (i64_of (by decide)) (i64_of (by decide)) (i64_of (by decide)) w hM
 rw [show prfNE mL 100 10 true 0 0 0 0 = 0 by decide +kernel, show prfDE mL 100 10 true 0 0 0 0 = 0 by decide +kernel, show prfE mL 100 10 true 0 0 0 0 = 3 by decide +kernel] at h
 exact h
theorem cNvrK (a : Option Addr) (cap : Nat) (w : World) (hM : Mts w a vL) : Calls Try.prog 37 #[.slice a 2 cap, (.agg #[.int .i64 (100), .int .i64 (10)]), .bool true, (.agg #[.int .i64 (1), .int .i64 (220), .int .i64 (1), .int .i64 (0)])] w fun e w' => e = .returned (.int .i64 3) ∧ Ext w w' := by
 have h := checkNever_any vL vL_fit (by decide) a cap 100 10 i100 i10 true 1 220 1 0 (i64_of (by decide)) (i64_of (by decide)) (i64_of (by decide)) (i64_of (by decide)) w hM
 rw [show nvrE vL 100 10 true 1 220 1 0 = 3 by decide +kernel] at h
 exact h
theorem cShaK (a : Option Addr) (cap : Nat) (w : World) (hM : Mts w a mL) : Calls Try.prog 40 #[.slice a 4 cap, (.agg #[.int .i64 (100), .int .i64 (10)]), .bool true, .int .i64 0] w fun e w' => e = .returned (.tuple #[.agg #[.int .i64 (0), .int .i64 (1)], .agg #[.int .i64 (99), .int .i64 (100)], .int .i64 (0)]) ∧ Ext w w' := by
 have h := share_any mL mL_fit (by decide) a cap 100 10 i100 i10 true 0 (i64_of (by decide)) w hM
 rw [show shX mL 100 10 true 0 = [0, 1, 99, 100] by decide +kernel, show shE mL 100 10 true 0 = 0 by decide +kernel] at h
 exact h
theorem cChkK (a : Option Addr) (cap : Nat) (w : World) (hM : Mts w a mL) : Calls Try.prog 23 #[.slice a 4 cap] w fun e w' => e = .returned (.int .i64 0) ∧ Ext w w' := by
 have h := checkMetals_any mL mL_fit (by decide) a cap w hM
 rw [show chkM mL = 0 by decide +kernel] at h
 exact h
theorem cTchK (w : World) : Calls Try.prog 25 #[(.agg #[.int .i64 (100), .int .i64 (10)])] w fun e w' => e = .returned (.int .i64 0) ∧ Ext w w' := by
 have h := checkTouch_any 100 10 i100 i10 w
 rw [show chkU 100 10 = 0 by decide +kernel] at h
 exact h

end Go.Proofs.Ytpnfhcnnodolbaa
namespace Go.Proofs.Ytpnfhcnnodolbaa
set_option linter.unusedVariables false
set_option linter.unusedSimpArgs false
set_option linter.unusedSectionVars false
set_option linter.unnecessarySimpa false
open Go Go.RowKit Game
set_option maxRecDepth 100000
set_option maxHeartbeats 40000000 in
theorem stK2 {yA yC yD yE yF yG yH yI yJ yK yL yM yN yO yP yQ yR yS yT yU yV yW yX yY yZ zA zB zC zD zE zF zG zH zI zJ zK zL zM zN zO zP zQ zR zS zT zU zV zW zX zY zZ uA uB uC uD uE uF uG uH uI uJ uK uL uM uN uO uP uQ uR uS uT uU uV uW uX uY uZ iA iB iC iD iE iF iG iH iI iJ iK iL iM iN iO iP iQ iR iS iT iU iV iW iX iY iZ oA oB oC oD oE oF oG oH oI oJ oK oL oM oN oO oP oQ oR oS oT oU oV oW oX oY oZ qA qB : Value} {gm : Nat} {w : World} (hm : Mts w (some ⟨gm, 0, none⟩) mL) :
 Code.wp Try.prog (rgn Try.f16 2) (fun e a' w' => e = .normal ∧ ∃ (B4 : Nat) (yW' yX' yY' yZ' zA' zB' zC' : Value), a' = { tmps := #[yA,.slice (some ⟨gm, 0, none⟩) 4 4,yC,yD,.pointer (some ⟨B4, 0, none⟩),.int .i64 0,yG,yH,yI,yJ,yK,yL,yM,yN,yO,yP,yQ,yR,yS,yT,yU,yV,yW',yX',yY',yZ',zA',zB',zC',zD,zE,zF,zG,zH,zI,zJ,zK,zL,zM,zN,zO,zP,zQ,zR,zS,zT,zU,zV,zW,zX,zY,zZ,uA,uB,uC,uD,uE,uF,uG,uH,uI,uJ,uK,uL,uM,uN,uO,uP,uQ,uR,uS,uT,uU,uV,uW,uX,uY,uZ,iA,iB,iC,iD,iE,iF,iG,iH,iI,iJ,iK,iL,iM,iN,iO,iP,iQ,iR,iS,iT,iU,iV,iW,iX,iY,iZ,oA,oB,oC,oD,oE,oF,oG,oH,oI,oJ,oK,oL,oM,oN,oO,oP,oQ,oR,oS,oT,oU,oV,oW,oX,oY,oZ,qA,qB], defers := [] } ∧ Ext w w' ∧ w'.cell? ⟨B4, 0, none⟩ = some (.int .i64 55) ∧ w'.cell? ⟨B4, 1, none⟩ = some (.int .i64 1)) { tmps := #[yA,.slice (some ⟨gm, 0, none⟩) 4 4,yC,yD,yE,yF,yG,yH,yI,yJ,yK,yL,yM,yN,yO,yP,yQ,yR,yS,yT,yU,yV,yW,yX,yY,yZ,zA,zB,zC,zD,zE,zF,zG,zH,zI,zJ,zK,zL,zM,zN,zO,zP,zQ,zR,zS,zT,zU,zV,zW,zX,zY,zZ,uA,uB,uC,uD,uE,uF,uG,uH,uI,uJ,uK,uL,uM,uN,uO,uP,uQ,uR,uS,uT,uU,uV,uW,uX,uY,uZ,iA,iB,iC,iD,iE,iF,iG,iH,iI,iJ,iK,iL,iM,iN,iO,iP,iQ,iR,iS,iT,iU,iV,iW,iX,iY,iZ,oA,oB,oC,oD,oE,oF,oG,oH,oI,oJ,oK,oL,oM,oN,oO,oP,oQ,oR,oS,oT,oU,oV,oW,oX,oY,oZ,qA,qB], defers := [] } w := by
 conv => arg 2; whnf
 refine st_intro (fun Q2 hQ2 => ?_)
 replace hQ2 := hid hQ2
 replace hm := hid hm
 go_wp2_with fail
 refine (longs_any _ _).mono ?_; rintro e wl ⟨rfl, rfl⟩
 go_wp2_with fail
 refine (cCostK _ _ _ _ _ (hm.out.ext exE) (litN [1, 1, 0, 0] (by simp) rfl)).mono ?_; rintro e u ⟨rfl, hE⟩
 have x : Ext w u := exE
 clear hE
 go_wp2_with fail
 rw [hQ2.out]
 refine ⟨rfl, _, _, _, _, _, _, _, _, rfl, exE, by simp [go_sem], by simp [go_sem]⟩
set_option maxHeartbeats 40000000 in
theorem stK3 {yA yC yD yE yF yG yH yI yJ yK yL yM yN yO yP yQ yR yS yT yU yV yW yX yY yZ zA zB zC zD zE zF zG zH zI zJ zK zL zM zN zO zP zQ zR zS zT zU zV zW zX zY zZ uA uB uC uD uE uF uG uH uI uJ uK uL uM uN uO uP uQ uR uS uT uU uV uW uX uY uZ iA iB iC iD iE iF iG iH iI iJ iK iL iM iN iO iP iQ iR iS iT iU iV iW iX iY iZ oA oB oC oD oE oF oG oH oI oJ oK oL oM oN oO oP oQ oR oS oT oU oV oW oX oY oZ qA qB : Value} {gm : Nat} {w : World} (hm : Mts w (some ⟨gm, 0, none⟩) mL) :
 Code.wp Try.prog (rgn Try.f16 3) (fun e a' w' => e = .normal ∧ ∃ (B6 : Nat) (B7 : Nat) (zD' zE' zF' zG' zH' zI' zJ' zK' : Value), a' = { tmps := #[yA,.slice (some ⟨gm, 0, none⟩) 4 4,yC,yD,yE,yF,.pointer (some ⟨B6, 0, none⟩),.pointer (some ⟨B7, 0, none⟩),.int .i64 0,yJ,yK,yL,yM,yN,yO,yP,yQ,yR,yS,yT,yU,yV,yW,yX,yY,yZ,zA,zB,zC,zD',zE',zF',zG',zH',zI',zJ',zK',zL,zM,zN,zO,zP,zQ,zR,zS,zT,zU,zV,zW,zX,zY,zZ,uA,uB,uC,uD,uE,uF,uG,uH,uI,uJ,uK,uL,uM,uN,uO,uP,uQ,uR,uS,uT,uU,uV,uW,uX,uY,uZ,iA,iB,iC,iD,iE,iF,iG,iH,iI,iJ,iK,iL,iM,iN,iO,iP,iQ,iR,iS,iT,iU,iV,iW,iX,iY,iZ,oA,oB,oC,oD,oE,oF,oG,oH,oI,oJ,oK,oL,oM,oN,oO,oP,oQ,oR,oS,oT,oU,oV,oW,oX,oY,oZ,qA,qB], defers := [] } ∧ Ext w w' ∧ w'.cell? ⟨B6, 0, none⟩ = some (.int .i64 10) ∧ w'.cell? ⟨B6, 1, none⟩ = some (.int .i64 1) ∧ w'.cell? ⟨B7, 0, none⟩ = some (.int .i64 20) ∧ w'.cell? ⟨B7, 1, none⟩ = some (.int .i64 1)) { tmps := #[yA,.slice (some ⟨gm, 0, none⟩) 4 4,yC,yD,yE,yF,yG,yH,yI,yJ,yK,yL,yM,yN,yO,yP,yQ,yR,yS,yT,yU,yV,yW,yX,yY,yZ,zA,zB,zC,zD,zE,zF,zG,zH,zI,zJ,zK,zL,zM,zN,zO,zP,zQ,zR,zS,zT,zU,zV,zW,zX,zY,zZ,uA,uB,uC,uD,uE,uF,uG,uH,uI,uJ,uK,uL,uM,uN,uO,uP,uQ,uR,uS,uT,uU,uV,uW,uX,uY,uZ,iA,iB,iC,iD,iE,iF,iG,iH,iI,iJ,iK,iL,iM,iN,iO,iP,iQ,iR,iS,iT,iU,iV,iW,iX,iY,iZ,oA,oB,oC,oD,oE,oF,oG,oH,oI,oJ,oK,oL,oM,oN,oO,oP,oQ,oR,oS,oT,oU,oV,oW,oX,oY,oZ,qA,qB], defers := [] } w := by
 conv => arg 2; whnf
 refine st_intro (fun Q2 hQ2 => ?_)
 replace hQ2 := hid hQ2
 replace hm := hid hm
 go_wp2_with fail
 refine (longs_any _ _).mono ?_; rintro e wl ⟨rfl, rfl⟩
 go_wp2_with fail
 refine (cEndsK _ _ _ _ _ (hm.out.ext exE) (litN [0, 0, 0, 1] (by simp) rfl)).mono ?_; rintro e u ⟨rfl, hE⟩
 have x : Ext w u := exE
 clear hE
 go_wp2_with fail
 rw [hQ2.out]
 refine ⟨rfl, _, _, _, _, _, _, _, _, _, _, rfl, exE, by simp [go_sem], by simp [go_sem], by simp [go_sem], by simp [go_sem]⟩
set_option maxHeartbeats 40000000 in
theorem stK4 {yA yB yE yF yG yH yI yJ yK yL yM yN yO yP yQ yR yS yT yU yV yW yX yY yZ zA zB zC zD zE zF zG zH zI zJ zK zL zM zN zO zP zQ zR zS zT zU zV zW zX zY zZ uA uB uC uD uE uF uG uH uI uJ uK uL uM uN uO uP uQ uR uS uT uU uV uW uX uY uZ iA iB iC iD iE iF iG iH iI iJ iK iL iM iN iO iP iQ iR iS iT iU iV iW iX iY iZ oA oB oC oD oE oF oG oH oI oJ oK oL oM oN oO oP oQ oR oS oT oU oV oW oX oY oZ qA qB : Value} {gv T : Nat} {w : World} (hv : Mts w (some ⟨gv, 0, none⟩) vL) (t0 : w.cell? ⟨T, 0, none⟩ = some (.int .i64 100)) (t1 : w.cell? ⟨T, 1, none⟩ = some (.int .i64 10)) :
 Code.wp Try.prog (rgn Try.f16 4) (fun e a' w' => e = .normal ∧ ∃ (B9 : Nat) (zL' zM' zN' zO' zP' zQ' : Value), a' = { tmps := #[yA,yB,.slice (some ⟨gv, 0, none⟩) 2 2,.pointer (some ⟨T, 0, none⟩),yE,yF,yG,yH,yI,.pointer (some ⟨B9, 0, none⟩),.int .i64 17,yL,yM,yN,yO,yP,yQ,yR,yS,yT,yU,yV,yW,yX,yY,yZ,zA,zB,zC,zD,zE,zF,zG,zH,zI,zJ,zK,zL',zM',zN',zO',zP',zQ',zR,zS,zT,zU,zV,zW,zX,zY,zZ,uA,uB,uC,uD,uE,uF,uG,uH,uI,uJ,uK,uL,uM,uN,uO,uP,uQ,uR,uS,uT,uU,uV,uW,uX,uY,uZ,iA,iB,iC,iD,iE,iF,iG,iH,iI,iJ,iK,iL,iM,iN,iO,iP,iQ,iR,iS,iT,iU,iV,iW,iX,iY,iZ,oA,oB,oC,oD,oE,oF,oG,oH,oI,oJ,oK,oL,oM,oN,oO,oP,oQ,oR,oS,oT,oU,oV,oW,oX,oY,oZ,qA,qB], defers := [] } ∧ Ext w w' ∧ w'.cell? ⟨B9, 0, none⟩ = some (.int .i64 0) ∧ w'.cell? ⟨B9, 1, none⟩ = some (.int .i64 0)) { tmps := #[yA,yB,.slice (some ⟨gv, 0, none⟩) 2 2,.pointer (some ⟨T, 0, none⟩),yE,yF,yG,yH,yI,yJ,yK,yL,yM,yN,yO,yP,yQ,yR,yS,yT,yU,yV,yW,yX,yY,yZ,zA,zB,zC,zD,zE,zF,zG,zH,zI,zJ,zK,zL,zM,zN,zO,zP,zQ,zR,zS,zT,zU,zV,zW,zX,zY,zZ,uA,uB,uC,uD,uE,uF,uG,uH,uI,uJ,uK,uL,uM,uN,uO,uP,uQ,uR,uS,uT,uU,uV,uW,uX,uY,uZ,iA,iB,iC,iD,iE,iF,iG,iH,iI,iJ,iK,iL,iM,iN,iO,iP,iQ,iR,iS,iT,iU,iV,iW,iX,iY,iZ,oA,oB,oC,oD,oE,oF,oG,oH,oI,oJ,oK,oL,oM,oN,oO,oP,oQ,oR,oS,oT,oU,oV,oW,oX,oY,oZ,qA,qB], defers := [] } w := by
 conv => arg 2; whnf
 refine st_intro (fun Q2 hQ2 => ?_)
 replace hQ2 := hid hQ2
 replace hv := hid hv
 have lT := cell_lt t0
 dsimp only at lT
 go_wp2_with fail
 refine (cLstK _ _ _ (hv.out.ext exE)).mono ?_; rintro e u ⟨rfl, hE⟩
 have x : Ext w u := exE
 clear hE
 go_wp2_with fail
 rw [hQ2.out]
 refine ⟨rfl, _, _, _, _, _, _, _, rfl, exE, by simp [go_sem], by simp [go_sem]⟩
set_option maxHeartbeats 40000000 in
theorem stK8 {yA yC yE yF yG yH yI yJ yK yL yM yN yO yP yQ yR yS yT yU yV yW yX yY yZ zA zB zC zD zE zF zG zH zI zJ zK zL zM zN zO zP zQ zR zS zT zU zV zW zX zY zZ uA uB uC uD uE uF uG uH uI uJ uK uL uM uN uO uP uQ uR uS uT uU uV uW uX uY uZ iA iB iC iD iE iF iG iH iI iJ iK iL iM iN iO iP iQ iR iS iT iU iV iW iX iY iZ oA oB oC oD oE oF oG oH oI oJ oK oL oM oN oO oP oQ oR oS oT oU oV oW oX oY oZ qA qB : Value} {gm T : Nat} {w : World} (hm : Mts w (some ⟨gm, 0, none⟩) mL) (t0 : w.cell? ⟨T, 0, none⟩ = some (.int .i64 100)) (t1 : w.cell? ⟨T, 1, none⟩ = some (.int .i64 10)) :
 Code.wp Try.prog (rgn Try.f16 8) (fun e a' w' => e = .normal ∧ ∃ (B16 : Nat) (B17 : Nat) (uJ' uK' uL' uM' uN' uO' uP' : Value), a' = { tmps := #[yA,.slice (some ⟨gm, 0, none⟩) 4 4,yC,.pointer (some ⟨T, 0, none⟩),yE,yF,yG,yH,yI,yJ,yK,yL,yM,yN,yO,yP,.pointer (some ⟨B16, 0, none⟩),.pointer (some ⟨B17, 0, none⟩),.int .i64 0,yT,yU,yV,yW,yX,yY,yZ,zA,zB,zC,zD,zE,zF,zG,zH,zI,zJ,zK,zL,zM,zN,zO,zP,zQ,zR,zS,zT,zU,zV,zW,zX,zY,zZ,uA,uB,uC,uD,uE,uF,uG,uH,uI,uJ',uK',uL',uM',uN',uO',uP',uQ,uR,uS,uT,uU,uV,uW,uX,uY,uZ,iA,iB,iC,iD,iE,iF,iG,iH,iI,iJ,iK,iL,iM,iN,iO,iP,iQ,iR,iS,iT,iU,iV,iW,iX,iY,iZ,oA,oB,oC,oD,oE,oF,oG,oH,oI,oJ,oK,oL,oM,oN,oO,oP,oQ,oR,oS,oT,oU,oV,oW,oX,oY,oZ,qA,qB], defers := [] } ∧ Ext w w' ∧ w'.cell? ⟨B16, 0, none⟩ = some (.int .i64 0) ∧ w'.cell? ⟨B16, 1, none⟩ = some (.int .i64 1) ∧ w'.cell? ⟨B17, 0, none⟩ = some (.int .i64 99) ∧ w'.cell? ⟨B17, 1, none⟩ = some (.int .i64 100)) { tmps := #[yA,.slice (some ⟨gm, 0, none⟩) 4 4,yC,.pointer (some ⟨T, 0, none⟩),yE,yF,yG,yH,yI,yJ,yK,yL,yM,yN,yO,yP,yQ,yR,yS,yT,yU,yV,yW,yX,yY,yZ,zA,zB,zC,zD,zE,zF,zG,zH,zI,zJ,zK,zL,zM,zN,zO,zP,zQ,zR,zS,zT,zU,zV,zW,zX,zY,zZ,uA,uB,uC,uD,uE,uF,uG,uH,uI,uJ,uK,uL,uM,uN,uO,uP,uQ,uR,uS,uT,uU,uV,uW,uX,uY,uZ,iA,iB,iC,iD,iE,iF,iG,iH,iI,iJ,iK,iL,iM,iN,iO,iP,iQ,iR,iS,iT,iU,iV,iW,iX,iY,iZ,oA,oB,oC,oD,oE,oF,oG,oH,oI,oJ,oK,oL,oM,oN,oO,oP,oQ,oR,oS,oT,oU,oV,oW,oX,oY,oZ,qA,qB], defers := [] } w := by
 conv => arg 2; whnf
 refine st_intro (fun Q2 hQ2 => ?_)
 replace hQ2 := hid hQ2
 replace hm := hid hm
 have lT := cell_lt t0
 dsimp only at lT
 go_wp2_with fail
 refine (cShaK _ _ _ (hm.out.ext exE)).mono ?_; rintro e u ⟨rfl, hE⟩
 have x : Ext w u := exE
 clear hE
 go_wp2_with fail
 rw [hQ2.out]
 refine ⟨rfl, _, _, _, _, _, _, _, _, _, rfl, exE, by simp [go_sem], by simp [go_sem], by simp [go_sem], by simp [go_sem]⟩

end Go.Proofs.Ytpnfhcnnodolbaa
namespace Go.Proofs.Ytpnfhcnnodolbaa
set_option linter.unusedVariables false
set_option linter.unusedSimpArgs false
set_option linter.unusedSectionVars false
set_option linter.unnecessarySimpa false
open Go Go.RowKit Game
set_option maxRecDepth 100000
set_option maxHeartbeats 40000000 in
theorem stK5 {A_ : Act} {yA yC yE yF yG yH yI yJ yK yL yM yN yO yP yQ yR yS yT yU yV yW yX yY yZ zA zB zC zD zE zF zG zH zI zJ zK zL zM zN zO zP zQ zR zS zT zU zV zW zX zY zZ uA uB uC uD uE uF uG uH uI uJ uK uL uM uN uO uP uQ uR uS uT uU uV uW uX uY uZ iA iB iC iD iE iF iG iH iI iJ iK iL iM iN iO iP iQ iR iS iT iU iV iW iX iY iZ oA oB oC oD oE oF oG oH oI oJ oK oL oM oN oO oP oQ oR oS oT oU oV oW oX oY oZ qA qB : Value} {gm T : Nat} {w : World} (hA0_ : A_ = { tmps := #[yA, .slice (some ⟨gm, 0, none⟩) 4 4, yC, .pointer (some ⟨T, 0, none⟩), yE, yF, yG, yH, yI, yJ, yK, yL, yM, yN, yO, yP, yQ, yR, yS, yT, yU, yV, yW, yX, yY, yZ, zA, zB, zC, zD, zE, zF, zG, zH, zI, zJ, zK, zL, zM, zN, zO, zP, zQ, zR, zS, zT, zU, zV, zW, zX, zY, zZ, uA, uB, uC, uD, uE, uF, uG, uH, uI, uJ, uK, uL, uM, uN, uO, uP, uQ, uR, uS, uT, uU, uV, uW, uX, uY, uZ, iA, iB, iC, iD, iE, iF, iG, iH, iI, iJ, iK, iL, iM, iN, iO, iP, iQ, iR, iS, iT, iU, iV, iW, iX, iY, iZ, oA, oB, oC, oD, oE, oF, oG, oH, oI, oJ, oK, oL, oM, oN, oO, oP, oQ, oR, oS, oT, oU, oV, oW, oX, oY, oZ, qA, qB], defers := [] }) (hm : Mts w (some ⟨gm, 0, none⟩) mL) (t0 : w.cell? ⟨T, 0, none⟩ = some (.int .i64 100)) (t1 : w.cell? ⟨T, 1, none⟩ = some (.int .i64 10)) :
 Code.wp Try.prog (rgn Try.f16 5) (fun e a' w' => e = .normal ∧ ∃ (B11 : Nat), a' = ({ tmps := #[yA,.slice (some ⟨gm, 0, none⟩) 4 4,yC,.pointer (some ⟨T, 0, none⟩),yE,yF,yG,yH,yI,yJ,yK,.pointer (some ⟨B11, 0, none⟩),.int .i64 14,yN,yO,yP,yQ,yR,yS,yT,yU,yV,yW,yX,yY,yZ,zA,zB,zC,zD,zE,zF,zG,zH,zI,zJ,zK,zL,zM,zN,zO,zP,zQ,.tuple #[.agg #[.int .i64 0, .int .i64 0], .int .i64 14],.slice (some ⟨gm, 0, none⟩) 4 4,.agg #[.int .i64 100, .int .i64 10],.agg #[.int .i64 1, .int .i64 90, .int .i64 0, .int .i64 0],.tuple #[.agg #[.int .i64 0, .int .i64 0], .int .i64 14],.agg #[.int .i64 0, .int .i64 0],.int .i64 14,zY,zZ,uA,uB,uC,uD,uE,uF,uG,uH,uI,uJ,uK,uL,uM,uN,uO,uP,uQ,uR,uS,uT,uU,uV,uW,uX,uY,uZ,iA,iB,iC,iD,iE,iF,iG,iH,iI,iJ,iK,iL,iM,iN,iO,iP,iQ,iR,iS,iT,iU,iV,iW,iX,iY,iZ,oA,oB,oC,oD,oE,oF,oG,oH,oI,oJ,oK,oL,oM,oN,oO,oP,oQ,oR,oS,oT,oU,oV,oW,oX,oY,oZ,qA,qB], defers := [] } : Act) ∧ Ext w w' ∧ w'.cell? ⟨B11, 0, none⟩ = some (.int .i64 0) ∧ w'.cell? ⟨B11, 1, none⟩ = some (.int .i64 0) ∧ w'.frozen? ⟨B11, 0, none⟩ = false ∧ w'.frozen? ⟨B11, 1, none⟩ = false ∧ w.heap.size ≤ B11) A_ w := by
 conv => arg 2; whnf
 refine st_intro (fun Q2 hQ2 => ?_)
 have hA_ := hid hA0_
 clear hA0_
 have hpan : ∀ c a a' w w', Q2 (.panic c) a w → Q2 (.panic c) a' w' := by rw [hQ2]; rintro c a a' w w' ⟨h, _⟩; cases h
 replace hQ2 := hid hQ2
 replace hm := hid hm
 have hRD_ := hid (fun w' (x_ : Ext w w') => And.intro (Ext.cell x_ t0) (Ext.cell x_ t1))
 refine wp_region_held_drew (S := fun w' => Ext w w') (by kernel_rfl) exE fun hHeld => ?_
 try simp only [List.append_eq, List.cons_append, List.nil_append]
 refine name_any (fun W0 hW => ?_)
 have s0 : Ext w W0 := by rw [hW]; exact hHeld
 clear hW hHeld
 refine wpF_intro 10 (by kernel_rfl) (fun F hF => ?_)
 replace hF := hid hF
 have N1_0 : ∀ (B11 : Nat) (f_ : Nat) (l_ : Array Bool) (W0 : World) (a_ : Act), f_ = 2 → l_ = #[true, true, true, true, true, true, true, true, false, false] → a_ = ({ tmps := #[yA,.slice (some ⟨gm, 0, none⟩) 4 4,yC,.pointer (some ⟨T, 0, none⟩),yE,yF,yG,yH,yI,yJ,yK,.pointer (some ⟨B11, 0, none⟩),yM,yN,yO,yP,yQ,yR,yS,yT,yU,yV,yW,yX,yY,yZ,zA,zB,zC,zD,zE,zF,zG,zH,zI,zJ,zK,zL,zM,zN,zO,zP,zQ,.tuple #[.agg #[.int .i64 0, .int .i64 0], .int .i64 14],.slice (some ⟨gm, 0, none⟩) 4 4,.agg #[.int .i64 100, .int .i64 10],.agg #[.int .i64 1, .int .i64 90, .int .i64 0, .int .i64 0],.tuple #[.agg #[.int .i64 0, .int .i64 0], .int .i64 14],.agg #[.int .i64 0, .int .i64 0],.int .i64 14,zY,zZ,uA,uB,uC,uD,uE,uF,uG,uH,uI,uJ,uK,uL,uM,uN,uO,uP,uQ,uR,uS,uT,uU,uV,uW,uX,uY,uZ,iA,iB,iC,iD,iE,iF,iG,iH,iI,iJ,iK,iL,iM,iN,iO,iP,iQ,iR,iS,iT,iU,iV,iW,iX,iY,iZ,oA,oB,oC,oD,oE,oF,oG,oH,oI,oJ,oK,oL,oM,oN,oO,oP,oQ,oR,oS,oT,oU,oV,oW,oX,oY,oZ,qA,qB], defers := [] } : Act) → Ext w W0 → Hid (W0.cell? ⟨B11, 0, none⟩ = some (.int .i64 0)) → Hid (W0.cell? ⟨B11, 1, none⟩ = some (.int .i64 0)) → Hid (W0.frozen? ⟨B11, 0, none⟩ = false) → Hid (W0.frozen? ⟨B11, 1, none⟩ = false) → Hid (w.heap.size ≤ B11) → F f_ l_ a_ W0 := by
  intro B11 f_ l_ W0 a_ hf_ hl_ ha_ s0 b7_0 b7_1 d7_0 d7_1 z7
  subst hf_ hl_ ha_
  refine (hF.out _ _ _ _).2 ?_
  refine wpAnyH_ready (rs := [8]) (by kernel_rfl) (by simp) ?_
  refine AllReadyH.cons (o := _) rfl (fun K hK => ?_) AllReadyH.nil
  have f0 := b7_0.out
  have g0 := d7_0.out
  have f1 := b7_1.out
  have g1 := d7_1.out
  have l0_ := s0.size
  have z0_ := z7.out
  go_simp
  refine hK.out _ _ exE (fun _ => ?_)
  clear hK K
  try simp only [sxA, sxB, sxC, Act.put, sxD, sxE, sxF]
  refine name_any (fun W1 hW => ?_)
  have s1 : Ext w W1 := by rw [hW]; exact exE
  have nb0 := hid (show W1.cell? ⟨B11, 0, none⟩ = some (.int .i64 0) by rw [hW]; simp [go_sem, f0, f1])
  have nb1 := hid (show W1.cell? ⟨B11, 1, none⟩ = some (.int .i64 0) by rw [hW]; simp [go_sem, f0, f1])
  have nd0 := hid (show W1.frozen? ⟨B11, 0, none⟩ = false by rw [hW]; simp [go_sem, World.frozen?_setCell, g0, g1])
  have nd1 := hid (show W1.frozen? ⟨B11, 1, none⟩ = false by rw [hW]; simp [go_sem, World.frozen?_setCell, g0, g1])
  clear hW
  refine tkB (i := 9) (v := ?_) rfl hpan ?yl ?_
  case yl => (intro w hSw; have k_ := hRD_.out w hSw; go_simp); with_reducible rfl
  try simp only [sxA, sxB, sxC, Act.put, sxD, sxE, sxF]
  refine wpAnyH_done (by kernel_rfl) ?_ _
  try simp only [sxA, sxB, sxC, Act.put, sxD, sxE, sxF]
  rw [hQ2.out]
  refine ⟨rfl, B11, ?eq1_1, s1, nb0.out, nb1.out, nd0.out, nd1.out, z7.out⟩
  case eq1_1 => (first | with_reducible rfl | rfl)
 have N1_1 : ∀ (f_ : Nat) (l_ : Array Bool) (W0 : World) (a_ : Act), f_ = 3 → l_ = #[true, true, true, true, true, true, true, false, false, false] → a_ = ({ tmps := #[yA,.slice (some ⟨gm, 0, none⟩) 4 4,yC,.pointer (some ⟨T, 0, none⟩),yE,yF,yG,yH,yI,yJ,yK,yL,yM,yN,yO,yP,yQ,yR,yS,yT,yU,yV,yW,yX,yY,yZ,zA,zB,zC,zD,zE,zF,zG,zH,zI,zJ,zK,zL,zM,zN,zO,zP,zQ,.tuple #[.agg #[.int .i64 0, .int .i64 0], .int .i64 14],.slice (some ⟨gm, 0, none⟩) 4 4,.agg #[.int .i64 100, .int .i64 10],.agg #[.int .i64 1, .int .i64 90, .int .i64 0, .int .i64 0],.tuple #[.agg #[.int .i64 0, .int .i64 0], .int .i64 14],.agg #[.int .i64 0, .int .i64 0],.int .i64 14,zY,zZ,uA,uB,uC,uD,uE,uF,uG,uH,uI,uJ,uK,uL,uM,uN,uO,uP,uQ,uR,uS,uT,uU,uV,uW,uX,uY,uZ,iA,iB,iC,iD,iE,iF,iG,iH,iI,iJ,iK,iL,iM,iN,iO,iP,iQ,iR,iS,iT,iU,iV,iW,iX,iY,iZ,oA,oB,oC,oD,oE,oF,oG,oH,oI,oJ,oK,oL,oM,oN,oO,oP,oQ,oR,oS,oT,oU,oV,oW,oX,oY,oZ,qA,qB], defers := [] } : Act) → Ext w W0 → F f_ l_ a_ W0 := by
  intro  f_ l_ W0 a_ hf_ hl_ ha_ s0
  subst hf_ hl_ ha_
  refine (hF.out _ _ _ _).2 ?_
  refine wpAnyH_ready (rs := [7]) (by kernel_rfl) (by simp) ?_
  refine AllReadyH.cons (o := _) rfl (fun K hK => ?_) AllReadyH.nil
  go_simp
  refine hK.out _ _ (Ext.alloc s0 _) (fun _ => ?_)
  clear hK K
  try simp only [sxA, sxB, sxC, Act.put, sxD, sxE, sxF]
  refine name_any (fun W1 hW => ?_)
  have e1 : Ext W0 W1 := by rw [hW]; exact Ext.alloc (Ext.refl _) _
  have s1 := s0.trans e1
  have nb0 := hid (show W1.cell? ⟨W0.heap.size, 0, none⟩ = some (.int .i64 0) by rw [hW]; simp [go_sem])
  have nb1 := hid (show W1.cell? ⟨W0.heap.size, 1, none⟩ = some (.int .i64 0) by rw [hW]; simp [go_sem])
  have nd0 := hid (show W1.frozen? ⟨W0.heap.size, 0, none⟩ = false by rw [hW]; simp [go_sem])
  have nd1 := hid (show W1.frozen? ⟨W0.heap.size, 1, none⟩ = false by rw [hW]; simp [go_sem])
  clear hW
  refine (hF.out _ _ _ _).1 ?_
  exact N1_0 W0.heap.size _ _ W1 _ (by first | rfl | kernel_rfl) (by first | rfl | kernel_rfl) (by (try simp only [sxA, sxB, sxC, Act.put, sxD, sxE, sxF]); first | done | with_reducible rfl | rfl) s1 nb0 nb1 nd0 nd1 (hid s0.size)
 have N1_2 : ∀ (B11 : Nat) (f_ : Nat) (l_ : Array Bool) (W0 : World) (a_ : Act), f_ = 6 → l_ = #[true, true, true, false, false, false, false, true, false, false] → a_ = ({ tmps := #[yA,.slice (some ⟨gm, 0, none⟩) 4 4,yC,.pointer (some ⟨T, 0, none⟩),yE,yF,yG,yH,yI,yJ,yK,.pointer (some ⟨B11, 0, none⟩),yM,yN,yO,yP,yQ,yR,yS,yT,yU,yV,yW,yX,yY,yZ,zA,zB,zC,zD,zE,zF,zG,zH,zI,zJ,zK,zL,zM,zN,zO,zP,zQ,zR,.slice (some ⟨gm, 0, none⟩) 4 4,.agg #[.int .i64 100, .int .i64 10],.agg #[.int .i64 1, .int .i64 90, .int .i64 0, .int .i64 0],zV,zW,zX,zY,zZ,uA,uB,uC,uD,uE,uF,uG,uH,uI,uJ,uK,uL,uM,uN,uO,uP,uQ,uR,uS,uT,uU,uV,uW,uX,uY,uZ,iA,iB,iC,iD,iE,iF,iG,iH,iI,iJ,iK,iL,iM,iN,iO,iP,iQ,iR,iS,iT,iU,iV,iW,iX,iY,iZ,oA,oB,oC,oD,oE,oF,oG,oH,oI,oJ,oK,oL,oM,oN,oO,oP,oQ,oR,oS,oT,oU,oV,oW,oX,oY,oZ,qA,qB], defers := [] } : Act) → Ext w W0 → Hid (W0.cell? ⟨B11, 0, none⟩ = some (.int .i64 0)) → Hid (W0.cell? ⟨B11, 1, none⟩ = some (.int .i64 0)) → Hid (W0.frozen? ⟨B11, 0, none⟩ = false) → Hid (W0.frozen? ⟨B11, 1, none⟩ = false) → Hid (w.heap.size ≤ B11) → F f_ l_ a_ W0 := by
  intro B11 f_ l_ W0 a_ hf_ hl_ ha_ s0 b7_0 b7_1 d7_0 d7_1 z7
  subst hf_ hl_ ha_
  refine (hF.out _ _ _ _).2 ?_
  clear N1_1
  refine wpAnyH_ready (rs := [3]) (by kernel_rfl) (by simp) ?_
  refine AllReadyH.cons (o := _) rfl (fun K hK => ?_) AllReadyH.nil
  refine tk_call (by kernel_rfl) (cPrfK _ 4 _ (hm.out.ext s0)) (by kernel_rfl) ?_; rintro e W1 ⟨rfl, e1⟩; refine ⟨_, rfl, ?_⟩
  have s1 := s0.trans e1
  refine hK.out _ _ s1 (fun _ => ?_)
  clear hK K
  try simp only [sxA, sxB, sxC, Act.put, sxD, sxE, sxF]
  refine tkB (i := 4) (v := ?_) rfl hpan ?yl ?_
  case yl => (intro w hSw; have k_ := hRD_.out w hSw; go_simp); with_reducible rfl
  try simp only [sxA, sxB, sxC, Act.put, sxD, sxE, sxF]
  refine tkB (i := 5) (v := ?_) rfl hpan ?yl ?_
  case yl => (intro w hSw; have k_ := hRD_.out w hSw; go_simp); with_reducible rfl
  try simp only [sxA, sxB, sxC, Act.put, sxD, sxE, sxF]
  refine tkB (i := 6) (v := ?_) rfl hpan ?yl ?_
  case yl => (intro w hSw; have k_ := hRD_.out w hSw; go_simp); with_reducible rfl
  try simp only [sxA, sxB, sxC, Act.put, sxD, sxE, sxF]
  refine (hF.out _ _ _ _).1 ?_
  exact N1_0 B11 _ _ W1 _ (by first | rfl | kernel_rfl) (by first | rfl | kernel_rfl) (by (try simp only [sxA, sxB, sxC, Act.put, sxD, sxE, sxF]); first | done | with_reducible rfl | rfl) s1 (hid (e1.cell b7_0.out)) (hid (e1.cell b7_1.out)) (hid ((e1.frozen (cell_lt b7_0.out)).trans d7_0.out)) (hid ((e1.frozen (cell_lt b7_1.out)).trans d7_1.out)) z7
 have N1_3 : ∀ (f_ : Nat) (l_ : Array Bool) (W0 : World) (a_ : Act), f_ = 7 → l_ = #[true, true, true, false, false, false, false, false, false, false] → a_ = ({ tmps := #[yA,.slice (some ⟨gm, 0, none⟩) 4 4,yC,.pointer (some ⟨T, 0, none⟩),yE,yF,yG,yH,yI,yJ,yK,yL,yM,yN,yO,yP,yQ,yR,yS,yT,yU,yV,yW,yX,yY,yZ,zA,zB,zC,zD,zE,zF,zG,zH,zI,zJ,zK,zL,zM,zN,zO,zP,zQ,zR,.slice (some ⟨gm, 0, none⟩) 4 4,.agg #[.int .i64 100, .int .i64 10],.agg #[.int .i64 1, .int .i64 90, .int .i64 0, .int .i64 0],zV,zW,zX,zY,zZ,uA,uB,uC,uD,uE,uF,uG,uH,uI,uJ,uK,uL,uM,uN,uO,uP,uQ,uR,uS,uT,uU,uV,uW,uX,uY,uZ,iA,iB,iC,iD,iE,iF,iG,iH,iI,iJ,iK,iL,iM,iN,iO,iP,iQ,iR,iS,iT,iU,iV,iW,iX,iY,iZ,oA,oB,oC,oD,oE,oF,oG,oH,oI,oJ,oK,oL,oM,oN,oO,oP,oQ,oR,oS,oT,oU,oV,oW,oX,oY,oZ,qA,qB], defers := [] } : Act) → Ext w W0 → F f_ l_ a_ W0 := by
  intro  f_ l_ W0 a_ hf_ hl_ ha_ s0
  subst hf_ hl_ ha_
  refine (hF.out _ _ _ _).2 ?_
  clear N1_0
  refine wpAnyH_ready (rs := [3, 7]) (by kernel_rfl) (by simp) ?_
  refine AllReadyH.cons (o := _) rfl (fun K hK => ?_) ?_
  ·skip
   refine tk_call (by kernel_rfl) (cPrfK _ 4 _ (hm.out.ext s0)) (by kernel_rfl) ?_; rintro e W1 ⟨rfl, e1⟩; refine ⟨_, rfl, ?_⟩
   have s1 := s0.trans e1
   refine hK.out _ _ s1 (fun _ => ?_)
   clear hK K
   try simp only [sxA, sxB, sxC, Act.put, sxD, sxE, sxF]
   refine tkB (i := 4) (v := ?_) rfl hpan ?yl ?_
   case yl => (intro w hSw; have k_ := hRD_.out w hSw; go_simp); with_reducible rfl
   try simp only [sxA, sxB, sxC, Act.put, sxD, sxE, sxF]
   refine tkB (i := 5) (v := ?_) rfl hpan ?yl ?_
   case yl => (intro w hSw; have k_ := hRD_.out w hSw; go_simp); with_reducible rfl
   try simp only [sxA, sxB, sxC, Act.put, sxD, sxE, sxF]
   refine tkB (i := 6) (v := ?_) rfl hpan ?yl ?_
   case yl => (intro w hSw; have k_ := hRD_.out w hSw; go_simp); with_reducible rfl
   try simp only [sxA, sxB, sxC, Act.put, sxD, sxE, sxF]
   refine (hF.out _ _ _ _).1 ?_
   exact N1_1 _ _ W1 _ (by first | rfl | kernel_rfl) (by first | rfl | kernel_rfl) (by (try simp only [sxA, sxB, sxC, Act.put, sxD, sxE, sxF]); first | done | with_reducible rfl | rfl) s1
  refine AllReadyH.cons (o := _) rfl (fun K hK => ?_) ?_
  ·skip
   go_simp
   refine hK.out _ _ (Ext.alloc s0 _) (fun _ => ?_)
   clear hK K
   try simp only [sxA, sxB, sxC, Act.put, sxD, sxE, sxF]
   refine name_any (fun W1 hW => ?_)
   have e1 : Ext W0 W1 := by rw [hW]; exact Ext.alloc (Ext.refl _) _
   have s1 := s0.trans e1
   have nb0 := hid (show W1.cell? ⟨W0.heap.size, 0, none⟩ = some (.int .i64 0) by rw [hW]; simp [go_sem])
   have nb1 := hid (show W1.cell? ⟨W0.heap.size, 1, none⟩ = some (.int .i64 0) by rw [hW]; simp [go_sem])
   have nd0 := hid (show W1.frozen? ⟨W0.heap.size, 0, none⟩ = false by rw [hW]; simp [go_sem])
   have nd1 := hid (show W1.frozen? ⟨W0.heap.size, 1, none⟩ = false by rw [hW]; simp [go_sem])
   clear hW
   refine (hF.out _ _ _ _).1 ?_
   exact N1_2 W0.heap.size _ _ W1 _ (by first | rfl | kernel_rfl) (by first | rfl | kernel_rfl) (by (try simp only [sxA, sxB, sxC, Act.put, sxD, sxE, sxF]); first | done | with_reducible rfl | rfl) s1 nb0 nb1 nd0 nd1 (hid s0.size)
  exact AllReadyH.nil
 have N1_4 : ∀ (B11 : Nat) (f_ : Nat) (l_ : Array Bool) (W0 : World) (a_ : Act), f_ = 7 → l_ = #[true, true, false, false, false, false, false, true, false, false] → a_ = ({ tmps := #[yA,.slice (some ⟨gm, 0, none⟩) 4 4,yC,.pointer (some ⟨T, 0, none⟩),yE,yF,yG,yH,yI,yJ,yK,.pointer (some ⟨B11, 0, none⟩),yM,yN,yO,yP,yQ,yR,yS,yT,yU,yV,yW,yX,yY,yZ,zA,zB,zC,zD,zE,zF,zG,zH,zI,zJ,zK,zL,zM,zN,zO,zP,zQ,zR,.slice (some ⟨gm, 0, none⟩) 4 4,.agg #[.int .i64 100, .int .i64 10],zU,zV,zW,zX,zY,zZ,uA,uB,uC,uD,uE,uF,uG,uH,uI,uJ,uK,uL,uM,uN,uO,uP,uQ,uR,uS,uT,uU,uV,uW,uX,uY,uZ,iA,iB,iC,iD,iE,iF,iG,iH,iI,iJ,iK,iL,iM,iN,iO,iP,iQ,iR,iS,iT,iU,iV,iW,iX,iY,iZ,oA,oB,oC,oD,oE,oF,oG,oH,oI,oJ,oK,oL,oM,oN,oO,oP,oQ,oR,oS,oT,oU,oV,oW,oX,oY,oZ,qA,qB], defers := [] } : Act) → Ext w W0 → Hid (W0.cell? ⟨B11, 0, none⟩ = some (.int .i64 0)) → Hid (W0.cell? ⟨B11, 1, none⟩ = some (.int .i64 0)) → Hid (W0.frozen? ⟨B11, 0, none⟩ = false) → Hid (W0.frozen? ⟨B11, 1, none⟩ = false) → Hid (w.heap.size ≤ B11) → F f_ l_ a_ W0 := by
  intro B11 f_ l_ W0 a_ hf_ hl_ ha_ s0 b7_0 b7_1 d7_0 d7_1 z7
  subst hf_ hl_ ha_
  refine (hF.out _ _ _ _).2 ?_
  clear N1_0 N1_1 N1_3
  refine wpAnyH_ready (rs := [2]) (by kernel_rfl) (by simp) ?_
  refine AllReadyH.cons (o := _) rfl (fun K hK => ?_) AllReadyH.nil
  refine tk_call (by kernel_rfl) (proofL_any 1 90 0 0 _) (by kernel_rfl) ?_; rintro e W1 ⟨rfl, e1⟩; refine ⟨_, rfl, ?_⟩
  have s1 := s0.trans e1
  refine hK.out _ _ s1 (fun _ => ?_)
  clear hK K
  try simp only [sxA, sxB, sxC, Act.put, sxD, sxE, sxF]
  refine (hF.out _ _ _ _).1 ?_
  exact N1_2 B11 _ _ W1 _ (by first | rfl | kernel_rfl) (by first | rfl | kernel_rfl) (by (try simp only [sxA, sxB, sxC, Act.put, sxD, sxE, sxF]); first | done | with_reducible rfl | rfl) s1 (hid (e1.cell b7_0.out)) (hid (e1.cell b7_1.out)) (hid ((e1.frozen (cell_lt b7_0.out)).trans d7_0.out)) (hid ((e1.frozen (cell_lt b7_1.out)).trans d7_1.out)) z7
 have N1_5 : ∀ (f_ : Nat) (l_ : Array Bool) (W0 : World) (a_ : Act), f_ = 8 → l_ = #[true, true, false, false, false, false, false, false, false, false] → a_ = ({ tmps := #[yA,.slice (some ⟨gm, 0, none⟩) 4 4,yC,.pointer (some ⟨T, 0, none⟩),yE,yF,yG,yH,yI,yJ,yK,yL,yM,yN,yO,yP,yQ,yR,yS,yT,yU,yV,yW,yX,yY,yZ,zA,zB,zC,zD,zE,zF,zG,zH,zI,zJ,zK,zL,zM,zN,zO,zP,zQ,zR,.slice (some ⟨gm, 0, none⟩) 4 4,.agg #[.int .i64 100, .int .i64 10],zU,zV,zW,zX,zY,zZ,uA,uB,uC,uD,uE,uF,uG,uH,uI,uJ,uK,uL,uM,uN,uO,uP,uQ,uR,uS,uT,uU,uV,uW,uX,uY,uZ,iA,iB,iC,iD,iE,iF,iG,iH,iI,iJ,iK,iL,iM,iN,iO,iP,iQ,iR,iS,iT,iU,iV,iW,iX,iY,iZ,oA,oB,oC,oD,oE,oF,oG,oH,oI,oJ,oK,oL,oM,oN,oO,oP,oQ,oR,oS,oT,oU,oV,oW,oX,oY,oZ,qA,qB], defers := [] } : Act) → Ext w W0 → F f_ l_ a_ W0 := by
  intro  f_ l_ W0 a_ hf_ hl_ ha_ s0
  subst hf_ hl_ ha_
  refine (hF.out _ _ _ _).2 ?_
  clear N1_0 N1_1 N1_2
  refine wpAnyH_ready (rs := [2, 7]) (by kernel_rfl) (by simp) ?_
  refine AllReadyH.cons (o := _) rfl (fun K hK => ?_) ?_
  ·skip
   refine tk_call (by kernel_rfl) (proofL_any 1 90 0 0 _) (by kernel_rfl) ?_; rintro e W1 ⟨rfl, e1⟩; refine ⟨_, rfl, ?_⟩
   have s1 := s0.trans e1
   refine hK.out _ _ s1 (fun _ => ?_)
   clear hK K
   try simp only [sxA, sxB, sxC, Act.put, sxD, sxE, sxF]
   refine (hF.out _ _ _ _).1 ?_
   exact N1_3 _ _ W1 _ (by first | rfl | kernel_rfl) (by first | rfl | kernel_rfl) (by (try simp only [sxA, sxB, sxC, Act.put, sxD, sxE, sxF]); first | done | with_reducible rfl | rfl) s1
  refine AllReadyH.cons (o := _) rfl (fun K hK => ?_) ?_
  ·skip
   go_simp
   refine hK.out _ _ (Ext.alloc s0 _) (fun _ => ?_)
   clear hK K
   try simp only [sxA, sxB, sxC, Act.put, sxD, sxE, sxF]
   refine name_any (fun W1 hW => ?_)
   have e1 : Ext W0 W1 := by rw [hW]; exact Ext.alloc (Ext.refl _) _
   have s1 := s0.trans e1
   have nb0 := hid (show W1.cell? ⟨W0.heap.size, 0, none⟩ = some (.int .i64 0) by rw [hW]; simp [go_sem])
   have nb1 := hid (show W1.cell? ⟨W0.heap.size, 1, none⟩ = some (.int .i64 0) by rw [hW]; simp [go_sem])
   have nd0 := hid (show W1.frozen? ⟨W0.heap.size, 0, none⟩ = false by rw [hW]; simp [go_sem])
   have nd1 := hid (show W1.frozen? ⟨W0.heap.size, 1, none⟩ = false by rw [hW]; simp [go_sem])
   clear hW
   refine (hF.out _ _ _ _).1 ?_
   exact N1_4 W0.heap.size _ _ W1 _ (by first | rfl | kernel_rfl) (by first | rfl | kernel_rfl) (by (try simp only [sxA, sxB, sxC, Act.put, sxD, sxE, sxF]); first | done | with_reducible rfl | rfl) s1 nb0 nb1 nd0 nd1 (hid s0.size)
  exact AllReadyH.nil
 rw [hA_.out]
 refine (hF.out _ _ _ _).2 ?_
 refine tkB (i := 0) (v := ?_) rfl hpan ?yl ?_
 case yl => (intro w hSw; have k_ := hRD_.out w hSw; go_simp); with_reducible rfl
 try simp only [sxA, sxB, sxC, Act.put, sxD, sxE, sxF]
 refine tkB (i := 1) (v := ?_) rfl hpan ?yl ?_
 case yl => (intro w hSw; have k_ := hRD_.out w hSw; go_simp); with_reducible rfl
 try simp only [sxA, sxB, sxC, Act.put, sxD, sxE, sxF]
 refine (hF.out _ _ _ _).1 ?_
 exact N1_5 _ _ W0 _ (by first | rfl | kernel_rfl) (by first | rfl | kernel_rfl) (by (try simp only [sxA, sxB, sxC, Act.put, sxD, sxE, sxF]); first | done | with_reducible rfl | rfl) s0
set_option maxHeartbeats 40000000 in
theorem stK6 {A_ : Act} {yA yC yE yF yG yH yI yJ yK yL yM yN yO yP yQ yR yS yT yU yV yW yX yY yZ zA zB zC zD zE zF zG zH zI zJ zK zL zM zN zO zP zQ zR zS zT zU zV zW zX zY zZ uA uB uC uD uE uF uG uH uI uJ uK uL uM uN uO uP uQ uR uS uT uU uV uW uX uY uZ iA iB iC iD iE iF iG iH iI iJ iK iL iM iN iO iP iQ iR iS iT iU iV iW iX iY iZ oA oB oC oD oE oF oG oH oI oJ oK oL oM oN oO oP oQ oR oS oT oU oV oW oX oY oZ qA qB : Value} {gm T : Nat} {w : World} (hA0_ : A_ = { tmps := #[yA, .slice (some ⟨gm, 0, none⟩) 4 4, yC, .pointer (some ⟨T, 0, none⟩), yE, yF, yG, yH, yI, yJ, yK, yL, yM, yN, yO, yP, yQ, yR, yS, yT, yU, yV, yW, yX, yY, yZ, zA, zB, zC, zD, zE, zF, zG, zH, zI, zJ, zK, zL, zM, zN, zO, zP, zQ, zR, zS, zT, zU, zV, zW, zX, zY, zZ, uA, uB, uC, uD, uE, uF, uG, uH, uI, uJ, uK, uL, uM, uN, uO, uP, uQ, uR, uS, uT, uU, uV, uW, uX, uY, uZ, iA, iB, iC, iD, iE, iF, iG, iH, iI, iJ, iK, iL, iM, iN, iO, iP, iQ, iR, iS, iT, iU, iV, iW, iX, iY, iZ, oA, oB, oC, oD, oE, oF, oG, oH, oI, oJ, oK, oL, oM, oN, oO, oP, oQ, oR, oS, oT, oU, oV, oW, oX, oY, oZ, qA, qB], defers := [] }) (hm : Mts w (some ⟨gm, 0, none⟩) mL) (t0 : w.cell? ⟨T, 0, none⟩ = some (.int .i64 100)) (t1 : w.cell? ⟨T, 1, none⟩ = some (.int .i64 10)) :
 Code.wp Try.prog (rgn Try.f16 6) (fun e a' w' => e = .normal ∧ ∃ (B13 : Nat), a' = ({ tmps := #[yA,.slice (some ⟨gm, 0, none⟩) 4 4,yC,.pointer (some ⟨T, 0, none⟩),yE,yF,yG,yH,yI,yJ,yK,yL,yM,.pointer (some ⟨B13, 0, none⟩),.int .i64 3,yP,yQ,yR,yS,yT,yU,yV,yW,yX,yY,yZ,zA,zB,zC,zD,zE,zF,zG,zH,zI,zJ,zK,zL,zM,zN,zO,zP,zQ,zR,zS,zT,zU,zV,zW,zX,.tuple #[.agg #[.int .i64 0, .int .i64 0], .int .i64 3],.slice (some ⟨gm, 0, none⟩) 4 4,.agg #[.int .i64 100, .int .i64 10],.agg #[.int .i64 0, .int .i64 0, .int .i64 0, .int .i64 0],.tuple #[.agg #[.int .i64 0, .int .i64 0], .int .i64 3],.agg #[.int .i64 0, .int .i64 0],.int .i64 3,uF,uG,uH,uI,uJ,uK,uL,uM,uN,uO,uP,uQ,uR,uS,uT,uU,uV,uW,uX,uY,uZ,iA,iB,iC,iD,iE,iF,iG,iH,iI,iJ,iK,iL,iM,iN,iO,iP,iQ,iR,iS,iT,iU,iV,iW,iX,iY,iZ,oA,oB,oC,oD,oE,oF,oG,oH,oI,oJ,oK,oL,oM,oN,oO,oP,oQ,oR,oS,oT,oU,oV,oW,oX,oY,oZ,qA,qB], defers := [] } : Act) ∧ Ext w w' ∧ w'.cell? ⟨B13, 0, none⟩ = some (.int .i64 0) ∧ w'.cell? ⟨B13, 1, none⟩ = some (.int .i64 0) ∧ w'.frozen? ⟨B13, 0, none⟩ = false ∧ w'.frozen? ⟨B13, 1, none⟩ = false ∧ w.heap.size ≤ B13) A_ w := by
 conv => arg 2; whnf
 refine st_intro (fun Q2 hQ2 => ?_)
 have hA_ := hid hA0_
 clear hA0_
 have hpan : ∀ c a a' w w', Q2 (.panic c) a w → Q2 (.panic c) a' w' := by rw [hQ2]; rintro c a a' w w' ⟨h, _⟩; cases h
 replace hQ2 := hid hQ2
 replace hm := hid hm
 have hRD_ := hid (fun w' (x_ : Ext w w') => And.intro (Ext.cell x_ t0) (Ext.cell x_ t1))
 refine wp_region_held_drew (S := fun w' => Ext w w') (by kernel_rfl) exE fun hHeld => ?_
 try simp only [List.append_eq, List.cons_append, List.nil_append]
 refine name_any (fun W0 hW => ?_)
 have s0 : Ext w W0 := by rw [hW]; exact hHeld
 clear hW hHeld
 refine wpF_intro 10 (by kernel_rfl) (fun F hF => ?_)
 replace hF := hid hF
 have N1_0 : ∀ (B13 : Nat) (f_ : Nat) (l_ : Array Bool) (W0 : World) (a_ : Act), f_ = 2 → l_ = #[true, true, true, true, true, true, true, true, false, false] → a_ = ({ tmps := #[yA,.slice (some ⟨gm, 0, none⟩) 4 4,yC,.pointer (some ⟨T, 0, none⟩),yE,yF,yG,yH,yI,yJ,yK,yL,yM,.pointer (some ⟨B13, 0, none⟩),yO,yP,yQ,yR,yS,yT,yU,yV,yW,yX,yY,yZ,zA,zB,zC,zD,zE,zF,zG,zH,zI,zJ,zK,zL,zM,zN,zO,zP,zQ,zR,zS,zT,zU,zV,zW,zX,.tuple #[.agg #[.int .i64 0, .int .i64 0], .int .i64 3],.slice (some ⟨gm, 0, none⟩) 4 4,.agg #[.int .i64 100, .int .i64 10],.agg #[.int .i64 0, .int .i64 0, .int .i64 0, .int .i64 0],.tuple #[.agg #[.int .i64 0, .int .i64 0], .int .i64 3],.agg #[.int .i64 0, .int .i64 0],.int .i64 3,uF,uG,uH,uI,uJ,uK,uL,uM,uN,uO,uP,uQ,uR,uS,uT,uU,uV,uW,uX,uY,uZ,iA,iB,iC,iD,iE,iF,iG,iH,iI,iJ,iK,iL,iM,iN,iO,iP,iQ,iR,iS,iT,iU,iV,iW,iX,iY,iZ,oA,oB,oC,oD,oE,oF,oG,oH,oI,oJ,oK,oL,oM,oN,oO,oP,oQ,oR,oS,oT,oU,oV,oW,oX,oY,oZ,qA,qB], defers := [] } : Act) → Ext w W0 → Hid (W0.cell? ⟨B13, 0, none⟩ = some (.int .i64 0)) → Hid (W0.cell? ⟨B13, 1, none⟩ = some (.int .i64 0)) → Hid (W0.frozen? ⟨B13, 0, none⟩ = false) → Hid (W0.frozen? ⟨B13, 1, none⟩ = false) → Hid (w.heap.size ≤ B13) → F f_ l_ a_ W0 := by
  intro B13 f_ l_ W0 a_ hf_ hl_ ha_ s0 b7_0 b7_1 d7_0 d7_1 z7
  subst hf_ hl_ ha_
  refine (hF.out _ _ _ _).2 ?_
  refine wpAnyH_ready (rs := [8]) (by kernel_rfl) (by simp) ?_
  refine AllReadyH.cons (o := _) rfl (fun K hK => ?_) AllReadyH.nil
  have f0 := b7_0.out
  have g0 := d7_0.out
  have f1 := b7_1.out
  have g1 := d7_1.out
  have l0_ := s0.size
  have z0_ := z7.out
  go_simp
  refine hK.out _ _ exE (fun _ => ?_)
  clear hK K
  try simp only [sxA, sxB, sxC, Act.put, sxD, sxE, sxF]
  refine name_any (fun W1 hW => ?_)
  have s1 : Ext w W1 := by rw [hW]; exact exE
  have nb0 := hid (show W1.cell? ⟨B13, 0, none⟩ = some (.int .i64 0) by rw [hW]; simp [go_sem, f0, f1])
  have nb1 := hid (show W1.cell? ⟨B13, 1, none⟩ = some (.int .i64 0) by rw [hW]; simp [go_sem, f0, f1])
  have nd0 := hid (show W1.frozen? ⟨B13, 0, none⟩ = false by rw [hW]; simp [go_sem, World.frozen?_setCell, g0, g1])
  have nd1 := hid (show W1.frozen? ⟨B13, 1, none⟩ = false by rw [hW]; simp [go_sem, World.frozen?_setCell, g0, g1])
  clear hW
  refine tkB (i := 9) (v := ?_) rfl hpan ?yl ?_
  case yl => (intro w hSw; have k_ := hRD_.out w hSw; go_simp); with_reducible rfl
  try simp only [sxA, sxB, sxC, Act.put, sxD, sxE, sxF]
  refine wpAnyH_done (by kernel_rfl) ?_ _
  try simp only [sxA, sxB, sxC, Act.put, sxD, sxE, sxF]
  rw [hQ2.out]
  refine ⟨rfl, B13, ?eq1_1, s1, nb0.out, nb1.out, nd0.out, nd1.out, z7.out⟩
  case eq1_1 => (first | with_reducible rfl | rfl)
 have N1_1 : ∀ (f_ : Nat) (l_ : Array Bool) (W0 : World) (a_ : Act), f_ = 3 → l_ = #[true, true, true, true, true, true, true, false, false, false] → a_ = ({ tmps := #[yA,.slice (some ⟨gm, 0, none⟩) 4 4,yC,.pointer (some ⟨T, 0, none⟩),yE,yF,yG,yH,yI,yJ,yK,yL,yM,yN,yO,yP,yQ,yR,yS,yT,yU,yV,yW,yX,yY,yZ,zA,zB,zC,zD,zE,zF,zG,zH,zI,zJ,zK,zL,zM,zN,zO,zP,zQ,zR,zS,zT,zU,zV,zW,zX,.tuple #[.agg #[.int .i64 0, .int .i64 0], .int .i64 3],.slice (some ⟨gm, 0, none⟩) 4 4,.agg #[.int .i64 100, .int .i64 10],.agg #[.int .i64 0, .int .i64 0, .int .i64 0, .int .i64 0],.tuple #[.agg #[.int .i64 0, .int .i64 0], .int .i64 3],.agg #[.int .i64 0, .int .i64 0],.int .i64 3,uF,uG,uH,uI,uJ,uK,uL,uM,uN,uO,uP,uQ,uR,uS,uT,uU,uV,uW,uX,uY,uZ,iA,iB,iC,iD,iE,iF,iG,iH,iI,iJ,iK,iL,iM,iN,iO,iP,iQ,iR,iS,iT,iU,iV,iW,iX,iY,iZ,oA,oB,oC,oD,oE,oF,oG,oH,oI,oJ,oK,oL,oM,oN,oO,oP,oQ,oR,oS,oT,oU,oV,oW,oX,oY,oZ,qA,qB], defers := [] } : Act) → Ext w W0 → F f_ l_ a_ W0 := by
  intro  f_ l_ W0 a_ hf_ hl_ ha_ s0
  subst hf_ hl_ ha_
  refine (hF.out _ _ _ _).2 ?_
  refine wpAnyH_ready (rs := [7]) (by kernel_rfl) (by simp) ?_
  refine AllReadyH.cons (o := _) rfl (fun K hK => ?_) AllReadyH.nil
  go_simp
  refine hK.out _ _ (Ext.alloc s0 _) (fun _ => ?_)
  clear hK K
  try simp only [sxA, sxB, sxC, Act.put, sxD, sxE, sxF]
  refine name_any (fun W1 hW => ?_)
  have e1 : Ext W0 W1 := by rw [hW]; exact Ext.alloc (Ext.refl _) _
  have s1 := s0.trans e1
  have nb0 := hid (show W1.cell? ⟨W0.heap.size, 0, none⟩ = some (.int .i64 0) by rw [hW]; simp [go_sem])
  have nb1 := hid (show W1.cell? ⟨W0.heap.size, 1, none⟩ = some (.int .i64 0) by rw [hW]; simp [go_sem])
  have nd0 := hid (show W1.frozen? ⟨W0.heap.size, 0, none⟩ = false by rw [hW]; simp [go_sem])
  have nd1 := hid (show W1.frozen? ⟨W0.heap.size, 1, none⟩ = false by rw [hW]; simp [go_sem])
  clear hW
  refine (hF.out _ _ _ _).1 ?_
  exact N1_0 W0.heap.size _ _ W1 _ (by first | rfl | kernel_rfl) (by first | rfl | kernel_rfl) (by (try simp only [sxA, sxB, sxC, Act.put, sxD, sxE, sxF]); first | done | with_reducible rfl | rfl) s1 nb0 nb1 nd0 nd1 (hid s0.size)
 have N1_2 : ∀ (B13 : Nat) (f_ : Nat) (l_ : Array Bool) (W0 : World) (a_ : Act), f_ = 6 → l_ = #[true, true, true, false, false, false, false, true, false, false] → a_ = ({ tmps := #[yA,.slice (some ⟨gm, 0, none⟩) 4 4,yC,.pointer (some ⟨T, 0, none⟩),yE,yF,yG,yH,yI,yJ,yK,yL,yM,.pointer (some ⟨B13, 0, none⟩),yO,yP,yQ,yR,yS,yT,yU,yV,yW,yX,yY,yZ,zA,zB,zC,zD,zE,zF,zG,zH,zI,zJ,zK,zL,zM,zN,zO,zP,zQ,zR,zS,zT,zU,zV,zW,zX,zY,.slice (some ⟨gm, 0, none⟩) 4 4,.agg #[.int .i64 100, .int .i64 10],.agg #[.int .i64 0, .int .i64 0, .int .i64 0, .int .i64 0],uC,uD,uE,uF,uG,uH,uI,uJ,uK,uL,uM,uN,uO,uP,uQ,uR,uS,uT,uU,uV,uW,uX,uY,uZ,iA,iB,iC,iD,iE,iF,iG,iH,iI,iJ,iK,iL,iM,iN,iO,iP,iQ,iR,iS,iT,iU,iV,iW,iX,iY,iZ,oA,oB,oC,oD,oE,oF,oG,oH,oI,oJ,oK,oL,oM,oN,oO,oP,oQ,oR,oS,oT,oU,oV,oW,oX,oY,oZ,qA,qB], defers := [] } : Act) → Ext w W0 → Hid (W0.cell? ⟨B13, 0, none⟩ = some (.int .i64 0)) → Hid (W0.cell? ⟨B13, 1, none⟩ = some (.int .i64 0)) → Hid (W0.frozen? ⟨B13, 0, none⟩ = false) → Hid (W0.frozen? ⟨B13, 1, none⟩ = false) → Hid (w.heap.size ≤ B13) → F f_ l_ a_ W0 := by
  intro B13 f_ l_ W0 a_ hf_ hl_ ha_ s0 b7_0 b7_1 d7_0 d7_1 z7
  subst hf_ hl_ ha_
  refine (hF.out _ _ _ _).2 ?_
  clear N1_1
  refine wpAnyH_ready (rs := [3]) (by kernel_rfl) (by simp) ?_
  refine AllReadyH.cons (o := _) rfl (fun K hK => ?_) AllReadyH.nil
  refine tk_call (by kernel_rfl) (cPrfM _ 4 _ (hm.out.ext s0)) (by kernel_rfl) ?_; rintro e W1 ⟨rfl, e1⟩; refine ⟨_, rfl, ?_⟩
  have s1 := s0.trans e1
  refine hK.out _ _ s1 (fun _ => ?_)
  clear hK K
  try simp only [sxA, sxB, sxC, Act.put, sxD, sxE, sxF]
  refine tkB (i := 4) (v := ?_) rfl hpan ?yl ?_
  case yl => (intro w hSw; have k_ := hRD_.out w hSw; go_simp); with_reducible rfl
  try simp only [sxA, sxB, sxC, Act.put, sxD, sxE, sxF]
  refine tkB (i := 5) (v := ?_) rfl hpan ?yl ?_
  case yl => (intro w hSw; have k_ := hRD_.out w hSw; go_simp); with_reducible rfl
  try simp only [sxA, sxB, sxC, Act.put, sxD, sxE, sxF]
  refine tkB (i := 6) (v := ?_) rfl hpan ?yl ?_
  case yl => (intro w hSw; have k_ := hRD_.out w hSw; go_simp); with_reducible rfl
  try simp only [sxA, sxB, sxC, Act.put, sxD, sxE, sxF]
  refine (hF.out _ _ _ _).1 ?_
  exact N1_0 B13 _ _ W1 _ (by first | rfl | kernel_rfl) (by first | rfl | kernel_rfl) (by (try simp only [sxA, sxB, sxC, Act.put, sxD, sxE, sxF]); first | done | with_reducible rfl | rfl) s1 (hid (e1.cell b7_0.out)) (hid (e1.cell b7_1.out)) (hid ((e1.frozen (cell_lt b7_0.out)).trans d7_0.out)) (hid ((e1.frozen (cell_lt b7_1.out)).trans d7_1.out)) z7
 have N1_3 : ∀ (f_ : Nat) (l_ : Array Bool) (W0 : World) (a_ : Act), f_ = 7 → l_ = #[true, true, true, false, false, false, false, false, false, false] → a_ = ({ tmps := #[yA,.slice (some ⟨gm, 0, none⟩) 4 4,yC,.pointer (some ⟨T, 0, none⟩),yE,yF,yG,yH,yI,yJ,yK,yL,yM,yN,yO,yP,yQ,yR,yS,yT,yU,yV,yW,yX,yY,yZ,zA,zB,zC,zD,zE,zF,zG,zH,zI,zJ,zK,zL,zM,zN,zO,zP,zQ,zR,zS,zT,zU,zV,zW,zX,zY,.slice (some ⟨gm, 0, none⟩) 4 4,.agg #[.int .i64 100, .int .i64 10],.agg #[.int .i64 0, .int .i64 0, .int .i64 0, .int .i64 0],uC,uD,uE,uF,uG,uH,uI,uJ,uK,uL,uM,uN,uO,uP,uQ,uR,uS,uT,uU,uV,uW,uX,uY,uZ,iA,iB,iC,iD,iE,iF,iG,iH,iI,iJ,iK,iL,iM,iN,iO,iP,iQ,iR,iS,iT,iU,iV,iW,iX,iY,iZ,oA,oB,oC,oD,oE,oF,oG,oH,oI,oJ,oK,oL,oM,oN,oO,oP,oQ,oR,oS,oT,oU,oV,oW,oX,oY,oZ,qA,qB], defers := [] } : Act) → Ext w W0 → F f_ l_ a_ W0 := by
  intro  f_ l_ W0 a_ hf_ hl_ ha_ s0
  subst hf_ hl_ ha_
  refine (hF.out _ _ _ _).2 ?_
  clear N1_0
  refine wpAnyH_ready (rs := [3, 7]) (by kernel_rfl) (by simp) ?_
  refine AllReadyH.cons (o := _) rfl (fun K hK => ?_) ?_
  ·skip
   refine tk_call (by kernel_rfl) (cPrfM _ 4 _ (hm.out.ext s0)) (by kernel_rfl) ?_; rintro e W1 ⟨rfl, e1⟩; refine ⟨_, rfl, ?_⟩
   have s1 := s0.trans e1
   refine hK.out _ _ s1 (fun _ => ?_)
   clear hK K
   try simp only [sxA, sxB, sxC, Act.put, sxD, sxE, sxF]
   refine tkB (i := 4) (v := ?_) rfl hpan ?yl ?_
   case yl => (intro w hSw; have k_ := hRD_.out w hSw; go_simp); with_reducible rfl
   try simp only [sxA, sxB, sxC, Act.put, sxD, sxE, sxF]
   refine tkB (i := 5) (v := ?_) rfl hpan ?yl ?_
   case yl => (intro w hSw; have k_ := hRD_.out w hSw; go_simp); with_reducible rfl
   try simp only [sxA, sxB, sxC, Act.put, sxD, sxE, sxF]
   refine tkB (i := 6) (v := ?_) rfl hpan ?yl ?_
   case yl => (intro w hSw; have k_ := hRD_.out w hSw; go_simp); with_reducible rfl
   try simp only [sxA, sxB, sxC, Act.put, sxD, sxE, sxF]
   refine (hF.out _ _ _ _).1 ?_
   exact N1_1 _ _ W1 _ (by first | rfl | kernel_rfl) (by first | rfl | kernel_rfl) (by (try simp only [sxA, sxB, sxC, Act.put, sxD, sxE, sxF]); first | done | with_reducible rfl | rfl) s1
  refine AllReadyH.cons (o := _) rfl (fun K hK => ?_) ?_
  ·skip
   go_simp
   refine hK.out _ _ (Ext.alloc s0 _) (fun _ => ?_)
   clear hK K
   try simp only [sxA, sxB, sxC, Act.put, sxD, sxE, sxF]
   refine name_any (fun W1 hW => ?_)
   have e1 : Ext W0 W1 := by rw [hW]; exact Ext.alloc (Ext.refl _) _
   have s1 := s0.trans e1
   have nb0 := hid (show W1.cell? ⟨W0.heap.size, 0, none⟩ = some (.int .i64 0) by rw [hW]; simp [go_sem])
   have nb1 := hid (show W1.cell? ⟨W0.heap.size, 1, none⟩ = some (.int .i64 0) by rw [hW]; simp [go_sem])
   have nd0 := hid (show W1.frozen? ⟨W0.heap.size, 0, none⟩ = false by rw [hW]; simp [go_sem])
   have nd1 := hid (show W1.frozen? ⟨W0.heap.size, 1, none⟩ = false by rw [hW]; simp [go_sem])
   clear hW
   refine (hF.out _ _ _ _).1 ?_
   exact N1_2 W0.heap.size _ _ W1 _ (by first | rfl | kernel_rfl) (by first | rfl | kernel_rfl) (by (try simp only [sxA, sxB, sxC, Act.put, sxD, sxE, sxF]); first | done | with_reducible rfl | rfl) s1 nb0 nb1 nd0 nd1 (hid s0.size)
  exact AllReadyH.nil
 have N1_4 : ∀ (B13 : Nat) (f_ : Nat) (l_ : Array Bool) (W0 : World) (a_ : Act), f_ = 7 → l_ = #[true, true, false, false, false, false, false, true, false, false] → a_ = ({ tmps := #[yA,.slice (some ⟨gm, 0, none⟩) 4 4,yC,.pointer (some ⟨T, 0, none⟩),yE,yF,yG,yH,yI,yJ,yK,yL,yM,.pointer (some ⟨B13, 0, none⟩),yO,yP,yQ,yR,yS,yT,yU,yV,yW,yX,yY,yZ,zA,zB,zC,zD,zE,zF,zG,zH,zI,zJ,zK,zL,zM,zN,zO,zP,zQ,zR,zS,zT,zU,zV,zW,zX,zY,.slice (some ⟨gm, 0, none⟩) 4 4,.agg #[.int .i64 100, .int .i64 10],uB,uC,uD,uE,uF,uG,uH,uI,uJ,uK,uL,uM,uN,uO,uP,uQ,uR,uS,uT,uU,uV,uW,uX,uY,uZ,iA,iB,iC,iD,iE,iF,iG,iH,iI,iJ,iK,iL,iM,iN,iO,iP,iQ,iR,iS,iT,iU,iV,iW,iX,iY,iZ,oA,oB,oC,oD,oE,oF,oG,oH,oI,oJ,oK,oL,oM,oN,oO,oP,oQ,oR,oS,oT,oU,oV,oW,oX,oY,oZ,qA,qB], defers := [] } : Act) → Ext w W0 → Hid (W0.cell? ⟨B13, 0, none⟩ = some (.int .i64 0)) → Hid (W0.cell? ⟨B13, 1, none⟩ = some (.int .i64 0)) → Hid (W0.frozen? ⟨B13, 0, none⟩ = false) → Hid (W0.frozen? ⟨B13, 1, none⟩ = false) → Hid (w.heap.size ≤ B13) → F f_ l_ a_ W0 := by
  intro B13 f_ l_ W0 a_ hf_ hl_ ha_ s0 b7_0 b7_1 d7_0 d7_1 z7
  subst hf_ hl_ ha_
  refine (hF.out _ _ _ _).2 ?_
  clear N1_0 N1_1 N1_3
  refine wpAnyH_ready (rs := [2]) (by kernel_rfl) (by simp) ?_
  refine AllReadyH.cons (o := _) rfl (fun K hK => ?_) AllReadyH.nil
  refine tk_call (by kernel_rfl) (proofL_any 0 0 0 0 _) (by kernel_rfl) ?_; rintro e W1 ⟨rfl, e1⟩; refine ⟨_, rfl, ?_⟩
  have s1 := s0.trans e1
  refine hK.out _ _ s1 (fun _ => ?_)
  clear hK K
  try simp only [sxA, sxB, sxC, Act.put, sxD, sxE, sxF]
  refine (hF.out _ _ _ _).1 ?_
  exact N1_2 B13 _ _ W1 _ (by first | rfl | kernel_rfl) (by first | rfl | kernel_rfl) (by (try simp only [sxA, sxB, sxC, Act.put, sxD, sxE, sxF]); first | done | with_reducible rfl | rfl) s1 (hid (e1.cell b7_0.out)) (hid (e1.cell b7_1.out)) (hid ((e1.frozen (cell_lt b7_0.out)).trans d7_0.out)) (hid ((e1.frozen (cell_lt b7_1.out)).trans d7_1.out)) z7
 have N1_5 : ∀ (f_ : Nat) (l_ : Array Bool) (W0 : World) (a_ : Act), f_ = 8 → l_ = #[true, true, false, false, false, false, false, false, false, false] → a_ = ({ tmps := #[yA,.slice (some ⟨gm, 0, none⟩) 4 4,yC,.pointer (some ⟨T, 0, none⟩),yE,yF,yG,yH,yI,yJ,yK,yL,yM,yN,yO,yP,yQ,yR,yS,yT,yU,yV,yW,yX,yY,yZ,zA,zB,zC,zD,zE,zF,zG,zH,zI,zJ,zK,zL,zM,zN,zO,zP,zQ,zR,zS,zT,zU,zV,zW,zX,zY,.slice (some ⟨gm, 0, none⟩) 4 4,.agg #[.int .i64 100, .int .i64 10],uB,uC,uD,uE,uF,uG,uH,uI,uJ,uK,uL,uM,uN,uO,uP,uQ,uR,uS,uT,uU,uV,uW,uX,uY,uZ,iA,iB,iC,iD,iE,iF,iG,iH,iI,iJ,iK,iL,iM,iN,iO,iP,iQ,iR,iS,iT,iU,iV,iW,iX,iY,iZ,oA,oB,oC,oD,oE,oF,oG,oH,oI,oJ,oK,oL,oM,oN,oO,oP,oQ,oR,oS,oT,oU,oV,oW,oX,oY,oZ,qA,qB], defers := [] } : Act) → Ext w W0 → F f_ l_ a_ W0 := by
  intro  f_ l_ W0 a_ hf_ hl_ ha_ s0
  subst hf_ hl_ ha_
  refine (hF.out _ _ _ _).2 ?_
  clear N1_0 N1_1 N1_2
  refine wpAnyH_ready (rs := [2, 7]) (by kernel_rfl) (by simp) ?_
  refine AllReadyH.cons (o := _) rfl (fun K hK => ?_) ?_
  ·skip
   refine tk_call (by kernel_rfl) (proofL_any 0 0 0 0 _) (by kernel_rfl) ?_; rintro e W1 ⟨rfl, e1⟩; refine ⟨_, rfl, ?_⟩
   have s1 := s0.trans e1
   refine hK.out _ _ s1 (fun _ => ?_)
   clear hK K
   try simp only [sxA, sxB, sxC, Act.put, sxD, sxE, sxF]
   refine (hF.out _ _ _ _).1 ?_
   exact N1_3 _ _ W1 _ (by first | rfl | kernel_rfl) (by first | rfl | kernel_rfl) (by (try simp only [sxA, sxB, sxC, Act.put, sxD, sxE, sxF]); first | done | with_reducible rfl | rfl) s1
  refine AllReadyH.cons (o := _) rfl (fun K hK => ?_) ?_
  ·skip
   go_simp
   refine hK.out _ _ (Ext.alloc s0 _) (fun _ => ?_)
   clear hK K
   try simp only [sxA, sxB, sxC, Act.put, sxD, sxE, sxF]
   refine name_any (fun W1 hW => ?_)
   have e1 : Ext W0 W1 := by rw [hW]; exact Ext.alloc (Ext.refl _) _
   have s1 := s0.trans e1
   have nb0 := hid (show W1.cell? ⟨W0.heap.size, 0, none⟩ = some (.int .i64 0) by rw [hW]; simp [go_sem])
   have nb1 := hid (show W1.cell? ⟨W0.heap.size, 1, none⟩ = some (.int .i64 0) by rw [hW]; simp [go_sem])
   have nd0 := hid (show W1.frozen? ⟨W0.heap.size, 0, none⟩ = false by rw [hW]; simp [go_sem])
   have nd1 := hid (show W1.frozen? ⟨W0.heap.size, 1, none⟩ = false by rw [hW]; simp [go_sem])
   clear hW
   refine (hF.out _ _ _ _).1 ?_
   exact N1_4 W0.heap.size _ _ W1 _ (by first | rfl | kernel_rfl) (by first | rfl | kernel_rfl) (by (try simp only [sxA, sxB, sxC, Act.put, sxD, sxE, sxF]); first | done | with_reducible rfl | rfl) s1 nb0 nb1 nd0 nd1 (hid s0.size)
  exact AllReadyH.nil
 rw [hA_.out]
 refine (hF.out _ _ _ _).2 ?_
 refine tkB (i := 0) (v := ?_) rfl hpan ?yl ?_
 case yl => (intro w hSw; have k_ := hRD_.out w hSw; go_simp); with_reducible rfl
 try simp only [sxA, sxB, sxC, Act.put, sxD, sxE, sxF]
 refine tkB (i := 1) (v := ?_) rfl hpan ?yl ?_
 case yl => (intro w hSw; have k_ := hRD_.out w hSw; go_simp); with_reducible rfl
 try simp only [sxA, sxB, sxC, Act.put, sxD, sxE, sxF]
 refine (hF.out _ _ _ _).1 ?_
 exact N1_5 _ _ W0 _ (by first | rfl | kernel_rfl) (by first | rfl | kernel_rfl) (by (try simp only [sxA, sxB, sxC, Act.put, sxD, sxE, sxF]); first | done | with_reducible rfl | rfl) s0
set_option maxHeartbeats 40000000 in
theorem stK7 {A_ : Act} {yA yB yE yF yG yH yI yJ yK yL yM yN yO yP yQ yR yS yT yU yV yW yX yY yZ zA zB zC zD zE zF zG zH zI zJ zK zL zM zN zO zP zQ zR zS zT zU zV zW zX zY zZ uA uB uC uD uE uF uG uH uI uJ uK uL uM uN uO uP uQ uR uS uT uU uV uW uX uY uZ iA iB iC iD iE iF iG iH iI iJ iK iL iM iN iO iP iQ iR iS iT iU iV iW iX iY iZ oA oB oC oD oE oF oG oH oI oJ oK oL oM oN oO oP oQ oR oS oT oU oV oW oX oY oZ qA qB : Value} {gv T : Nat} {w : World} (hA0_ : A_ = { tmps := #[yA, yB, .slice (some ⟨gv, 0, none⟩) 2 2, .pointer (some ⟨T, 0, none⟩), yE, yF, yG, yH, yI, yJ, yK, yL, yM, yN, yO, yP, yQ, yR, yS, yT, yU, yV, yW, yX, yY, yZ, zA, zB, zC, zD, zE, zF, zG, zH, zI, zJ, zK, zL, zM, zN, zO, zP, zQ, zR, zS, zT, zU, zV, zW, zX, zY, zZ, uA, uB, uC, uD, uE, uF, uG, uH, uI, uJ, uK, uL, uM, uN, uO, uP, uQ, uR, uS, uT, uU, uV, uW, uX, uY, uZ, iA, iB, iC, iD, iE, iF, iG, iH, iI, iJ, iK, iL, iM, iN, iO, iP, iQ, iR, iS, iT, iU, iV, iW, iX, iY, iZ, oA, oB, oC, oD, oE, oF, oG, oH, oI, oJ, oK, oL, oM, oN, oO, oP, oQ, oR, oS, oT, oU, oV, oW, oX, oY, oZ, qA, qB], defers := [] }) (hv : Mts w (some ⟨gv, 0, none⟩) vL) (t0 : w.cell? ⟨T, 0, none⟩ = some (.int .i64 100)) (t1 : w.cell? ⟨T, 1, none⟩ = some (.int .i64 10)) :
 Code.wp Try.prog (rgn Try.f16 7) (fun e a' w' => e = .normal ∧ a' = ({ tmps := #[yA,yB,.slice (some ⟨gv, 0, none⟩) 2 2,.pointer (some ⟨T, 0, none⟩),yE,yF,yG,yH,yI,yJ,yK,yL,yM,yN,yO,.int .i64 3,yQ,yR,yS,yT,yU,yV,yW,yX,yY,yZ,zA,zB,zC,zD,zE,zF,zG,zH,zI,zJ,zK,zL,zM,zN,zO,zP,zQ,zR,zS,zT,zU,zV,zW,zX,zY,zZ,uA,uB,uC,uD,uE,.slice (some ⟨gv, 0, none⟩) 2 2,.agg #[.int .i64 100, .int .i64 10],.agg #[.int .i64 1, .int .i64 220, .int .i64 1, .int .i64 0],.int .i64 3,uJ,uK,uL,uM,uN,uO,uP,uQ,uR,uS,uT,uU,uV,uW,uX,uY,uZ,iA,iB,iC,iD,iE,iF,iG,iH,iI,iJ,iK,iL,iM,iN,iO,iP,iQ,iR,iS,iT,iU,iV,iW,iX,iY,iZ,oA,oB,oC,oD,oE,oF,oG,oH,oI,oJ,oK,oL,oM,oN,oO,oP,oQ,oR,oS,oT,oU,oV,oW,oX,oY,oZ,qA,qB], defers := [] } : Act) ∧ Ext w w') A_ w := by
 conv => arg 2; whnf
 refine st_intro (fun Q2 hQ2 => ?_)
 have hA_ := hid hA0_
 clear hA0_
 have hpan : ∀ c a a' w w', Q2 (.panic c) a w → Q2 (.panic c) a' w' := by rw [hQ2]; rintro c a a' w w' ⟨h, _⟩; cases h
 replace hQ2 := hid hQ2
 replace hv := hid hv
 have hRD_ := hid (fun w' (x_ : Ext w w') => And.intro (Ext.cell x_ t0) (Ext.cell x_ t1))
 refine wp_region_held_drew (S := fun w' => Ext w w') (by kernel_rfl) exE fun hHeld => ?_
 try simp only [List.append_eq, List.cons_append, List.nil_append]
 refine name_any (fun W0 hW => ?_)
 have s0 : Ext w W0 := by rw [hW]; exact hHeld
 clear hW hHeld
 refine wpF_intro 5 (by kernel_rfl) (fun F hF => ?_)
 replace hF := hid hF
 have N1_0 : ∀ (f_ : Nat) (l_ : Array Bool) (W0 : World) (a_ : Act), f_ = 2 → l_ = #[true, true, true, false, false] → a_ = ({ tmps := #[yA,yB,.slice (some ⟨gv, 0, none⟩) 2 2,.pointer (some ⟨T, 0, none⟩),yE,yF,yG,yH,yI,yJ,yK,yL,yM,yN,yO,yP,yQ,yR,yS,yT,yU,yV,yW,yX,yY,yZ,zA,zB,zC,zD,zE,zF,zG,zH,zI,zJ,zK,zL,zM,zN,zO,zP,zQ,zR,zS,zT,zU,zV,zW,zX,zY,zZ,uA,uB,uC,uD,uE,.slice (some ⟨gv, 0, none⟩) 2 2,.agg #[.int .i64 100, .int .i64 10],.agg #[.int .i64 1, .int .i64 220, .int .i64 1, .int .i64 0],uI,uJ,uK,uL,uM,uN,uO,uP,uQ,uR,uS,uT,uU,uV,uW,uX,uY,uZ,iA,iB,iC,iD,iE,iF,iG,iH,iI,iJ,iK,iL,iM,iN,iO,iP,iQ,iR,iS,iT,iU,iV,iW,iX,iY,iZ,oA,oB,oC,oD,oE,oF,oG,oH,oI,oJ,oK,oL,oM,oN,oO,oP,oQ,oR,oS,oT,oU,oV,oW,oX,oY,oZ,qA,qB], defers := [] } : Act) → Ext w W0 → F f_ l_ a_ W0 := by
  intro  f_ l_ W0 a_ hf_ hl_ ha_ s0
  subst hf_ hl_ ha_
  refine (hF.out _ _ _ _).2 ?_
  refine wpAnyH_ready (rs := [3]) (by kernel_rfl) (by simp) ?_
  refine AllReadyH.cons (o := _) rfl (fun K hK => ?_) AllReadyH.nil
  refine tk_call (by kernel_rfl) (cNvrK _ 2 _ (hv.out.ext s0)) (by kernel_rfl) ?_; rintro e W1 ⟨rfl, e1⟩; refine ⟨_, rfl, ?_⟩
  have s1 := s0.trans e1
  refine hK.out _ _ s1 (fun _ => ?_)
  clear hK K
  try simp only [sxA, sxB, sxC, Act.put, sxD, sxE, sxF]
  refine tkB (i := 4) (v := ?_) rfl hpan ?yl ?_
  case yl => (intro w hSw; have k_ := hRD_.out w hSw; go_simp); with_reducible rfl
  try simp only [sxA, sxB, sxC, Act.put, sxD, sxE, sxF]
  refine wpAnyH_done (by kernel_rfl) ?_ _
  try simp only [sxA, sxB, sxC, Act.put, sxD, sxE, sxF]
  rw [hQ2.out]
  refine ⟨rfl, ?eq1_1, s1⟩
  case eq1_1 => (first | with_reducible rfl | rfl)
 have N1_1 : ∀ (f_ : Nat) (l_ : Array Bool) (W0 : World) (a_ : Act), f_ = 3 → l_ = #[true, true, false, false, false] → a_ = ({ tmps := #[yA,yB,.slice (some ⟨gv, 0, none⟩) 2 2,.pointer (some ⟨T, 0, none⟩),yE,yF,yG,yH,yI,yJ,yK,yL,yM,yN,yO,yP,yQ,yR,yS,yT,yU,yV,yW,yX,yY,yZ,zA,zB,zC,zD,zE,zF,zG,zH,zI,zJ,zK,zL,zM,zN,zO,zP,zQ,zR,zS,zT,zU,zV,zW,zX,zY,zZ,uA,uB,uC,uD,uE,.slice (some ⟨gv, 0, none⟩) 2 2,.agg #[.int .i64 100, .int .i64 10],uH,uI,uJ,uK,uL,uM,uN,uO,uP,uQ,uR,uS,uT,uU,uV,uW,uX,uY,uZ,iA,iB,iC,iD,iE,iF,iG,iH,iI,iJ,iK,iL,iM,iN,iO,iP,iQ,iR,iS,iT,iU,iV,iW,iX,iY,iZ,oA,oB,oC,oD,oE,oF,oG,oH,oI,oJ,oK,oL,oM,oN,oO,oP,oQ,oR,oS,oT,oU,oV,oW,oX,oY,oZ,qA,qB], defers := [] } : Act) → Ext w W0 → F f_ l_ a_ W0 := by
  intro  f_ l_ W0 a_ hf_ hl_ ha_ s0
  subst hf_ hl_ ha_
  refine (hF.out _ _ _ _).2 ?_
  refine wpAnyH_ready (rs := [2]) (by kernel_rfl) (by simp) ?_
  refine AllReadyH.cons (o := _) rfl (fun K hK => ?_) AllReadyH.nil
  refine tk_call (by kernel_rfl) (proofL_any 1 220 1 0 _) (by kernel_rfl) ?_; rintro e W1 ⟨rfl, e1⟩; refine ⟨_, rfl, ?_⟩
  have s1 := s0.trans e1
  refine hK.out _ _ s1 (fun _ => ?_)
  clear hK K
  try simp only [sxA, sxB, sxC, Act.put, sxD, sxE, sxF]
  refine (hF.out _ _ _ _).1 ?_
  exact N1_0 _ _ W1 _ (by first | rfl | kernel_rfl) (by first | rfl | kernel_rfl) (by (try simp only [sxA, sxB, sxC, Act.put, sxD, sxE, sxF]); first | done | with_reducible rfl | rfl) s1
 rw [hA_.out]
 refine (hF.out _ _ _ _).2 ?_
 refine tkB (i := 0) (v := ?_) rfl hpan ?yl ?_
 case yl => (intro w hSw; have k_ := hRD_.out w hSw; go_simp); with_reducible rfl
 try simp only [sxA, sxB, sxC, Act.put, sxD, sxE, sxF]
 refine tkB (i := 1) (v := ?_) rfl hpan ?yl ?_
 case yl => (intro w hSw; have k_ := hRD_.out w hSw; go_simp); with_reducible rfl
 try simp only [sxA, sxB, sxC, Act.put, sxD, sxE, sxF]
 refine (hF.out _ _ _ _).1 ?_
 exact N1_1 _ _ W0 _ (by first | rfl | kernel_rfl) (by first | rfl | kernel_rfl) (by (try simp only [sxA, sxB, sxC, Act.put, sxD, sxE, sxF]); first | done | with_reducible rfl | rfl) s0

end Go.Proofs.Ytpnfhcnnodolbaa
namespace Go.Proofs.Ytpnfhcnnodolbaa
set_option linter.unusedVariables false
set_option linter.unusedSimpArgs false
set_option linter.unusedSectionVars false
set_option linter.unnecessarySimpa false
open Go Go.RowKit Game
set_option maxRecDepth 100000
set_option maxHeartbeats 40000000 in
theorem stK9 {A_ : Act} {yA yC yJ yL yN yT yU yV yW yX yY yZ zA zB zC zD zE zF zG zH zI zJ zK zL zM zN zO zP zQ zR zS zT zU zV zW zX zY zZ uA uB uC uD uE uF uG uH uI uJ uK uL uM uN uO uP uQ uR uS uT uU uV uW uX uY uZ iA iB iC iD iE iF iG iH iI iJ iK iL iM iN iO iP iQ iR iS iT iU iV iW iX iY iZ oA oB oC oD oE oF oG oH oI oJ oK oL oM oN oO oP oQ oR oS oT oU oV oW oX oY oZ qA qB : Value} {gm T B4 B6 B7 B16 B17 : Nat} {w : World} (hA0_ : A_ = { tmps := #[yA, .slice (some ⟨gm, 0, none⟩) 4 4, yC, .pointer (some ⟨T, 0, none⟩), .pointer (some ⟨B4, 0, none⟩), .int .i64 0, .pointer (some ⟨B6, 0, none⟩), .pointer (some ⟨B7, 0, none⟩), .int .i64 0, yJ, .int .i64 17, yL, .int .i64 14, yN, .int .i64 3, .int .i64 3, .pointer (some ⟨B16, 0, none⟩), .pointer (some ⟨B17, 0, none⟩), .int .i64 0, yT, yU, yV, yW, yX, yY, yZ, zA, zB, zC, zD, zE, zF, zG, zH, zI, zJ, zK, zL, zM, zN, zO, zP, zQ, zR, zS, zT, zU, zV, zW, zX, zY, zZ, uA, uB, uC, uD, uE, uF, uG, uH, uI, uJ, uK, uL, uM, uN, uO, uP, uQ, uR, uS, uT, uU, uV, uW, uX, uY, uZ, iA, iB, iC, iD, iE, iF, iG, iH, iI, iJ, iK, iL, iM, iN, iO, iP, iQ, iR, iS, iT, iU, iV, iW, iX, iY, iZ, oA, oB, oC, oD, oE, oF, oG, oH, oI, oJ, oK, oL, oM, oN, oO, oP, oQ, oR, oS, oT, oU, oV, oW, oX, oY, oZ, qA, qB], defers := [] }) (hm : Mts w (some ⟨gm, 0, none⟩) mL) (t0 : w.cell? ⟨T, 0, none⟩ = some (.int .i64 100)) (t1 : w.cell? ⟨T, 1, none⟩ = some (.int .i64 10)) (b4_0 : w.cell? ⟨B4, 0, none⟩ = some (.int .i64 55)) (b4_1 : w.cell? ⟨B4, 1, none⟩ = some (.int .i64 1)) (b6_0 : w.cell? ⟨B6, 0, none⟩ = some (.int .i64 10)) (b6_1 : w.cell? ⟨B6, 1, none⟩ = some (.int .i64 1)) (b7_0 : w.cell? ⟨B7, 0, none⟩ = some (.int .i64 20)) (b7_1 : w.cell? ⟨B7, 1, none⟩ = some (.int .i64 1)) (b16_0 : w.cell? ⟨B16, 0, none⟩ = some (.int .i64 0)) (b16_1 : w.cell? ⟨B16, 1, none⟩ = some (.int .i64 1)) (b17_0 : w.cell? ⟨B17, 0, none⟩ = some (.int .i64 99)) (b17_1 : w.cell? ⟨B17, 1, none⟩ = some (.int .i64 100)) :
 Code.wp Try.prog (rgn Try.f16 9) (fun e a' w' => e = .normal ∧ a' = ({ tmps := #[.bool true,.slice (some ⟨gm, 0, none⟩) 4 4,yC,.pointer (some ⟨T, 0, none⟩),.pointer (some ⟨B4, 0, none⟩),.int .i64 0,.pointer (some ⟨B6, 0, none⟩),.pointer (some ⟨B7, 0, none⟩),.int .i64 0,yJ,.int .i64 17,yL,.int .i64 14,yN,.int .i64 3,.int .i64 3,.pointer (some ⟨B16, 0, none⟩),.pointer (some ⟨B17, 0, none⟩),.int .i64 0,yT,yU,yV,yW,yX,yY,yZ,zA,zB,zC,zD,zE,zF,zG,zH,zI,zJ,zK,zL,zM,zN,zO,zP,zQ,zR,zS,zT,zU,zV,zW,zX,zY,zZ,uA,uB,uC,uD,uE,uF,uG,uH,uI,uJ,uK,uL,uM,uN,uO,uP,.int .i64 0,.bool true,.bool true,.agg #[.int .i64 55, .int .i64 1],.agg #[.int .i64 55, .int .i64 1],.bool true,.bool true,.bool true,.int .i64 0,.bool true,.bool true,.bool true,.agg #[.int .i64 10, .int .i64 1],.agg #[.int .i64 10, .int .i64 1],.bool true,.bool true,.bool true,.agg #[.int .i64 20, .int .i64 1],.agg #[.int .i64 20, .int .i64 1],.bool true,.bool true,.bool true,.int .i64 17,.bool true,.bool true,.bool true,.int .i64 14,.bool true,.bool true,.bool true,.int .i64 3,.bool true,.bool true,.bool true,.int .i64 3,.bool true,.bool true,.bool true,.int .i64 0,.bool true,.bool true,.bool true,.agg #[.int .i64 0, .int .i64 1],.agg #[.int .i64 0, .int .i64 1],.bool true,.bool true,.bool true,.agg #[.int .i64 99, .int .i64 100],.agg #[.int .i64 99, .int .i64 100],.bool true,.bool true,.bool true,.slice (some ⟨gm, 0, none⟩) 4 4,.int .i64 0,.bool true,.bool true,.bool true,.agg #[.int .i64 100, .int .i64 10],.int .i64 0,.bool true,.bool true,.bool true,.bool true,.bool true], defers := [] } : Act) ∧ Ext w w') A_ w := by
 conv => arg 2; whnf
 refine st_intro (fun Q2 hQ2 => ?_)
 have hA_ := hid hA0_
 clear hA0_
 have hpan : ∀ c a a' w w', Q2 (.panic c) a w → Q2 (.panic c) a' w' := by rw [hQ2]; rintro c a a' w w' ⟨h, _⟩; cases h
 replace hQ2 := hid hQ2
 replace hm := hid hm
 have heq0 : ∀ w, (Op.equalIn 10000 29 (.agg #[.int .i64 0, .int .i64 1]) (.agg #[.int .i64 0, .int .i64 1])).run Try.prog w = .ok true w := fun w => by rw [run_eqRatio]; rfl
 have heq1 : ∀ w, (Op.equalIn 10000 29 (.agg #[.int .i64 10, .int .i64 1]) (.agg #[.int .i64 10, .int .i64 1])).run Try.prog w = .ok true w := fun w => by rw [run_eqRatio]; rfl
 have heq2 : ∀ w, (Op.equalIn 10000 29 (.agg #[.int .i64 20, .int .i64 1]) (.agg #[.int .i64 20, .int .i64 1])).run Try.prog w = .ok true w := fun w => by rw [run_eqRatio]; rfl
 have heq3 : ∀ w, (Op.equalIn 10000 29 (.agg #[.int .i64 55, .int .i64 1]) (.agg #[.int .i64 55, .int .i64 1])).run Try.prog w = .ok true w := fun w => by rw [run_eqRatio]; rfl
 have heq4 : ∀ w, (Op.equalIn 10000 29 (.agg #[.int .i64 99, .int .i64 100]) (.agg #[.int .i64 99, .int .i64 100])).run Try.prog w = .ok true w := fun w => by rw [run_eqRatio]; rfl
 have hRD_ := hid (fun w' (x_ : Ext w w') => And.intro (Ext.cell x_ t0) (And.intro (Ext.cell x_ t1) (And.intro (Ext.cell x_ b4_0) (And.intro (Ext.cell x_ b4_1) (And.intro (Ext.cell x_ b6_0) (And.intro (Ext.cell x_ b6_1) (And.intro (Ext.cell x_ b7_0) (And.intro (Ext.cell x_ b7_1) (And.intro (Ext.cell x_ b16_0) (And.intro (Ext.cell x_ b16_1) (And.intro (Ext.cell x_ b17_0) (Ext.cell x_ b17_1))))))))))))
 refine wp_region_held_drew (S := fun w' => Ext w w') (by kernel_rfl) exE fun hHeld => ?_
 try simp only [List.append_eq, List.cons_append, List.nil_append]
 refine name_any (fun W0 hW => ?_)
 have s0 : Ext w W0 := by rw [hW]; exact hHeld
 clear hW hHeld
 refine wpF_intro 65 (by kernel_rfl) (fun F hF => ?_)
 replace hF := hid hF
 have N1_0 : ∀ (f_ : Nat) (l_ : Array Bool) (W0 : World) (a_ : Act), f_ = 3 → l_ = #[true, true, true, true, true, true, true, true, true, true, true, true, true, true, true, true, true, true, true, true, true, true, true, true, true, true, true, true, true, true, true, true, true, true, true, true, true, true, true, true, true, true, true, true, true, true, true, true, true, true, true, true, true, true, true, true, true, true, true, true, true, true, false, false, false] → a_ = ({ tmps := #[yA,.slice (some ⟨gm, 0, none⟩) 4 4,yC,.pointer (some ⟨T, 0, none⟩),.pointer (some ⟨B4, 0, none⟩),.int .i64 0,.pointer (some ⟨B6, 0, none⟩),.pointer (some ⟨B7, 0, none⟩),.int .i64 0,yJ,.int .i64 17,yL,.int .i64 14,yN,.int .i64 3,.int .i64 3,.pointer (some ⟨B16, 0, none⟩),.pointer (some ⟨B17, 0, none⟩),.int .i64 0,yT,yU,yV,yW,yX,yY,yZ,zA,zB,zC,zD,zE,zF,zG,zH,zI,zJ,zK,zL,zM,zN,zO,zP,zQ,zR,zS,zT,zU,zV,zW,zX,zY,zZ,uA,uB,uC,uD,uE,uF,uG,uH,uI,uJ,uK,uL,uM,uN,uO,uP,.int .i64 0,.bool true,.bool true,.agg #[.int .i64 55, .int .i64 1],.agg #[.int .i64 55, .int .i64 1],.bool true,.bool true,.bool true,.int .i64 0,.bool true,.bool true,.bool true,.agg #[.int .i64 10, .int .i64 1],.agg #[.int .i64 10, .int .i64 1],.bool true,.bool true,.bool true,.agg #[.int .i64 20, .int .i64 1],.agg #[.int .i64 20, .int .i64 1],.bool true,.bool true,.bool true,.int .i64 17,.bool true,.bool true,.bool true,.int .i64 14,.bool true,.bool true,.bool true,.int .i64 3,.bool true,.bool true,.bool true,.int .i64 3,.bool true,.bool true,.bool true,.int .i64 0,.bool true,.bool true,.bool true,.agg #[.int .i64 0, .int .i64 1],.agg #[.int .i64 0, .int .i64 1],.bool true,.bool true,.bool true,.agg #[.int .i64 99, .int .i64 100],.agg #[.int .i64 99, .int .i64 100],.bool true,.bool true,.bool true,.slice (some ⟨gm, 0, none⟩) 4 4,.int .i64 0,.bool true,.bool true,.bool true,.agg #[.int .i64 100, .int .i64 10],.int .i64 0,.bool true,.bool true,.bool true,qA,qB], defers := [] } : Act) → Ext w W0 → F f_ l_ a_ W0 := by
  intro  f_ l_ W0 a_ hf_ hl_ ha_ s0
  subst hf_ hl_ ha_
  refine (hF.out _ _ _ _).2 ?_
  refine wpAnyH_ready (rs := [62]) (by kernel_rfl) (by simp) ?_
  refine AllReadyH.cons (o := _) rfl (fun K hK => ?_) AllReadyH.nil
  refine tk_call (by kernel_rfl) (works_any _) (by kernel_rfl) ?_; rintro e W1 ⟨rfl, e1⟩; refine ⟨_, rfl, ?_⟩
  have s1 := s0.trans e1
  refine hK.out _ _ s1 (fun _ => ?_)
  clear hK K
  try simp only [sxA, sxB, sxC, Act.put, sxD, sxE, sxF]
  refine tkB (i := 63) (v := ?_) rfl hpan ?yl ?_
  case yl => (intro w hSw; (try dsimp only at hSw);  go_simp); with_reducible rfl
  try simp only [sxA, sxB, sxC, Act.put, sxD, sxE, sxF]
  refine tkB (i := 64) (v := ?_) rfl hpan ?yl ?_
  case yl => (intro w hSw; (try dsimp only at hSw);  go_simp); with_reducible rfl
  try simp only [sxA, sxB, sxC, Act.put, sxD, sxE, sxF]
  refine wpAnyH_done (by kernel_rfl) ?_ _
  try simp only [sxA, sxB, sxC, Act.put, sxD, sxE, sxF]
  rw [hQ2.out]
  refine ⟨rfl, ?eq1_1, s1⟩
  case eq1_1 => (first | with_reducible rfl | rfl)
 have N1_1 : ∀ (f_ : Nat) (l_ : Array Bool) (W0 : World) (a_ : Act), f_ = 7 → l_ = #[true, true, true, true, true, true, true, true, true, true, true, true, true, true, true, true, true, true, true, true, true, true, true, true, true, true, true, true, true, true, true, true, true, true, true, true, true, true, true, true, true, true, true, true, true, true, true, true, true, true, true, true, true, true, true, true, true, true, false, false, false, false, false, false, false] → a_ = ({ tmps := #[yA,.slice (some ⟨gm, 0, none⟩) 4 4,yC,.pointer (some ⟨T, 0, none⟩),.pointer (some ⟨B4, 0, none⟩),.int .i64 0,.pointer (some ⟨B6, 0, none⟩),.pointer (some ⟨B7, 0, none⟩),.int .i64 0,yJ,.int .i64 17,yL,.int .i64 14,yN,.int .i64 3,.int .i64 3,.pointer (some ⟨B16, 0, none⟩),.pointer (some ⟨B17, 0, none⟩),.int .i64 0,yT,yU,yV,yW,yX,yY,yZ,zA,zB,zC,zD,zE,zF,zG,zH,zI,zJ,zK,zL,zM,zN,zO,zP,zQ,zR,zS,zT,zU,zV,zW,zX,zY,zZ,uA,uB,uC,uD,uE,uF,uG,uH,uI,uJ,uK,uL,uM,uN,uO,uP,.int .i64 0,.bool true,.bool true,.agg #[.int .i64 55, .int .i64 1],.agg #[.int .i64 55, .int .i64 1],.bool true,.bool true,.bool true,.int .i64 0,.bool true,.bool true,.bool true,.agg #[.int .i64 10, .int .i64 1],.agg #[.int .i64 10, .int .i64 1],.bool true,.bool true,.bool true,.agg #[.int .i64 20, .int .i64 1],.agg #[.int .i64 20, .int .i64 1],.bool true,.bool true,.bool true,.int .i64 17,.bool true,.bool true,.bool true,.int .i64 14,.bool true,.bool true,.bool true,.int .i64 3,.bool true,.bool true,.bool true,.int .i64 3,.bool true,.bool true,.bool true,.int .i64 0,.bool true,.bool true,.bool true,.agg #[.int .i64 0, .int .i64 1],.agg #[.int .i64 0, .int .i64 1],.bool true,.bool true,.bool true,.agg #[.int .i64 99, .int .i64 100],.agg #[.int .i64 99, .int .i64 100],.bool true,.bool true,.bool true,.slice (some ⟨gm, 0, none⟩) 4 4,.int .i64 0,.bool true,.bool true,.bool true,.agg #[.int .i64 100, .int .i64 10],oW,oX,oY,oZ,qA,qB], defers := [] } : Act) → Ext w W0 → F f_ l_ a_ W0 := by
  intro  f_ l_ W0 a_ hf_ hl_ ha_ s0
  subst hf_ hl_ ha_
  refine (hF.out _ _ _ _).2 ?_
  refine wpAnyH_ready (rs := [58]) (by kernel_rfl) (by simp) ?_
  refine AllReadyH.cons (o := _) rfl (fun K hK => ?_) AllReadyH.nil
  refine tk_call (by kernel_rfl) (cTchK _) (by kernel_rfl) ?_; rintro e W1 ⟨rfl, e1⟩; refine ⟨_, rfl, ?_⟩
  have s1 := s0.trans e1
  refine hK.out _ _ s1 (fun _ => ?_)
  clear hK K
  try simp only [sxA, sxB, sxC, Act.put, sxD, sxE, sxF]
  refine tkB (i := 59) (v := ?_) rfl hpan ?yl ?_
  case yl => (intro w hSw; (try dsimp only at hSw);  go_simp); with_reducible rfl
  try simp only [sxA, sxB, sxC, Act.put, sxD, sxE, sxF]
  refine tkB (i := 60) (v := ?_) rfl hpan ?yl ?_
  case yl => (intro w hSw; (try dsimp only at hSw);  go_simp); with_reducible rfl
  try simp only [sxA, sxB, sxC, Act.put, sxD, sxE, sxF]
  refine tkB (i := 61) (v := ?_) rfl hpan ?yl ?_
  case yl => (intro w hSw; (try dsimp only at hSw);  go_simp); with_reducible rfl
  try simp only [sxA, sxB, sxC, Act.put, sxD, sxE, sxF]
  refine (hF.out _ _ _ _).1 ?_
  exact N1_0 _ _ W1 _ (by first | rfl | kernel_rfl) (by first | rfl | kernel_rfl) (by (try simp only [sxA, sxB, sxC, Act.put, sxD, sxE, sxF]); first | done | with_reducible rfl | rfl) s1
 have N1_2 : ∀ (f_ : Nat) (l_ : Array Bool) (W0 : World) (a_ : Act), f_ = 12 → l_ = #[true, true, true, true, true, true, true, true, true, true, true, true, true, true, true, true, true, true, true, true, true, true, true, true, true, true, true, true, true, true, true, true, true, true, true, true, true, true, true, true, true, true, true, true, true, true, true, true, true, true, true, true, true, false, false, false, false, false, false, false, false, false, false, false, false] → a_ = ({ tmps := #[yA,.slice (some ⟨gm, 0, none⟩) 4 4,yC,.pointer (some ⟨T, 0, none⟩),.pointer (some ⟨B4, 0, none⟩),.int .i64 0,.pointer (some ⟨B6, 0, none⟩),.pointer (some ⟨B7, 0, none⟩),.int .i64 0,yJ,.int .i64 17,yL,.int .i64 14,yN,.int .i64 3,.int .i64 3,.pointer (some ⟨B16, 0, none⟩),.pointer (some ⟨B17, 0, none⟩),.int .i64 0,yT,yU,yV,yW,yX,yY,yZ,zA,zB,zC,zD,zE,zF,zG,zH,zI,zJ,zK,zL,zM,zN,zO,zP,zQ,zR,zS,zT,zU,zV,zW,zX,zY,zZ,uA,uB,uC,uD,uE,uF,uG,uH,uI,uJ,uK,uL,uM,uN,uO,uP,.int .i64 0,.bool true,.bool true,.agg #[.int .i64 55, .int .i64 1],.agg #[.int .i64 55, .int .i64 1],.bool true,.bool true,.bool true,.int .i64 0,.bool true,.bool true,.bool true,.agg #[.int .i64 10, .int .i64 1],.agg #[.int .i64 10, .int .i64 1],.bool true,.bool true,.bool true,.agg #[.int .i64 20, .int .i64 1],.agg #[.int .i64 20, .int .i64 1],.bool true,.bool true,.bool true,.int .i64 17,.bool true,.bool true,.bool true,.int .i64 14,.bool true,.bool true,.bool true,.int .i64 3,.bool true,.bool true,.bool true,.int .i64 3,.bool true,.bool true,.bool true,.int .i64 0,.bool true,.bool true,.bool true,.agg #[.int .i64 0, .int .i64 1],.agg #[.int .i64 0, .int .i64 1],.bool true,.bool true,.bool true,.agg #[.int .i64 99, .int .i64 100],.agg #[.int .i64 99, .int .i64 100],.bool true,.bool true,.bool true,.slice (some ⟨gm, 0, none⟩) 4 4,oR,oS,oT,oU,oV,oW,oX,oY,oZ,qA,qB], defers := [] } : Act) → Ext w W0 → F f_ l_ a_ W0 := by
  intro  f_ l_ W0 a_ hf_ hl_ ha_ s0
  subst hf_ hl_ ha_
  refine (hF.out _ _ _ _).2 ?_
  clear N1_0
  refine wpAnyH_ready (rs := [53]) (by kernel_rfl) (by simp) ?_
  refine AllReadyH.cons (o := _) rfl (fun K hK => ?_) AllReadyH.nil
  refine tk_call (by kernel_rfl) (cChkK _ 4 _ (hm.out.ext s0)) (by kernel_rfl) ?_; rintro e W1 ⟨rfl, e1⟩; refine ⟨_, rfl, ?_⟩
  have s1 := s0.trans e1
  refine hK.out _ _ s1 (fun _ => ?_)
  clear hK K
  try simp only [sxA, sxB, sxC, Act.put, sxD, sxE, sxF]
  refine tkB (i := 54) (v := ?_) rfl hpan ?yl ?_
  case yl => (intro w hSw; (try dsimp only at hSw);  go_simp); with_reducible rfl
  try simp only [sxA, sxB, sxC, Act.put, sxD, sxE, sxF]
  refine tkB (i := 55) (v := ?_) rfl hpan ?yl ?_
  case yl => (intro w hSw; (try dsimp only at hSw);  go_simp); with_reducible rfl
  try simp only [sxA, sxB, sxC, Act.put, sxD, sxE, sxF]
  refine tkB (i := 56) (v := ?_) rfl hpan ?yl ?_
  case yl => (intro w hSw; (try dsimp only at hSw);  go_simp); with_reducible rfl
  try simp only [sxA, sxB, sxC, Act.put, sxD, sxE, sxF]
  refine tkB (i := 57) (v := ?_) rfl hpan ?yl ?_
  case yl => (intro w hSw; have k_ := hRD_.out w hSw; go_simp); with_reducible rfl
  try simp only [sxA, sxB, sxC, Act.put, sxD, sxE, sxF]
  refine (hF.out _ _ _ _).1 ?_
  exact N1_1 _ _ W1 _ (by first | rfl | kernel_rfl) (by first | rfl | kernel_rfl) (by (try simp only [sxA, sxB, sxC, Act.put, sxD, sxE, sxF]); first | done | with_reducible rfl | rfl) s1
 have N1_3 : ∀ (f_ : Nat) (l_ : Array Bool) (W0 : World) (a_ : Act), f_ = 17 → l_ = #[true, true, true, true, true, true, true, true, true, true, true, true, true, true, true, true, true, true, true, true, true, true, true, true, true, true, true, true, true, true, true, true, true, true, true, true, true, true, true, true, true, true, true, true, true, true, true, true, false, false, false, false, false, false, false, false, false, false, false, false, false, false, false, false, false] → a_ = ({ tmps := #[yA,.slice (some ⟨gm, 0, none⟩) 4 4,yC,.pointer (some ⟨T, 0, none⟩),.pointer (some ⟨B4, 0, none⟩),.int .i64 0,.pointer (some ⟨B6, 0, none⟩),.pointer (some ⟨B7, 0, none⟩),.int .i64 0,yJ,.int .i64 17,yL,.int .i64 14,yN,.int .i64 3,.int .i64 3,.pointer (some ⟨B16, 0, none⟩),.pointer (some ⟨B17, 0, none⟩),.int .i64 0,yT,yU,yV,yW,yX,yY,yZ,zA,zB,zC,zD,zE,zF,zG,zH,zI,zJ,zK,zL,zM,zN,zO,zP,zQ,zR,zS,zT,zU,zV,zW,zX,zY,zZ,uA,uB,uC,uD,uE,uF,uG,uH,uI,uJ,uK,uL,uM,uN,uO,uP,.int .i64 0,.bool true,.bool true,.agg #[.int .i64 55, .int .i64 1],.agg #[.int .i64 55, .int .i64 1],.bool true,.bool true,.bool true,.int .i64 0,.bool true,.bool true,.bool true,.agg #[.int .i64 10, .int .i64 1],.agg #[.int .i64 10, .int .i64 1],.bool true,.bool true,.bool true,.agg #[.int .i64 20, .int .i64 1],.agg #[.int .i64 20, .int .i64 1],.bool true,.bool true,.bool true,.int .i64 17,.bool true,.bool true,.bool true,.int .i64 14,.bool true,.bool true,.bool true,.int .i64 3,.bool true,.bool true,.bool true,.int .i64 3,.bool true,.bool true,.bool true,.int .i64 0,.bool true,.bool true,.bool true,.agg #[.int .i64 0, .int .i64 1],.agg #[.int .i64 0, .int .i64 1],.bool true,.bool true,.bool true,.agg #[.int .i64 99, .int .i64 100],oM,oN,oO,oP,oQ,oR,oS,oT,oU,oV,oW,oX,oY,oZ,qA,qB], defers := [] } : Act) → Ext w W0 → F f_ l_ a_ W0 := by
  intro  f_ l_ W0 a_ hf_ hl_ ha_ s0
  subst hf_ hl_ ha_
  refine (hF.out _ _ _ _).2 ?_
  clear N1_0 N1_1
  refine wpAnyH_ready (rs := [48]) (by kernel_rfl) (by simp) ?_
  refine AllReadyH.cons (o := _) rfl (fun K hK => ?_) AllReadyH.nil
  refine tk_call (by kernel_rfl) (byL_any 99 100 _) (by kernel_rfl) ?_; rintro e W1 ⟨rfl, e1⟩; refine ⟨_, rfl, ?_⟩
  have s1 := s0.trans e1
  refine hK.out _ _ s1 (fun _ => ?_)
  clear hK K
  try simp only [sxA, sxB, sxC, Act.put, sxD, sxE, sxF]
  refine tkB (i := 49) (v := ?_) rfl hpan ?yl ?_
  case yl => (intro w hSw; (try dsimp only at hSw);  go_simp); with_reducible rfl
  try simp only [sxA, sxB, sxC, Act.put, sxD, sxE, sxF]
  refine tkB (i := 50) (v := ?_) rfl hpan ?yl ?_
  case yl => (intro w hSw; (try dsimp only at hSw);  go_simp); with_reducible rfl
  try simp only [sxA, sxB, sxC, Act.put, sxD, sxE, sxF]
  refine tkB (i := 51) (v := ?_) rfl hpan ?yl ?_
  case yl => (intro w hSw; (try dsimp only at hSw);  go_simp); with_reducible rfl
  try simp only [sxA, sxB, sxC, Act.put, sxD, sxE, sxF]
  refine tkB (i := 52) (v := ?_) rfl hpan ?yl ?_
  case yl => (intro w hSw; (try dsimp only at hSw);  go_simp); with_reducible rfl
  try simp only [sxA, sxB, sxC, Act.put, sxD, sxE, sxF]
  refine (hF.out _ _ _ _).1 ?_
  exact N1_2 _ _ W1 _ (by first | rfl | kernel_rfl) (by first | rfl | kernel_rfl) (by (try simp only [sxA, sxB, sxC, Act.put, sxD, sxE, sxF]); first | done | with_reducible rfl | rfl) s1
 have N1_4 : ∀ (f_ : Nat) (l_ : Array Bool) (W0 : World) (a_ : Act), f_ = 22 → l_ = #[true, true, true, true, true, true, true, true, true, true, true, true, true, true, true, true, true, true, true, true, true, true, true, true, true, true, true, true, true, true, true, true, true, true, true, true, true, true, true, true, true, true, true, false, false, false, false, false, false, false, false, false, false, false, false, false, false, false, false, false, false, false, false, false, false] → a_ = ({ tmps := #[yA,.slice (some ⟨gm, 0, none⟩) 4 4,yC,.pointer (some ⟨T, 0, none⟩),.pointer (some ⟨B4, 0, none⟩),.int .i64 0,.pointer (some ⟨B6, 0, none⟩),.pointer (some ⟨B7, 0, none⟩),.int .i64 0,yJ,.int .i64 17,yL,.int .i64 14,yN,.int .i64 3,.int .i64 3,.pointer (some ⟨B16, 0, none⟩),.pointer (some ⟨B17, 0, none⟩),.int .i64 0,yT,yU,yV,yW,yX,yY,yZ,zA,zB,zC,zD,zE,zF,zG,zH,zI,zJ,zK,zL,zM,zN,zO,zP,zQ,zR,zS,zT,zU,zV,zW,zX,zY,zZ,uA,uB,uC,uD,uE,uF,uG,uH,uI,uJ,uK,uL,uM,uN,uO,uP,.int .i64 0,.bool true,.bool true,.agg #[.int .i64 55, .int .i64 1],.agg #[.int .i64 55, .int .i64 1],.bool true,.bool true,.bool true,.int .i64 0,.bool true,.bool true,.bool true,.agg #[.int .i64 10, .int .i64 1],.agg #[.int .i64 10, .int .i64 1],.bool true,.bool true,.bool true,.agg #[.int .i64 20, .int .i64 1],.agg #[.int .i64 20, .int .i64 1],.bool true,.bool true,.bool true,.int .i64 17,.bool true,.bool true,.bool true,.int .i64 14,.bool true,.bool true,.bool true,.int .i64 3,.bool true,.bool true,.bool true,.int .i64 3,.bool true,.bool true,.bool true,.int .i64 0,.bool true,.bool true,.bool true,.agg #[.int .i64 0, .int .i64 1],oH,oI,oJ,oK,oL,oM,oN,oO,oP,oQ,oR,oS,oT,oU,oV,oW,oX,oY,oZ,qA,qB], defers := [] } : Act) → Ext w W0 → F f_ l_ a_ W0 := by
  intro  f_ l_ W0 a_ hf_ hl_ ha_ s0
  subst hf_ hl_ ha_
  refine (hF.out _ _ _ _).2 ?_
  clear N1_0 N1_1 N1_2
  refine wpAnyH_ready (rs := [43]) (by kernel_rfl) (by simp) ?_
  refine AllReadyH.cons (o := _) rfl (fun K hK => ?_) AllReadyH.nil
  refine tk_call (by kernel_rfl) (byL_any 0 1 _) (by kernel_rfl) ?_; rintro e W1 ⟨rfl, e1⟩; refine ⟨_, rfl, ?_⟩
  have s1 := s0.trans e1
  refine hK.out _ _ s1 (fun _ => ?_)
  clear hK K
  try simp only [sxA, sxB, sxC, Act.put, sxD, sxE, sxF]
  refine tkB (i := 44) (v := ?_) rfl hpan ?yl ?_
  case yl => (intro w hSw; (try dsimp only at hSw);  go_simp); with_reducible rfl
  try simp only [sxA, sxB, sxC, Act.put, sxD, sxE, sxF]
  refine tkB (i := 45) (v := ?_) rfl hpan ?yl ?_
  case yl => (intro w hSw; (try dsimp only at hSw);  go_simp); with_reducible rfl
  try simp only [sxA, sxB, sxC, Act.put, sxD, sxE, sxF]
  refine tkB (i := 46) (v := ?_) rfl hpan ?yl ?_
  case yl => (intro w hSw; (try dsimp only at hSw);  go_simp); with_reducible rfl
  try simp only [sxA, sxB, sxC, Act.put, sxD, sxE, sxF]
  refine tkB (i := 47) (v := ?_) rfl hpan ?yl ?_
  case yl => (intro w hSw; have k_ := hRD_.out w hSw; go_simp); with_reducible rfl
  try simp only [sxA, sxB, sxC, Act.put, sxD, sxE, sxF]
  refine (hF.out _ _ _ _).1 ?_
  exact N1_3 _ _ W1 _ (by first | rfl | kernel_rfl) (by first | rfl | kernel_rfl) (by (try simp only [sxA, sxB, sxC, Act.put, sxD, sxE, sxF]); first | done | with_reducible rfl | rfl) s1
 have N1_5 : ∀ (f_ : Nat) (l_ : Array Bool) (W0 : World) (a_ : Act), f_ = 47 → l_ = #[true, true, true, true, true, true, true, true, true, true, true, true, true, true, true, true, true, true, false, false, false, false, false, false, false, false, false, false, false, false, false, false, false, false, false, false, false, false, false, false, false, false, false, false, false, false, false, false, false, false, false, false, false, false, false, false, false, false, false, false, false, false, false, false, false] → a_ = ({ tmps := #[yA,.slice (some ⟨gm, 0, none⟩) 4 4,yC,.pointer (some ⟨T, 0, none⟩),.pointer (some ⟨B4, 0, none⟩),.int .i64 0,.pointer (some ⟨B6, 0, none⟩),.pointer (some ⟨B7, 0, none⟩),.int .i64 0,yJ,.int .i64 17,yL,.int .i64 14,yN,.int .i64 3,.int .i64 3,.pointer (some ⟨B16, 0, none⟩),.pointer (some ⟨B17, 0, none⟩),.int .i64 0,yT,yU,yV,yW,yX,yY,yZ,zA,zB,zC,zD,zE,zF,zG,zH,zI,zJ,zK,zL,zM,zN,zO,zP,zQ,zR,zS,zT,zU,zV,zW,zX,zY,zZ,uA,uB,uC,uD,uE,uF,uG,uH,uI,uJ,uK,uL,uM,uN,uO,uP,.int .i64 0,.bool true,.bool true,.agg #[.int .i64 55, .int .i64 1],.agg #[.int .i64 55, .int .i64 1],.bool true,.bool true,.bool true,.int .i64 0,.bool true,.bool true,.bool true,.agg #[.int .i64 10, .int .i64 1],.agg #[.int .i64 10, .int .i64 1],.bool true,.bool true,.bool true,.agg #[.int .i64 20, .int .i64 1],iI,iJ,iK,iL,iM,iN,iO,iP,iQ,iR,iS,iT,iU,iV,iW,iX,iY,iZ,oA,oB,oC,oD,oE,oF,oG,oH,oI,oJ,oK,oL,oM,oN,oO,oP,oQ,oR,oS,oT,oU,oV,oW,oX,oY,oZ,qA,qB], defers := [] } : Act) → Ext w W0 → F f_ l_ a_ W0 := by
  intro  f_ l_ W0 a_ hf_ hl_ ha_ s0
  subst hf_ hl_ ha_
  refine (hF.out _ _ _ _).2 ?_
  clear N1_0 N1_1 N1_2 N1_3
  refine wpAnyH_ready (rs := [18]) (by kernel_rfl) (by simp) ?_
  refine AllReadyH.cons (o := _) rfl (fun K hK => ?_) AllReadyH.nil
  refine tk_call (by kernel_rfl) (byL_any 20 1 _) (by kernel_rfl) ?_; rintro e W1 ⟨rfl, e1⟩; refine ⟨_, rfl, ?_⟩
  have s1 := s0.trans e1
  refine hK.out _ _ s1 (fun _ => ?_)
  clear hK K
  try simp only [sxA, sxB, sxC, Act.put, sxD, sxE, sxF]
  refine tkB (i := 19) (v := ?_) rfl hpan ?yl ?_
  case yl => (intro w hSw; (try dsimp only at hSw);  go_simp); with_reducible rfl
  try simp only [sxA, sxB, sxC, Act.put, sxD, sxE, sxF]
  refine tkB (i := 20) (v := ?_) rfl hpan ?yl ?_
  case yl => (intro w hSw; (try dsimp only at hSw);  go_simp); with_reducible rfl
  try simp only [sxA, sxB, sxC, Act.put, sxD, sxE, sxF]
  refine tkB (i := 21) (v := ?_) rfl hpan ?yl ?_
  case yl => (intro w hSw; (try dsimp only at hSw);  go_simp); with_reducible rfl
  try simp only [sxA, sxB, sxC, Act.put, sxD, sxE, sxF]
  refine tkB (i := 22) (v := ?_) rfl hpan ?yl ?_
  case yl => (intro w hSw; (try dsimp only at hSw);  go_simp); with_reducible rfl
  try simp only [sxA, sxB, sxC, Act.put, sxD, sxE, sxF]
  refine tkB (i := 23) (v := ?_) rfl hpan ?yl ?_
  case yl => (intro w hSw; (try dsimp only at hSw);  go_simp); with_reducible rfl
  try simp only [sxA, sxB, sxC, Act.put, sxD, sxE, sxF]
  refine tkB (i := 24) (v := ?_) rfl hpan ?yl ?_
  case yl => (intro w hSw; (try dsimp only at hSw);  go_simp); with_reducible rfl
  try simp only [sxA, sxB, sxC, Act.put, sxD, sxE, sxF]
  refine tkB (i := 25) (v := ?_) rfl hpan ?yl ?_
  case yl => (intro w hSw; (try dsimp only at hSw);  go_simp); with_reducible rfl
  try simp only [sxA, sxB, sxC, Act.put, sxD, sxE, sxF]
  refine tkB (i := 26) (v := ?_) rfl hpan ?yl ?_
  case yl => (intro w hSw; (try dsimp only at hSw);  go_simp); with_reducible rfl
  try simp only [sxA, sxB, sxC, Act.put, sxD, sxE, sxF]
  refine tkB (i := 27) (v := ?_) rfl hpan ?yl ?_
  case yl => (intro w hSw; (try dsimp only at hSw);  go_simp); with_reducible rfl
  try simp only [sxA, sxB, sxC, Act.put, sxD, sxE, sxF]
  refine tkB (i := 28) (v := ?_) rfl hpan ?yl ?_
  case yl => (intro w hSw; (try dsimp only at hSw);  go_simp); with_reducible rfl
  try simp only [sxA, sxB, sxC, Act.put, sxD, sxE, sxF]
  refine tkB (i := 29) (v := ?_) rfl hpan ?yl ?_
  case yl => (intro w hSw; (try dsimp only at hSw);  go_simp); with_reducible rfl
  try simp only [sxA, sxB, sxC, Act.put, sxD, sxE, sxF]
  refine tkB (i := 30) (v := ?_) rfl hpan ?yl ?_
  case yl => (intro w hSw; (try dsimp only at hSw);  go_simp); with_reducible rfl
  try simp only [sxA, sxB, sxC, Act.put, sxD, sxE, sxF]
  refine tkB (i := 31) (v := ?_) rfl hpan ?yl ?_
  case yl => (intro w hSw; (try dsimp only at hSw);  go_simp); with_reducible rfl
  try simp only [sxA, sxB, sxC, Act.put, sxD, sxE, sxF]
  refine tkB (i := 32) (v := ?_) rfl hpan ?yl ?_
  case yl => (intro w hSw; (try dsimp only at hSw);  go_simp); with_reducible rfl
  try simp only [sxA, sxB, sxC, Act.put, sxD, sxE, sxF]
  refine tkB (i := 33) (v := ?_) rfl hpan ?yl ?_
  case yl => (intro w hSw; (try dsimp only at hSw);  go_simp); with_reducible rfl
  try simp only [sxA, sxB, sxC, Act.put, sxD, sxE, sxF]
  refine tkB (i := 34) (v := ?_) rfl hpan ?yl ?_
  case yl => (intro w hSw; (try dsimp only at hSw);  go_simp); with_reducible rfl
  try simp only [sxA, sxB, sxC, Act.put, sxD, sxE, sxF]
  refine tkB (i := 35) (v := ?_) rfl hpan ?yl ?_
  case yl => (intro w hSw; (try dsimp only at hSw);  go_simp); with_reducible rfl
  try simp only [sxA, sxB, sxC, Act.put, sxD, sxE, sxF]
  refine tkB (i := 36) (v := ?_) rfl hpan ?yl ?_
  case yl => (intro w hSw; (try dsimp only at hSw);  go_simp); with_reducible rfl
  try simp only [sxA, sxB, sxC, Act.put, sxD, sxE, sxF]
  refine tkB (i := 37) (v := ?_) rfl hpan ?yl ?_
  case yl => (intro w hSw; (try dsimp only at hSw);  go_simp); with_reducible rfl
  try simp only [sxA, sxB, sxC, Act.put, sxD, sxE, sxF]
  refine tkB (i := 38) (v := ?_) rfl hpan ?yl ?_
  case yl => (intro w hSw; (try dsimp only at hSw);  go_simp); with_reducible rfl
  try simp only [sxA, sxB, sxC, Act.put, sxD, sxE, sxF]
  refine tkB (i := 39) (v := ?_) rfl hpan ?yl ?_
  case yl => (intro w hSw; (try dsimp only at hSw);  go_simp); with_reducible rfl
  try simp only [sxA, sxB, sxC, Act.put, sxD, sxE, sxF]
  refine tkB (i := 40) (v := ?_) rfl hpan ?yl ?_
  case yl => (intro w hSw; (try dsimp only at hSw);  go_simp); with_reducible rfl
  try simp only [sxA, sxB, sxC, Act.put, sxD, sxE, sxF]
  refine tkB (i := 41) (v := ?_) rfl hpan ?yl ?_
  case yl => (intro w hSw; (try dsimp only at hSw);  go_simp); with_reducible rfl
  try simp only [sxA, sxB, sxC, Act.put, sxD, sxE, sxF]
  refine tkB (i := 42) (v := ?_) rfl hpan ?yl ?_
  case yl => (intro w hSw; have k_ := hRD_.out w hSw; go_simp); with_reducible rfl
  try simp only [sxA, sxB, sxC, Act.put, sxD, sxE, sxF]
  refine (hF.out _ _ _ _).1 ?_
  exact N1_4 _ _ W1 _ (by first | rfl | kernel_rfl) (by first | rfl | kernel_rfl) (by (try simp only [sxA, sxB, sxC, Act.put, sxD, sxE, sxF]); first | done | with_reducible rfl | rfl) s1
 have N1_6 : ∀ (f_ : Nat) (l_ : Array Bool) (W0 : World) (a_ : Act), f_ = 52 → l_ = #[true, true, true, true, true, true, true, true, true, true, true, true, true, false, false, false, false, false, false, false, false, false, false, false, false, false, false, false, false, false, false, false, false, false, false, false, false, false, false, false, false, false, false, false, false, false, false, false, false, false, false, false, false, false, false, false, false, false, false, false, false, false, false, false, false] → a_ = ({ tmps := #[yA,.slice (some ⟨gm, 0, none⟩) 4 4,yC,.pointer (some ⟨T, 0, none⟩),.pointer (some ⟨B4, 0, none⟩),.int .i64 0,.pointer (some ⟨B6, 0, none⟩),.pointer (some ⟨B7, 0, none⟩),.int .i64 0,yJ,.int .i64 17,yL,.int .i64 14,yN,.int .i64 3,.int .i64 3,.pointer (some ⟨B16, 0, none⟩),.pointer (some ⟨B17, 0, none⟩),.int .i64 0,yT,yU,yV,yW,yX,yY,yZ,zA,zB,zC,zD,zE,zF,zG,zH,zI,zJ,zK,zL,zM,zN,zO,zP,zQ,zR,zS,zT,zU,zV,zW,zX,zY,zZ,uA,uB,uC,uD,uE,uF,uG,uH,uI,uJ,uK,uL,uM,uN,uO,uP,.int .i64 0,.bool true,.bool true,.agg #[.int .i64 55, .int .i64 1],.agg #[.int .i64 55, .int .i64 1],.bool true,.bool true,.bool true,.int .i64 0,.bool true,.bool true,.bool true,.agg #[.int .i64 10, .int .i64 1],iD,iE,iF,iG,iH,iI,iJ,iK,iL,iM,iN,iO,iP,iQ,iR,iS,iT,iU,iV,iW,iX,iY,iZ,oA,oB,oC,oD,oE,oF,oG,oH,oI,oJ,oK,oL,oM,oN,oO,oP,oQ,oR,oS,oT,oU,oV,oW,oX,oY,oZ,qA,qB], defers := [] } : Act) → Ext w W0 → F f_ l_ a_ W0 := by
  intro  f_ l_ W0 a_ hf_ hl_ ha_ s0
  subst hf_ hl_ ha_
  refine (hF.out _ _ _ _).2 ?_
  clear N1_0 N1_1 N1_2 N1_3 N1_4
  refine wpAnyH_ready (rs := [13]) (by kernel_rfl) (by simp) ?_
  refine AllReadyH.cons (o := _) rfl (fun K hK => ?_) AllReadyH.nil
  refine tk_call (by kernel_rfl) (byL_any 10 1 _) (by kernel_rfl) ?_; rintro e W1 ⟨rfl, e1⟩; refine ⟨_, rfl, ?_⟩
  have s1 := s0.trans e1
  refine hK.out _ _ s1 (fun _ => ?_)
  clear hK K
  try simp only [sxA, sxB, sxC, Act.put, sxD, sxE, sxF]
  refine tkB (i := 14) (v := ?_) rfl hpan ?yl ?_
  case yl => (intro w hSw; (try dsimp only at hSw);  go_simp); with_reducible rfl
  try simp only [sxA, sxB, sxC, Act.put, sxD, sxE, sxF]
  refine tkB (i := 15) (v := ?_) rfl hpan ?yl ?_
  case yl => (intro w hSw; (try dsimp only at hSw);  go_simp); with_reducible rfl
  try simp only [sxA, sxB, sxC, Act.put, sxD, sxE, sxF]
  refine tkB (i := 16) (v := ?_) rfl hpan ?yl ?_
  case yl => (intro w hSw; (try dsimp only at hSw);  go_simp); with_reducible rfl
  try simp only [sxA, sxB, sxC, Act.put, sxD, sxE, sxF]
  refine tkB (i := 17) (v := ?_) rfl hpan ?yl ?_
  case yl => (intro w hSw; have k_ := hRD_.out w hSw; go_simp); with_reducible rfl
  try simp only [sxA, sxB, sxC, Act.put, sxD, sxE, sxF]
  refine (hF.out _ _ _ _).1 ?_
  exact N1_5 _ _ W1 _ (by first | rfl | kernel_rfl) (by first | rfl | kernel_rfl) (by (try simp only [sxA, sxB, sxC, Act.put, sxD, sxE, sxF]); first | done | with_reducible rfl | rfl) s1
 have N1_7 : ∀ (f_ : Nat) (l_ : Array Bool) (W0 : World) (a_ : Act), f_ = 61 → l_ = #[true, true, true, true, false, false, false, false, false, false, false, false, false, false, false, false, false, false, false, false, false, false, false, false, false, false, false, false, false, false, false, false, false, false, false, false, false, false, false, false, false, false, false, false, false, false, false, false, false, false, false, false, false, false, false, false, false, false, false, false, false, false, false, false, false] → a_ = ({ tmps := #[yA,.slice (some ⟨gm, 0, none⟩) 4 4,yC,.pointer (some ⟨T, 0, none⟩),.pointer (some ⟨B4, 0, none⟩),.int .i64 0,.pointer (some ⟨B6, 0, none⟩),.pointer (some ⟨B7, 0, none⟩),.int .i64 0,yJ,.int .i64 17,yL,.int .i64 14,yN,.int .i64 3,.int .i64 3,.pointer (some ⟨B16, 0, none⟩),.pointer (some ⟨B17, 0, none⟩),.int .i64 0,yT,yU,yV,yW,yX,yY,yZ,zA,zB,zC,zD,zE,zF,zG,zH,zI,zJ,zK,zL,zM,zN,zO,zP,zQ,zR,zS,zT,zU,zV,zW,zX,zY,zZ,uA,uB,uC,uD,uE,uF,uG,uH,uI,uJ,uK,uL,uM,uN,uO,uP,.int .i64 0,.bool true,.bool true,.agg #[.int .i64 55, .int .i64 1],uU,uV,uW,uX,uY,uZ,iA,iB,iC,iD,iE,iF,iG,iH,iI,iJ,iK,iL,iM,iN,iO,iP,iQ,iR,iS,iT,iU,iV,iW,iX,iY,iZ,oA,oB,oC,oD,oE,oF,oG,oH,oI,oJ,oK,oL,oM,oN,oO,oP,oQ,oR,oS,oT,oU,oV,oW,oX,oY,oZ,qA,qB], defers := [] } : Act) → Ext w W0 → F f_ l_ a_ W0 := by
  intro  f_ l_ W0 a_ hf_ hl_ ha_ s0
  subst hf_ hl_ ha_
  refine (hF.out _ _ _ _).2 ?_
  clear N1_0 N1_1 N1_2 N1_3 N1_4 N1_5
  refine wpAnyH_ready (rs := [4]) (by kernel_rfl) (by simp) ?_
  refine AllReadyH.cons (o := _) rfl (fun K hK => ?_) AllReadyH.nil
  refine tk_call (by kernel_rfl) (byL_any 55 1 _) (by kernel_rfl) ?_; rintro e W1 ⟨rfl, e1⟩; refine ⟨_, rfl, ?_⟩
  have s1 := s0.trans e1
  refine hK.out _ _ s1 (fun _ => ?_)
  clear hK K
  try simp only [sxA, sxB, sxC, Act.put, sxD, sxE, sxF]
  refine tkB (i := 5) (v := ?_) rfl hpan ?yl ?_
  case yl => (intro w hSw; (try dsimp only at hSw);  go_simp); with_reducible rfl
  try simp only [sxA, sxB, sxC, Act.put, sxD, sxE, sxF]
  refine tkB (i := 6) (v := ?_) rfl hpan ?yl ?_
  case yl => (intro w hSw; (try dsimp only at hSw);  go_simp); with_reducible rfl
  try simp only [sxA, sxB, sxC, Act.put, sxD, sxE, sxF]
  refine tkB (i := 7) (v := ?_) rfl hpan ?yl ?_
  case yl => (intro w hSw; (try dsimp only at hSw);  go_simp); with_reducible rfl
  try simp only [sxA, sxB, sxC, Act.put, sxD, sxE, sxF]
  refine tkB (i := 8) (v := ?_) rfl hpan ?yl ?_
  case yl => (intro w hSw; (try dsimp only at hSw);  go_simp); with_reducible rfl
  try simp only [sxA, sxB, sxC, Act.put, sxD, sxE, sxF]
  refine tkB (i := 9) (v := ?_) rfl hpan ?yl ?_
  case yl => (intro w hSw; (try dsimp only at hSw);  go_simp); with_reducible rfl
  try simp only [sxA, sxB, sxC, Act.put, sxD, sxE, sxF]
  refine tkB (i := 10) (v := ?_) rfl hpan ?yl ?_
  case yl => (intro w hSw; (try dsimp only at hSw);  go_simp); with_reducible rfl
  try simp only [sxA, sxB, sxC, Act.put, sxD, sxE, sxF]
  refine tkB (i := 11) (v := ?_) rfl hpan ?yl ?_
  case yl => (intro w hSw; (try dsimp only at hSw);  go_simp); with_reducible rfl
  try simp only [sxA, sxB, sxC, Act.put, sxD, sxE, sxF]
  refine tkB (i := 12) (v := ?_) rfl hpan ?yl ?_
  case yl => (intro w hSw; have k_ := hRD_.out w hSw; go_simp); with_reducible rfl
  try simp only [sxA, sxB, sxC, Act.put, sxD, sxE, sxF]
  refine (hF.out _ _ _ _).1 ?_
  exact N1_6 _ _ W1 _ (by first | rfl | kernel_rfl) (by first | rfl | kernel_rfl) (by (try simp only [sxA, sxB, sxC, Act.put, sxD, sxE, sxF]); first | done | with_reducible rfl | rfl) s1
 rw [hA_.out]
 refine (hF.out _ _ _ _).2 ?_
 refine tkB (i := 0) (v := ?_) rfl hpan ?yl ?_
 case yl => (intro w hSw; (try dsimp only at hSw);  go_simp); with_reducible rfl
 try simp only [sxA, sxB, sxC, Act.put, sxD, sxE, sxF]
 refine tkB (i := 1) (v := ?_) rfl hpan ?yl ?_
 case yl => (intro w hSw; (try dsimp only at hSw);  go_simp); with_reducible rfl
 try simp only [sxA, sxB, sxC, Act.put, sxD, sxE, sxF]
 refine tkB (i := 2) (v := ?_) rfl hpan ?yl ?_
 case yl => (intro w hSw; (try dsimp only at hSw);  go_simp); with_reducible rfl
 try simp only [sxA, sxB, sxC, Act.put, sxD, sxE, sxF]
 refine tkB (i := 3) (v := ?_) rfl hpan ?yl ?_
 case yl => (intro w hSw; have k_ := hRD_.out w hSw; go_simp); with_reducible rfl
 try simp only [sxA, sxB, sxC, Act.put, sxD, sxE, sxF]
 refine (hF.out _ _ _ _).1 ?_
 exact N1_7 _ _ W0 _ (by first | rfl | kernel_rfl) (by first | rfl | kernel_rfl) (by (try simp only [sxA, sxB, sxC, Act.put, sxD, sxE, sxF]); first | done | with_reducible rfl | rfl) s0

end Go.Proofs.Ytpnfhcnnodolbaa
namespace Go.Proofs.Ytpnfhcnnodolbaa
set_option linter.unusedVariables false
set_option linter.unusedSimpArgs false
set_option linter.unusedSectionVars false
set_option linter.unnecessarySimpa false
open Go Go.RowKit Game
set_option maxRecDepth 100000
set_option maxHeartbeats 40000000 in
theorem alloyKnown_any (w : World) : Calls Try.prog 16 #[] w fun e w' => e = .returned (.bool true) ∧ Ext w w' := by
 go_enter Try.func16, Try.ntmps16
 go_wp2_with fail
 refine (four_any _).mono ?_; rintro e w1 ⟨gm, rfl, hM, hE1⟩
 replace hM := hid hM
 go_wp2_with fail
 refine (two_any _).mono ?_; rintro e w2 ⟨gv, rfl, hV, hE2⟩
 replace hV := hid hV
 go_wp2_with fail
 refine (touchL_any _).mono ?_; rintro e w3 ⟨rfl, hE3⟩
 go_upto_region 2 with (fail)
 refine name_wp (fun v0 hv0 => ?_)
 have x0 : Ext w3 v0 := by rw [hv0]; exact exE
 have t0 := hid (show v0.cell? ⟨w3.heap.size, 0, none⟩ = some (.int .i64 100) by rw [hv0]; simp [go_sem])
 have t1 := hid (show v0.cell? ⟨w3.heap.size, 1, none⟩ = some (.int .i64 10) by rw [hv0]; simp [go_sem])
 have hm := hid (hM.out.ext (show Ext w1 v0 from exE))
 have hv := hid (hV.out.ext (show Ext w2 v0 from exE))
 have X := hid (show Ext w v0 from exE)
 clear hv0 x0 hM hV hE1 hE2 hE3
 obtain ⟨T, hT⟩ : ∃ T, w3.heap.size = T := ⟨_, rfl⟩
 rw [hT] at t0 t1 ⊢
 clear hT
 refine wp_mono (stK2 hm.out) ?_
 rintro e a' v1 ⟨rfl, B4, yW', yX', yY', yZ', zA', zB', zC', rfl, x, n0_, n1_⟩
 replace hm := hid (hm.out.ext x)
 replace hv := hid (hv.out.ext x)
 replace t0 := hid (x.cell t0.out)
 replace t1 := hid (x.cell t1.out)
 replace X := hid (X.out.trans x)
 have B4c0 := hid n0_
 have B4c1 := hid n1_
 clear x n0_ n1_
 go_upto_region 3 with (fail)
 refine wp_mono (stK3 hm.out) ?_
 rintro e a' v2 ⟨rfl, B6, B7, zD', zE', zF', zG', zH', zI', zJ', zK', rfl, x, n0_, n1_, n2_, n3_⟩
 replace hm := hid (hm.out.ext x)
 replace hv := hid (hv.out.ext x)
 replace t0 := hid (x.cell t0.out)
 replace t1 := hid (x.cell t1.out)
 replace B4c0 := hid (x.cell B4c0.out)
 replace B4c1 := hid (x.cell B4c1.out)
 replace X := hid (X.out.trans x)
 have B6c0 := hid n0_
 have B6c1 := hid n1_
 have B7c0 := hid n2_
 have B7c1 := hid n3_
 clear x n0_ n1_ n2_ n3_
 go_upto_region 4 with (fail)
 refine wp_mono (stK4 hv.out t0.out t1.out) ?_
 rintro e a' v3 ⟨rfl, B9, zL', zM', zN', zO', zP', zQ', rfl, x, n0_, n1_⟩
 replace hm := hid (hm.out.ext x)
 replace hv := hid (hv.out.ext x)
 replace t0 := hid (x.cell t0.out)
 replace t1 := hid (x.cell t1.out)
 replace B4c0 := hid (x.cell B4c0.out)
 replace B4c1 := hid (x.cell B4c1.out)
 replace B6c0 := hid (x.cell B6c0.out)
 replace B6c1 := hid (x.cell B6c1.out)
 replace B7c0 := hid (x.cell B7c0.out)
 replace B7c1 := hid (x.cell B7c1.out)
 replace X := hid (X.out.trans x)
 clear x n0_ n1_
 go_upto_region 5 with (fail)
 refine wp_mono (stK5 rfl hm.out t0.out t1.out) ?_
 rintro e a' v4 ⟨rfl, B11, rfl, x, c7_0, c7_1, fz7_0, fz7_1, z7⟩
 replace hm := hid (hm.out.ext x)
 replace hv := hid (hv.out.ext x)
 replace t0 := hid (x.cell t0.out)
 replace t1 := hid (x.cell t1.out)
 replace B4c0 := hid (x.cell B4c0.out)
 replace B4c1 := hid (x.cell B4c1.out)
 replace B6c0 := hid (x.cell B6c0.out)
 replace B6c1 := hid (x.cell B6c1.out)
 replace B7c0 := hid (x.cell B7c0.out)
 replace B7c1 := hid (x.cell B7c1.out)
 replace X := hid (X.out.trans x)
 clear x c7_0 c7_1 fz7_0 fz7_1 z7
 go_upto_region 6 with (fail)
 refine wp_mono (stK6 rfl hm.out t0.out t1.out) ?_
 rintro e a' v5 ⟨rfl, B13, rfl, x, c7_0, c7_1, fz7_0, fz7_1, z7⟩
 replace hm := hid (hm.out.ext x)
 replace hv := hid (hv.out.ext x)
 replace t0 := hid (x.cell t0.out)
 replace t1 := hid (x.cell t1.out)
 replace B4c0 := hid (x.cell B4c0.out)
 replace B4c1 := hid (x.cell B4c1.out)
 replace B6c0 := hid (x.cell B6c0.out)
 replace B6c1 := hid (x.cell B6c1.out)
 replace B7c0 := hid (x.cell B7c0.out)
 replace B7c1 := hid (x.cell B7c1.out)
 replace X := hid (X.out.trans x)
 clear x c7_0 c7_1 fz7_0 fz7_1 z7
 go_upto_region 7 with (fail)
 refine wp_mono (stK7 rfl hv.out t0.out t1.out) ?_
 rintro e a' v6 ⟨rfl, rfl, x⟩
 replace hm := hid (hm.out.ext x)
 replace hv := hid (hv.out.ext x)
 replace t0 := hid (x.cell t0.out)
 replace t1 := hid (x.cell t1.out)
 replace B4c0 := hid (x.cell B4c0.out)
 replace B4c1 := hid (x.cell B4c1.out)
 replace B6c0 := hid (x.cell B6c0.out)
 replace B6c1 := hid (x.cell B6c1.out)
 replace B7c0 := hid (x.cell B7c0.out)
 replace B7c1 := hid (x.cell B7c1.out)
 replace X := hid (X.out.trans x)
 clear x
 go_upto_region 8 with (fail)
 refine wp_mono (stK8 hm.out t0.out t1.out) ?_
 rintro e a' v7 ⟨rfl, B16, B17, uJ', uK', uL', uM', uN', uO', uP', rfl, x, n0_, n1_, n2_, n3_⟩
 replace hm := hid (hm.out.ext x)
 replace hv := hid (hv.out.ext x)
 replace t0 := hid (x.cell t0.out)
 replace t1 := hid (x.cell t1.out)
 replace B4c0 := hid (x.cell B4c0.out)
 replace B4c1 := hid (x.cell B4c1.out)
 replace B6c0 := hid (x.cell B6c0.out)
 replace B6c1 := hid (x.cell B6c1.out)
 replace B7c0 := hid (x.cell B7c0.out)
 replace B7c1 := hid (x.cell B7c1.out)
 replace X := hid (X.out.trans x)
 have B16c0 := hid n0_
 have B16c1 := hid n1_
 have B17c0 := hid n2_
 have B17c1 := hid n3_
 clear x n0_ n1_ n2_ n3_
 go_upto_region 9 with (fail)
 refine wp_mono (stK9 rfl hm.out t0.out t1.out B4c0.out B4c1.out B6c0.out B6c1.out B7c0.out B7c1.out B16c0.out B16c1.out B17c0.out B17c1.out) ?_
 rintro e a' v8 ⟨rfl, rfl, x⟩
 replace hm := hid (hm.out.ext x)
 replace hv := hid (hv.out.ext x)
 replace t0 := hid (x.cell t0.out)
 replace t1 := hid (x.cell t1.out)
 replace B4c0 := hid (x.cell B4c0.out)
 replace B4c1 := hid (x.cell B4c1.out)
 replace B6c0 := hid (x.cell B6c0.out)
 replace B6c1 := hid (x.cell B6c1.out)
 replace B7c0 := hid (x.cell B7c0.out)
 replace B7c1 := hid (x.cell B7c1.out)
 replace B16c0 := hid (x.cell B16c0.out)
 replace B16c1 := hid (x.cell B16c1.out)
 replace B17c0 := hid (x.cell B17c0.out)
 replace B17c1 := hid (x.cell B17c1.out)
 replace X := hid (X.out.trans x)
 clear x
 go_wp2_with fail
 go_ret
 exact ⟨rfl, X.out⟩

end Go.Proofs.Ytpnfhcnnodolbaa
