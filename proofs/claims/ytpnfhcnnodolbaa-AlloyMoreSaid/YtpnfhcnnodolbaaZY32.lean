/- Texts of one proof, laid together: Whf, Whg, Whi, Whj, Wk. -/
import Derived.Test.YtpnfhcnnodolbaaZY10
import Derived.Test.YtpnfhcnnodolbaaZY31
set_option linter.unusedVariables false
set_option linter.unusedSimpArgs false
set_option linter.unusedSectionVars false
set_option linter.unnecessarySimpa false
set_option maxRecDepth 100000
namespace Go.Proofs.Ytpnfhcnnodolbaa
open Go Go.RowKit Game
set_option maxHeartbeats 40000000 in
theorem stW7 {A_ : Act} {yA yC yE yF yG yH yI yJ yK yL yM yN yO yP yQ yR yS yT yU yV yW yX yY yZ zA zB zC zD zE zF zG zH zI zJ zK zL zM zN zO zP zQ zR zS zT zU zV zW zX zY zZ uA uB uC uD uE uF uG uH uI uJ uK uL uM uN uO uP uQ uR uS uT uU uV uW uX uY uZ iA iB iC iD iE iF iG iH iI iJ iK iL iM iN iO iP iQ iR iS iT iU iV iW iX iY iZ oA oB oC oD oE oF oG oH oI oJ oK oL oM oN oO oP oQ oR oS oT oU oV oW oX oY oZ qA qB qC qD qE qF qG qH qI qJ qK qL qM qN qO qP qQ qR qS qT qU qV qW qX qY qZ rA rB rC rD rE rF rG rH rI rJ rK rL rM rN rO rP rQ rR rS rT rU rV rW rX rY rZ jA jB jC jD jE jF jG jH jI jJ jK jL jM jN jO jP jQ jR jS jT jU jV jW jX jY jZ nA nB nC nD nE nF nG nH nI nJ nK nL nM nN nO nP nQ nR nS nT nU nV nW nX nY nZ gA gB gC gD gE gF gG gH gI gJ gK gL gM gN gO gP gQ gR gS gT gU gV gW gX gY gZ fA fB fC fD fE fF fG fH fI fJ fK fL fM fN fO fP fQ fR fS fT fU fV fW fX fY fZ dA dB dC dD dE dF dG dH dI dJ dK dL dM dN dO dP dQ dR dS dT dU dV dW dX dY dZ cA cB cC cD cE cF cG cH cI cJ cK : Value} {gm T : Nat} {w : World} (hA0_ : A_ = { tmps := #[yA, .slice (some ⟨gm, 0, none⟩) 4 4, yC, .pointer (some ⟨T, 0, none⟩), yE, yF, yG, yH, yI, yJ, yK, yL, yM, yN, yO, yP, yQ, yR, yS, yT, yU, yV, yW, yX, yY, yZ, zA, zB, zC, zD, zE, zF, zG, zH, zI, zJ, zK, zL, zM, zN, zO, zP, zQ, zR, zS, zT, zU, zV, zW, zX, zY, zZ, uA, uB, uC, uD, uE, uF, uG, uH, uI, uJ, uK, uL, uM, uN, uO, uP, uQ, uR, uS, uT, uU, uV, uW, uX, uY, uZ, iA, iB, iC, iD, iE, iF, iG, iH, iI, iJ, iK, iL, iM, iN, iO, iP, iQ, iR, iS, iT, iU, iV, iW, iX, iY, iZ, oA, oB, oC, oD, oE, oF, oG, oH, oI, oJ, oK, oL, oM, oN, oO, oP, oQ, oR, oS, oT, oU, oV, oW, oX, oY, oZ, qA, qB, qC, qD, qE, qF, qG, qH, qI, qJ, qK, qL, qM, qN, qO, qP, qQ, qR, qS, qT, qU, qV, qW, qX, qY, qZ, rA, rB, rC, rD, rE, rF, rG, rH, rI, rJ, rK, rL, rM, rN, rO, rP, rQ, rR, rS, rT, rU, rV, rW, rX, rY, rZ, jA, jB, jC, jD, jE, jF, jG, jH, jI, jJ, jK, jL, jM, jN, jO, jP, jQ, jR, jS, jT, jU, jV, jW, jX, jY, jZ, nA, nB, nC, nD, nE, nF, nG, nH, nI, nJ, nK, nL, nM, nN, nO, nP, nQ, nR, nS, nT, nU, nV, nW, nX, nY, nZ, gA, gB, gC, gD, gE, gF, gG, gH, gI, gJ, gK, gL, gM, gN, gO, gP, gQ, gR, gS, gT, gU, gV, gW, gX, gY, gZ, fA, fB, fC, fD, fE, fF, fG, fH, fI, fJ, fK, fL, fM, fN, fO, fP, fQ, fR, fS, fT, fU, fV, fW, fX, fY, fZ, dA, dB, dC, dD, dE, dF, dG, dH, dI, dJ, dK, dL, dM, dN, dO, dP, dQ, dR, dS, dT, dU, dV, dW, dX, dY, dZ, cA, cB, cC, cD, cE, cF, cG, cH, cI, cJ, cK], defers := [] }) (hm : Mts w (some ⟨gm, 0, none⟩) mL) (t0 : w.cell? ⟨T, 0, none⟩ = some (.int .i64 100)) (t1 : w.cell? ⟨T, 1, none⟩ = some (.int .i64 10)) :
 Code.wp Try.prog (rgn Try.f18 7) (fun e a' w' => e = .normal ∧ ∃ (k2 : Nat) (k7 : Nat), a' = ({ tmps := #[yA,.slice (some ⟨gm, 0, none⟩) 4 4,yC,.pointer (some ⟨T, 0, none⟩),yE,yF,yG,yH,yI,yJ,yK,yL,yM,yN,yO,.int .i64 0,.int .i64 17,yR,yS,yT,yU,yV,yW,yX,yY,yZ,zA,zB,zC,zD,zE,zF,zG,zH,zI,zJ,zK,zL,zM,zN,zO,zP,zQ,zR,zS,zT,zU,zV,zW,zX,zY,zZ,uA,uB,uC,uD,uE,uF,uG,uH,uI,uJ,uK,uL,uM,uN,uO,uP,uQ,uR,uS,uT,uU,uV,uW,uX,uY,uZ,iA,iB,iC,iD,iE,iF,iG,iH,iI,.slice (some ⟨gm, 0, none⟩) 4 4,.agg #[.int .i64 100, .int .i64 10],.slice (some ⟨k2, 0, none⟩) 4 4,.slice (some ⟨k2, 0, none⟩) 4 4,.int .i64 0,.slice (some ⟨gm, 0, none⟩) 4 4,.agg #[.int .i64 100, .int .i64 10],.slice (some ⟨k7, 0, none⟩) 4 4,.slice (some ⟨k7, 0, none⟩) 4 4,.int .i64 17,iT,iU,iV,iW,iX,iY,iZ,oA,oB,oC,oD,oE,oF,oG,oH,oI,oJ,oK,oL,oM,oN,oO,oP,oQ,oR,oS,oT,oU,oV,oW,oX,oY,oZ,qA,qB,qC,qD,qE,qF,qG,qH,qI,qJ,qK,qL,qM,qN,qO,qP,qQ,qR,qS,qT,qU,qV,qW,qX,qY,qZ,rA,rB,rC,rD,rE,rF,rG,rH,rI,rJ,rK,rL,rM,rN,rO,rP,rQ,rR,rS,rT,rU,rV,rW,rX,rY,rZ,jA,jB,jC,jD,jE,jF,jG,jH,jI,jJ,jK,jL,jM,jN,jO,jP,jQ,jR,jS,jT,jU,jV,jW,jX,jY,jZ,nA,nB,nC,nD,nE,nF,nG,nH,nI,nJ,nK,nL,nM,nN,nO,nP,nQ,nR,nS,nT,nU,nV,nW,nX,nY,nZ,gA,gB,gC,gD,gE,gF,gG,gH,gI,gJ,gK,gL,gM,gN,gO,gP,gQ,gR,gS,gT,gU,gV,gW,gX,gY,gZ,fA,fB,fC,fD,fE,fF,fG,fH,fI,fJ,fK,fL,fM,fN,fO,fP,fQ,fR,fS,fT,fU,fV,fW,fX,fY,fZ,dA,dB,dC,dD,dE,dF,dG,dH,dI,dJ,dK,dL,dM,dN,dO,dP,dQ,dR,dS,dT,dU,dV,dW,dX,dY,dZ,cA,cB,cC,cD,cE,cF,cG,cH,cI,cJ,cK], defers := [] } : Act) ∧ Ext w w') A_ w := by
 conv => arg 2; whnf
 refine st_intro (fun Q2 hQ2 => ?_)
 have hA_ := hid hA0_
 clear hA0_
 have hpan : ∀ c a a' w w', Q2 (.panic c) a w → Q2 (.panic c) a' w' := by rw [hQ2]; rintro c a a' w w' ⟨h, _⟩; cases h
 replace hQ2 := hid hQ2
 replace hm := hid hm
 have hRD_ := hid (fun w' (x_ : Ext w w') => And.intro (Ext.cell x_ t0) (Ext.cell x_ t1))
 refine wp_region_held_drew (S := fun w' => Ext w w') (by kernel_rfl) exE fun hHeld => ?_
 try simp only [List.append_eq, List.cons_append, List.nil_append]
 refine name_any (fun W0 hW => ?_)
 have s0 : Ext w W0 := by rw [hW]; exact hHeld
 clear hW hHeld
 refine wpF_intro 12 (by kernel_rfl) (fun F hF => ?_)
 replace hF := hid hF
 have N1_0 : ∀ (k2 : Nat) (k7 : Nat) (f_ : Nat) (l_ : Array Bool) (W0 : World) (a_ : Act), f_ = 3 → l_ = #[true, true, true, true, true, true, true, true, true, false, false, false] → a_ = ({ tmps := #[yA,.slice (some ⟨gm, 0, none⟩) 4 4,yC,.pointer (some ⟨T, 0, none⟩),yE,yF,yG,yH,yI,yJ,yK,yL,yM,yN,yO,yP,yQ,yR,yS,yT,yU,yV,yW,yX,yY,yZ,zA,zB,zC,zD,zE,zF,zG,zH,zI,zJ,zK,zL,zM,zN,zO,zP,zQ,zR,zS,zT,zU,zV,zW,zX,zY,zZ,uA,uB,uC,uD,uE,uF,uG,uH,uI,uJ,uK,uL,uM,uN,uO,uP,uQ,uR,uS,uT,uU,uV,uW,uX,uY,uZ,iA,iB,iC,iD,iE,iF,iG,iH,iI,.slice (some ⟨gm, 0, none⟩) 4 4,.agg #[.int .i64 100, .int .i64 10],.slice (some ⟨k2, 0, none⟩) 4 4,.slice (some ⟨k2, 0, none⟩) 4 4,.int .i64 0,.slice (some ⟨gm, 0, none⟩) 4 4,.agg #[.int .i64 100, .int .i64 10],.slice (some ⟨k7, 0, none⟩) 4 4,.slice (some ⟨k7, 0, none⟩) 4 4,iS,iT,iU,iV,iW,iX,iY,iZ,oA,oB,oC,oD,oE,oF,oG,oH,oI,oJ,oK,oL,oM,oN,oO,oP,oQ,oR,oS,oT,oU,oV,oW,oX,oY,oZ,qA,qB,qC,qD,qE,qF,qG,qH,qI,qJ,qK,qL,qM,qN,qO,qP,qQ,qR,qS,qT,qU,qV,qW,qX,qY,qZ,rA,rB,rC,rD,rE,rF,rG,rH,rI,rJ,rK,rL,rM,rN,rO,rP,rQ,rR,rS,rT,rU,rV,rW,rX,rY,rZ,jA,jB,jC,jD,jE,jF,jG,jH,jI,jJ,jK,jL,jM,jN,jO,jP,jQ,jR,jS,jT,jU,jV,jW,jX,jY,jZ,nA,nB,nC,nD,nE,nF,nG,nH,nI,nJ,nK,nL,nM,nN,nO,nP,nQ,nR,nS,nT,nU,nV,nW,nX,nY,nZ,gA,gB,gC,gD,gE,gF,gG,gH,gI,gJ,gK,gL,gM,gN,gO,gP,gQ,gR,gS,gT,gU,gV,gW,gX,gY,gZ,fA,fB,fC,fD,fE,fF,fG,fH,fI,fJ,fK,fL,fM,fN,fO,fP,fQ,fR,fS,fT,fU,fV,fW,fX,fY,fZ,dA,dB,dC,dD,dE,dF,dG,dH,dI,dJ,dK,dL,dM,dN,dO,dP,dQ,dR,dS,dT,dU,dV,dW,dX,dY,dZ,cA,cB,cC,cD,cE,cF,cG,cH,cI,cJ,cK], defers := [] } : Act) → Ext w W0 → Hid (Ints W0 (some ⟨k7, 0, none⟩) [1, 0, 0, 0]) → F f_ l_ a_ W0 := by
  intro k2 k7 f_ l_ W0 a_ hf_ hl_ ha_ s0 i7
  subst hf_ hl_ ha_
  refine (hF.out _ _ _ _).2 ?_
  refine wpAnyH_ready (rs := [9]) (by kernel_rfl) (by simp) ?_
  refine AllReadyH.cons (o := _) rfl (fun K hK => ?_) AllReadyH.nil
  refine tk_call (by kernel_rfl) (cDes4 _ 4 _ 4 _ (hm.out.ext s0) i7.out) (by kernel_rfl) ?_; rintro e W1 ⟨rfl, e1⟩; refine ⟨_, rfl, ?_⟩
  have s1 := s0.trans e1
  refine hK.out _ _ s1 (fun _ => ?_)
  clear hK K
  try simp only [sxA, sxB, sxC, Act.put, sxD, sxE, sxF]
  refine tkB (i := 10) (v := ?_) rfl hpan ?yl ?_
  case yl => (intro w hSw; have k_ := hRD_.out w hSw; go_simp); with_reducible rfl
  try simp only [sxA, sxB, sxC, Act.put, sxD, sxE, sxF]
  refine tkB (i := 11) (v := ?_) rfl hpan ?yl ?_
  case yl => (intro w hSw; have k_ := hRD_.out w hSw; go_simp); with_reducible rfl
  try simp only [sxA, sxB, sxC, Act.put, sxD, sxE, sxF]
  refine wpAnyH_done (by kernel_rfl) ?_ _
  try simp only [sxA, sxB, sxC, Act.put, sxD, sxE, sxF]
  rw [hQ2.out]
  refine ⟨rfl, k2, k7, ?eq1_1, s1⟩
  case eq1_1 => (first | with_reducible rfl | rfl)
 have N1_1 : ∀ (k2 : Nat) (k7 : Nat) (f_ : Nat) (l_ : Array Bool) (W0 : World) (a_ : Act), f_ = 4 → l_ = #[true, true, true, true, true, true, true, true, false, false, false, false] → a_ = ({ tmps := #[yA,.slice (some ⟨gm, 0, none⟩) 4 4,yC,.pointer (some ⟨T, 0, none⟩),yE,yF,yG,yH,yI,yJ,yK,yL,yM,yN,yO,yP,yQ,yR,yS,yT,yU,yV,yW,yX,yY,yZ,zA,zB,zC,zD,zE,zF,zG,zH,zI,zJ,zK,zL,zM,zN,zO,zP,zQ,zR,zS,zT,zU,zV,zW,zX,zY,zZ,uA,uB,uC,uD,uE,uF,uG,uH,uI,uJ,uK,uL,uM,uN,uO,uP,uQ,uR,uS,uT,uU,uV,uW,uX,uY,uZ,iA,iB,iC,iD,iE,iF,iG,iH,iI,.slice (some ⟨gm, 0, none⟩) 4 4,.agg #[.int .i64 100, .int .i64 10],.slice (some ⟨k2, 0, none⟩) 4 4,.slice (some ⟨k2, 0, none⟩) 4 4,.int .i64 0,.slice (some ⟨gm, 0, none⟩) 4 4,.agg #[.int .i64 100, .int .i64 10],.slice (some ⟨k7, 0, none⟩) 4 4,iR,iS,iT,iU,iV,iW,iX,iY,iZ,oA,oB,oC,oD,oE,oF,oG,oH,oI,oJ,oK,oL,oM,oN,oO,oP,oQ,oR,oS,oT,oU,oV,oW,oX,oY,oZ,qA,qB,qC,qD,qE,qF,qG,qH,qI,qJ,qK,qL,qM,qN,qO,qP,qQ,qR,qS,qT,qU,qV,qW,qX,qY,qZ,rA,rB,rC,rD,rE,rF,rG,rH,rI,rJ,rK,rL,rM,rN,rO,rP,rQ,rR,rS,rT,rU,rV,rW,rX,rY,rZ,jA,jB,jC,jD,jE,jF,jG,jH,jI,jJ,jK,jL,jM,jN,jO,jP,jQ,jR,jS,jT,jU,jV,jW,jX,jY,jZ,nA,nB,nC,nD,nE,nF,nG,nH,nI,nJ,nK,nL,nM,nN,nO,nP,nQ,nR,nS,nT,nU,nV,nW,nX,nY,nZ,gA,gB,gC,gD,gE,gF,gG,gH,gI,gJ,gK,gL,gM,gN,gO,gP,gQ,gR,gS,gT,gU,gV,gW,gX,gY,gZ,fA,fB,fC,fD,fE,fF,fG,fH,fI,fJ,fK,fL,fM,fN,fO,fP,fQ,fR,fS,fT,fU,fV,fW,fX,fY,fZ,dA,dB,dC,dD,dE,dF,dG,dH,dI,dJ,dK,dL,dM,dN,dO,dP,dQ,dR,dS,dT,dU,dV,dW,dX,dY,dZ,cA,cB,cC,cD,cE,cF,cG,cH,cI,cJ,cK], defers := [] } : Act) → Ext w W0 → Hid (Ints W0 (some ⟨k7, 0, none⟩) [1, 0, 0, 0]) → F f_ l_ a_ W0 := by
  intro k2 k7 f_ l_ W0 a_ hf_ hl_ ha_ s0 i7
  subst hf_ hl_ ha_
  refine (hF.out _ _ _ _).2 ?_
  refine wpAnyH_ready (rs := [8]) (by kernel_rfl) (by simp) ?_
  refine AllReadyH.cons (o := _) rfl (fun K hK => ?_) AllReadyH.nil
  refine tk_call (by kernel_rfl) (longs_any (.slice (some ⟨k7, 0, none⟩) 4 4) _) (by kernel_rfl) ?_; rintro e W1 ⟨rfl, rfl⟩; refine ⟨_, rfl, ?_⟩
  refine hK.out _ _ s0 (fun _ => ?_)
  clear hK K
  try simp only [sxA, sxB, sxC, Act.put, sxD, sxE, sxF]
  refine (hF.out _ _ _ _).1 ?_
  exact N1_0 k2 k7 _ _ W0 _ (by first | rfl | kernel_rfl) (by first | rfl | kernel_rfl) (by (try simp only [sxA, sxB, sxC, Act.put, sxD, sxE, sxF]); first | done | with_reducible rfl | rfl) s0 i7
 have N1_2 : ∀ (k2 : Nat) (f_ : Nat) (l_ : Array Bool) (W0 : World) (a_ : Act), f_ = 5 → l_ = #[true, true, true, true, true, true, true, false, false, false, false, false] → a_ = ({ tmps := #[yA,.slice (some ⟨gm, 0, none⟩) 4 4,yC,.pointer (some ⟨T, 0, none⟩),yE,yF,yG,yH,yI,yJ,yK,yL,yM,yN,yO,yP,yQ,yR,yS,yT,yU,yV,yW,yX,yY,yZ,zA,zB,zC,zD,zE,zF,zG,zH,zI,zJ,zK,zL,zM,zN,zO,zP,zQ,zR,zS,zT,zU,zV,zW,zX,zY,zZ,uA,uB,uC,uD,uE,uF,uG,uH,uI,uJ,uK,uL,uM,uN,uO,uP,uQ,uR,uS,uT,uU,uV,uW,uX,uY,uZ,iA,iB,iC,iD,iE,iF,iG,iH,iI,.slice (some ⟨gm, 0, none⟩) 4 4,.agg #[.int .i64 100, .int .i64 10],.slice (some ⟨k2, 0, none⟩) 4 4,.slice (some ⟨k2, 0, none⟩) 4 4,.int .i64 0,.slice (some ⟨gm, 0, none⟩) 4 4,.agg #[.int .i64 100, .int .i64 10],iQ,iR,iS,iT,iU,iV,iW,iX,iY,iZ,oA,oB,oC,oD,oE,oF,oG,oH,oI,oJ,oK,oL,oM,oN,oO,oP,oQ,oR,oS,oT,oU,oV,oW,oX,oY,oZ,qA,qB,qC,qD,qE,qF,qG,qH,qI,qJ,qK,qL,qM,qN,qO,qP,qQ,qR,qS,qT,qU,qV,qW,qX,qY,qZ,rA,rB,rC,rD,rE,rF,rG,rH,rI,rJ,rK,rL,rM,rN,rO,rP,rQ,rR,rS,rT,rU,rV,rW,rX,rY,rZ,jA,jB,jC,jD,jE,jF,jG,jH,jI,jJ,jK,jL,jM,jN,jO,jP,jQ,jR,jS,jT,jU,jV,jW,jX,jY,jZ,nA,nB,nC,nD,nE,nF,nG,nH,nI,nJ,nK,nL,nM,nN,nO,nP,nQ,nR,nS,nT,nU,nV,nW,nX,nY,nZ,gA,gB,gC,gD,gE,gF,gG,gH,gI,gJ,gK,gL,gM,gN,gO,gP,gQ,gR,gS,gT,gU,gV,gW,gX,gY,gZ,fA,fB,fC,fD,fE,fF,fG,fH,fI,fJ,fK,fL,fM,fN,fO,fP,fQ,fR,fS,fT,fU,fV,fW,fX,fY,fZ,dA,dB,dC,dD,dE,dF,dG,dH,dI,dJ,dK,dL,dM,dN,dO,dP,dQ,dR,dS,dT,dU,dV,dW,dX,dY,dZ,cA,cB,cC,cD,cE,cF,cG,cH,cI,cJ,cK], defers := [] } : Act) → Ext w W0 → F f_ l_ a_ W0 := by
  intro k2 f_ l_ W0 a_ hf_ hl_ ha_ s0
  subst hf_ hl_ ha_
  refine (hF.out _ _ _ _).2 ?_
  clear N1_0
  refine wpAnyH_ready (rs := [7]) (by kernel_rfl) (by simp) ?_
  refine AllReadyH.cons (o := _) rfl (fun K hK => ?_) AllReadyH.nil
  go_simp
  refine hK.out _ _ (Ext.alloc s0 _) (fun _ => ?_)
  clear hK K
  try simp only [sxA, sxB, sxC, Act.put, sxD, sxE, sxF]
  refine name_any (fun W1 hW => ?_)
  have e1 : Ext W0 W1 := by rw [hW]; exact Ext.alloc (Ext.refl _) _
  have s1 := s0.trans e1
  have ni := hid (show Ints W1 (some ⟨W0.heap.size, 0, none⟩) [1, 0, 0, 0] by rw [hW]; exact litM (w := W0) [1, 0, 0, 0] (t := 2) rfl)
  clear hW
  refine (hF.out _ _ _ _).1 ?_
  exact N1_1 k2 W0.heap.size _ _ W1 _ (by first | rfl | kernel_rfl) (by first | rfl | kernel_rfl) (by (try simp only [sxA, sxB, sxC, Act.put, sxD, sxE, sxF]); first | done | with_reducible rfl | rfl) s1 ni
 have N1_3 : ∀ (k2 : Nat) (k7 : Nat) (f_ : Nat) (l_ : Array Bool) (W0 : World) (a_ : Act), f_ = 5 → l_ = #[true, true, true, true, false, true, true, true, false, false, false, false] → a_ = ({ tmps := #[yA,.slice (some ⟨gm, 0, none⟩) 4 4,yC,.pointer (some ⟨T, 0, none⟩),yE,yF,yG,yH,yI,yJ,yK,yL,yM,yN,yO,yP,yQ,yR,yS,yT,yU,yV,yW,yX,yY,yZ,zA,zB,zC,zD,zE,zF,zG,zH,zI,zJ,zK,zL,zM,zN,zO,zP,zQ,zR,zS,zT,zU,zV,zW,zX,zY,zZ,uA,uB,uC,uD,uE,uF,uG,uH,uI,uJ,uK,uL,uM,uN,uO,uP,uQ,uR,uS,uT,uU,uV,uW,uX,uY,uZ,iA,iB,iC,iD,iE,iF,iG,iH,iI,.slice (some ⟨gm, 0, none⟩) 4 4,.agg #[.int .i64 100, .int .i64 10],.slice (some ⟨k2, 0, none⟩) 4 4,.slice (some ⟨k2, 0, none⟩) 4 4,iN,.slice (some ⟨gm, 0, none⟩) 4 4,.agg #[.int .i64 100, .int .i64 10],.slice (some ⟨k7, 0, none⟩) 4 4,iR,iS,iT,iU,iV,iW,iX,iY,iZ,oA,oB,oC,oD,oE,oF,oG,oH,oI,oJ,oK,oL,oM,oN,oO,oP,oQ,oR,oS,oT,oU,oV,oW,oX,oY,oZ,qA,qB,qC,qD,qE,qF,qG,qH,qI,qJ,qK,qL,qM,qN,qO,qP,qQ,qR,qS,qT,qU,qV,qW,qX,qY,qZ,rA,rB,rC,rD,rE,rF,rG,rH,rI,rJ,rK,rL,rM,rN,rO,rP,rQ,rR,rS,rT,rU,rV,rW,rX,rY,rZ,jA,jB,jC,jD,jE,jF,jG,jH,jI,jJ,jK,jL,jM,jN,jO,jP,jQ,jR,jS,jT,jU,jV,jW,jX,jY,jZ,nA,nB,nC,nD,nE,nF,nG,nH,nI,nJ,nK,nL,nM,nN,nO,nP,nQ,nR,nS,nT,nU,nV,nW,nX,nY,nZ,gA,gB,gC,gD,gE,gF,gG,gH,gI,gJ,gK,gL,gM,gN,gO,gP,gQ,gR,gS,gT,gU,gV,gW,gX,gY,gZ,fA,fB,fC,fD,fE,fF,fG,fH,fI,fJ,fK,fL,fM,fN,fO,fP,fQ,fR,fS,fT,fU,fV,fW,fX,fY,fZ,dA,dB,dC,dD,dE,dF,dG,dH,dI,dJ,dK,dL,dM,dN,dO,dP,dQ,dR,dS,dT,dU,dV,dW,dX,dY,dZ,cA,cB,cC,cD,cE,cF,cG,cH,cI,cJ,cK], defers := [] } : Act) → Ext w W0 → Hid (Ints W0 (some ⟨k2, 0, none⟩) [4, 0, 0, 5]) → Hid (Ints W0 (some ⟨k7, 0, none⟩) [1, 0, 0, 0]) → F f_ l_ a_ W0 := by
  intro k2 k7 f_ l_ W0 a_ hf_ hl_ ha_ s0 i2 i7
  subst hf_ hl_ ha_
  refine (hF.out _ _ _ _).2 ?_
  clear N1_0 N1_2
  refine wpAnyH_ready (rs := [4]) (by kernel_rfl) (by simp) ?_
  refine AllReadyH.cons (o := _) rfl (fun K hK => ?_) AllReadyH.nil
  refine tk_call (by kernel_rfl) (cDes3 _ 4 _ 4 _ (hm.out.ext s0) i2.out) (by kernel_rfl) ?_; rintro e W1 ⟨rfl, e1⟩; refine ⟨_, rfl, ?_⟩
  have s1 := s0.trans e1
  refine hK.out _ _ s1 (fun _ => ?_)
  clear hK K
  try simp only [sxA, sxB, sxC, Act.put, sxD, sxE, sxF]
  refine (hF.out _ _ _ _).1 ?_
  exact N1_1 k2 k7 _ _ W1 _ (by first | rfl | kernel_rfl) (by first | rfl | kernel_rfl) (by (try simp only [sxA, sxB, sxC, Act.put, sxD, sxE, sxF]); first | done | with_reducible rfl | rfl) s1 (hid (i7.out.ext e1))
 have N1_4 : ∀ (k2 : Nat) (f_ : Nat) (l_ : Array Bool) (W0 : World) (a_ : Act), f_ = 6 → l_ = #[true, true, true, true, false, true, true, false, false, false, false, false] → a_ = ({ tmps := #[yA,.slice (some ⟨gm, 0, none⟩) 4 4,yC,.pointer (some ⟨T, 0, none⟩),yE,yF,yG,yH,yI,yJ,yK,yL,yM,yN,yO,yP,yQ,yR,yS,yT,yU,yV,yW,yX,yY,yZ,zA,zB,zC,zD,zE,zF,zG,zH,zI,zJ,zK,zL,zM,zN,zO,zP,zQ,zR,zS,zT,zU,zV,zW,zX,zY,zZ,uA,uB,uC,uD,uE,uF,uG,uH,uI,uJ,uK,uL,uM,uN,uO,uP,uQ,uR,uS,uT,uU,uV,uW,uX,uY,uZ,iA,iB,iC,iD,iE,iF,iG,iH,iI,.slice (some ⟨gm, 0, none⟩) 4 4,.agg #[.int .i64 100, .int .i64 10],.slice (some ⟨k2, 0, none⟩) 4 4,.slice (some ⟨k2, 0, none⟩) 4 4,iN,.slice (some ⟨gm, 0, none⟩) 4 4,.agg #[.int .i64 100, .int .i64 10],iQ,iR,iS,iT,iU,iV,iW,iX,iY,iZ,oA,oB,oC,oD,oE,oF,oG,oH,oI,oJ,oK,oL,oM,oN,oO,oP,oQ,oR,oS,oT,oU,oV,oW,oX,oY,oZ,qA,qB,qC,qD,qE,qF,qG,qH,qI,qJ,qK,qL,qM,qN,qO,qP,qQ,qR,qS,qT,qU,qV,qW,qX,qY,qZ,rA,rB,rC,rD,rE,rF,rG,rH,rI,rJ,rK,rL,rM,rN,rO,rP,rQ,rR,rS,rT,rU,rV,rW,rX,rY,rZ,jA,jB,jC,jD,jE,jF,jG,jH,jI,jJ,jK,jL,jM,jN,jO,jP,jQ,jR,jS,jT,jU,jV,jW,jX,jY,jZ,nA,nB,nC,nD,nE,nF,nG,nH,nI,nJ,nK,nL,nM,nN,nO,nP,nQ,nR,nS,nT,nU,nV,nW,nX,nY,nZ,gA,gB,gC,gD,gE,gF,gG,gH,gI,gJ,gK,gL,gM,gN,gO,gP,gQ,gR,gS,gT,gU,gV,gW,gX,gY,gZ,fA,fB,fC,fD,fE,fF,fG,fH,fI,fJ,fK,fL,fM,fN,fO,fP,fQ,fR,fS,fT,fU,fV,fW,fX,fY,fZ,dA,dB,dC,dD,dE,dF,dG,dH,dI,dJ,dK,dL,dM,dN,dO,dP,dQ,dR,dS,dT,dU,dV,dW,dX,dY,dZ,cA,cB,cC,cD,cE,cF,cG,cH,cI,cJ,cK], defers := [] } : Act) → Ext w W0 → Hid (Ints W0 (some ⟨k2, 0, none⟩) [4, 0, 0, 5]) → F f_ l_ a_ W0 := by
  intro k2 f_ l_ W0 a_ hf_ hl_ ha_ s0 i2
  subst hf_ hl_ ha_
  refine (hF.out _ _ _ _).2 ?_
  clear N1_0 N1_1
  refine wpAnyH_ready (rs := [4, 7]) (by kernel_rfl) (by simp) ?_
  refine AllReadyH.cons (o := _) rfl (fun K hK => ?_) ?_
  ·skip
   refine tk_call (by kernel_rfl) (cDes3 _ 4 _ 4 _ (hm.out.ext s0) i2.out) (by kernel_rfl) ?_; rintro e W1 ⟨rfl, e1⟩; refine ⟨_, rfl, ?_⟩
   have s1 := s0.trans e1
   refine hK.out _ _ s1 (fun _ => ?_)
   clear hK K
   try simp only [sxA, sxB, sxC, Act.put, sxD, sxE, sxF]
   refine (hF.out _ _ _ _).1 ?_
   exact N1_2 k2 _ _ W1 _ (by first | rfl | kernel_rfl) (by first | rfl | kernel_rfl) (by (try simp only [sxA, sxB, sxC, Act.put, sxD, sxE, sxF]); first | done | with_reducible rfl | rfl) s1
  refine AllReadyH.cons (o := _) rfl (fun K hK => ?_) ?_
  ·skip
   go_simp
   refine hK.out _ _ (Ext.alloc s0 _) (fun _ => ?_)
   clear hK K
   try simp only [sxA, sxB, sxC, Act.put, sxD, sxE, sxF]
   refine name_any (fun W1 hW => ?_)
   have e1 : Ext W0 W1 := by rw [hW]; exact Ext.alloc (Ext.refl _) _
   have s1 := s0.trans e1
   have ni := hid (show Ints W1 (some ⟨W0.heap.size, 0, none⟩) [1, 0, 0, 0] by rw [hW]; exact litM (w := W0) [1, 0, 0, 0] (t := 2) rfl)
   clear hW
   refine (hF.out _ _ _ _).1 ?_
   exact N1_3 k2 W0.heap.size _ _ W1 _ (by first | rfl | kernel_rfl) (by first | rfl | kernel_rfl) (by (try simp only [sxA, sxB, sxC, Act.put, sxD, sxE, sxF]); first | done | with_reducible rfl | rfl) s1 (hid (i2.out.ext e1)) ni
  exact AllReadyH.nil
 have N1_5 : ∀ (k2 : Nat) (k7 : Nat) (f_ : Nat) (l_ : Array Bool) (W0 : World) (a_ : Act), f_ = 6 → l_ = #[true, true, true, false, false, true, true, true, false, false, false, false] → a_ = ({ tmps := #[yA,.slice (some ⟨gm, 0, none⟩) 4 4,yC,.pointer (some ⟨T, 0, none⟩),yE,yF,yG,yH,yI,yJ,yK,yL,yM,yN,yO,yP,yQ,yR,yS,yT,yU,yV,yW,yX,yY,yZ,zA,zB,zC,zD,zE,zF,zG,zH,zI,zJ,zK,zL,zM,zN,zO,zP,zQ,zR,zS,zT,zU,zV,zW,zX,zY,zZ,uA,uB,uC,uD,uE,uF,uG,uH,uI,uJ,uK,uL,uM,uN,uO,uP,uQ,uR,uS,uT,uU,uV,uW,uX,uY,uZ,iA,iB,iC,iD,iE,iF,iG,iH,iI,.slice (some ⟨gm, 0, none⟩) 4 4,.agg #[.int .i64 100, .int .i64 10],.slice (some ⟨k2, 0, none⟩) 4 4,iM,iN,.slice (some ⟨gm, 0, none⟩) 4 4,.agg #[.int .i64 100, .int .i64 10],.slice (some ⟨k7, 0, none⟩) 4 4,iR,iS,iT,iU,iV,iW,iX,iY,iZ,oA,oB,oC,oD,oE,oF,oG,oH,oI,oJ,oK,oL,oM,oN,oO,oP,oQ,oR,oS,oT,oU,oV,oW,oX,oY,oZ,qA,qB,qC,qD,qE,qF,qG,qH,qI,qJ,qK,qL,qM,qN,qO,qP,qQ,qR,qS,qT,qU,qV,qW,qX,qY,qZ,rA,rB,rC,rD,rE,rF,rG,rH,rI,rJ,rK,rL,rM,rN,rO,rP,rQ,rR,rS,rT,rU,rV,rW,rX,rY,rZ,jA,jB,jC,jD,jE,jF,jG,jH,jI,jJ,jK,jL,jM,jN,jO,jP,jQ,jR,jS,jT,jU,jV,jW,jX,jY,jZ,nA,nB,nC,nD,nE,nF,nG,nH,nI,nJ,nK,nL,nM,nN,nO,nP,nQ,nR,nS,nT,nU,nV,nW,nX,nY,nZ,gA,gB,gC,gD,gE,gF,gG,gH,gI,gJ,gK,gL,gM,gN,gO,gP,gQ,gR,gS,gT,gU,gV,gW,gX,gY,gZ,fA,fB,fC,fD,fE,fF,fG,fH,fI,fJ,fK,fL,fM,fN,fO,fP,fQ,fR,fS,fT,fU,fV,fW,fX,fY,fZ,dA,dB,dC,dD,dE,dF,dG,dH,dI,dJ,dK,dL,dM,dN,dO,dP,dQ,dR,dS,dT,dU,dV,dW,dX,dY,dZ,cA,cB,cC,cD,cE,cF,cG,cH,cI,cJ,cK], defers := [] } : Act) → Ext w W0 → Hid (Ints W0 (some ⟨k2, 0, none⟩) [4, 0, 0, 5]) → Hid (Ints W0 (some ⟨k7, 0, none⟩) [1, 0, 0, 0]) → F f_ l_ a_ W0 := by
  intro k2 k7 f_ l_ W0 a_ hf_ hl_ ha_ s0 i2 i7
  subst hf_ hl_ ha_
  refine (hF.out _ _ _ _).2 ?_
  clear N1_0 N1_1 N1_2 N1_4
  refine wpAnyH_ready (rs := [3]) (by kernel_rfl) (by simp) ?_
  refine AllReadyH.cons (o := _) rfl (fun K hK => ?_) AllReadyH.nil
  refine tk_call (by kernel_rfl) (longs_any (.slice (some ⟨k2, 0, none⟩) 4 4) _) (by kernel_rfl) ?_; rintro e W1 ⟨rfl, rfl⟩; refine ⟨_, rfl, ?_⟩
  refine hK.out _ _ s0 (fun _ => ?_)
  clear hK K
  try simp only [sxA, sxB, sxC, Act.put, sxD, sxE, sxF]
  refine (hF.out _ _ _ _).1 ?_
  exact N1_3 k2 k7 _ _ W0 _ (by first | rfl | kernel_rfl) (by first | rfl | kernel_rfl) (by (try simp only [sxA, sxB, sxC, Act.put, sxD, sxE, sxF]); first | done | with_reducible rfl | rfl) s0 i2 i7
 have N1_6 : ∀ (k2 : Nat) (f_ : Nat) (l_ : Array Bool) (W0 : World) (a_ : Act), f_ = 7 → l_ = #[true, true, true, false, false, true, true, false, false, false, false, false] → a_ = ({ tmps := #[yA,.slice (some ⟨gm, 0, none⟩) 4 4,yC,.pointer (some ⟨T, 0, none⟩),yE,yF,yG,yH,yI,yJ,yK,yL,yM,yN,yO,yP,yQ,yR,yS,yT,yU,yV,yW,yX,yY,yZ,zA,zB,zC,zD,zE,zF,zG,zH,zI,zJ,zK,zL,zM,zN,zO,zP,zQ,zR,zS,zT,zU,zV,zW,zX,zY,zZ,uA,uB,uC,uD,uE,uF,uG,uH,uI,uJ,uK,uL,uM,uN,uO,uP,uQ,uR,uS,uT,uU,uV,uW,uX,uY,uZ,iA,iB,iC,iD,iE,iF,iG,iH,iI,.slice (some ⟨gm, 0, none⟩) 4 4,.agg #[.int .i64 100, .int .i64 10],.slice (some ⟨k2, 0, none⟩) 4 4,iM,iN,.slice (some ⟨gm, 0, none⟩) 4 4,.agg #[.int .i64 100, .int .i64 10],iQ,iR,iS,iT,iU,iV,iW,iX,iY,iZ,oA,oB,oC,oD,oE,oF,oG,oH,oI,oJ,oK,oL,oM,oN,oO,oP,oQ,oR,oS,oT,oU,oV,oW,oX,oY,oZ,qA,qB,qC,qD,qE,qF,qG,qH,qI,qJ,qK,qL,qM,qN,qO,qP,qQ,qR,qS,qT,qU,qV,qW,qX,qY,qZ,rA,rB,rC,rD,rE,rF,rG,rH,rI,rJ,rK,rL,rM,rN,rO,rP,rQ,rR,rS,rT,rU,rV,rW,rX,rY,rZ,jA,jB,jC,jD,jE,jF,jG,jH,jI,jJ,jK,jL,jM,jN,jO,jP,jQ,jR,jS,jT,jU,jV,jW,jX,jY,jZ,nA,nB,nC,nD,nE,nF,nG,nH,nI,nJ,nK,nL,nM,nN,nO,nP,nQ,nR,nS,nT,nU,nV,nW,nX,nY,nZ,gA,gB,gC,gD,gE,gF,gG,gH,gI,gJ,gK,gL,gM,gN,gO,gP,gQ,gR,gS,gT,gU,gV,gW,gX,gY,gZ,fA,fB,fC,fD,fE,fF,fG,fH,fI,fJ,fK,fL,fM,fN,fO,fP,fQ,fR,fS,fT,fU,fV,fW,fX,fY,fZ,dA,dB,dC,dD,dE,dF,dG,dH,dI,dJ,dK,dL,dM,dN,dO,dP,dQ,dR,dS,dT,dU,dV,dW,dX,dY,dZ,cA,cB,cC,cD,cE,cF,cG,cH,cI,cJ,cK], defers := [] } : Act) → Ext w W0 → Hid (Ints W0 (some ⟨k2, 0, none⟩) [4, 0, 0, 5]) → F f_ l_ a_ W0 := by
  intro k2 f_ l_ W0 a_ hf_ hl_ ha_ s0 i2
  subst hf_ hl_ ha_
  refine (hF.out _ _ _ _).2 ?_
  clear N1_0 N1_1 N1_2 N1_3
  refine wpAnyH_ready (rs := [3, 7]) (by kernel_rfl) (by simp) ?_
  refine AllReadyH.cons (o := _) rfl (fun K hK => ?_) ?_
  ·skip
   refine tk_call (by kernel_rfl) (longs_any (.slice (some ⟨k2, 0, none⟩) 4 4) _) (by kernel_rfl) ?_; rintro e W1 ⟨rfl, rfl⟩; refine ⟨_, rfl, ?_⟩
   refine hK.out _ _ s0 (fun _ => ?_)
   clear hK K
   try simp only [sxA, sxB, sxC, Act.put, sxD, sxE, sxF]
   refine (hF.out _ _ _ _).1 ?_
   exact N1_4 k2 _ _ W0 _ (by first | rfl | kernel_rfl) (by first | rfl | kernel_rfl) (by (try simp only [sxA, sxB, sxC, Act.put, sxD, sxE, sxF]); first | done | with_reducible rfl | rfl) s0 i2
  refine AllReadyH.cons (o := _) rfl (fun K hK => ?_) ?_
  ·skip
   go_simp
   refine hK.out _ _ (Ext.alloc s0 _) (fun _ => ?_)
   clear hK K
   try simp only [sxA, sxB, sxC, Act.put, sxD, sxE, sxF]
   refine name_any (fun W1 hW => ?_)
   have e1 : Ext W0 W1 := by rw [hW]; exact Ext.alloc (Ext.refl _) _
   have s1 := s0.trans e1
   have ni := hid (show Ints W1 (some ⟨W0.heap.size, 0, none⟩) [1, 0, 0, 0] by rw [hW]; exact litM (w := W0) [1, 0, 0, 0] (t := 2) rfl)
   clear hW
   refine (hF.out _ _ _ _).1 ?_
   exact N1_5 k2 W0.heap.size _ _ W1 _ (by first | rfl | kernel_rfl) (by first | rfl | kernel_rfl) (by (try simp only [sxA, sxB, sxC, Act.put, sxD, sxE, sxF]); first | done | with_reducible rfl | rfl) s1 (hid (i2.out.ext e1)) ni
  exact AllReadyH.nil
 have N1_7 : ∀ (k7 : Nat) (f_ : Nat) (l_ : Array Bool) (W0 : World) (a_ : Act), f_ = 7 → l_ = #[true, true, false, false, false, true, true, true, false, false, false, false] → a_ = ({ tmps := #[yA,.slice (some ⟨gm, 0, none⟩) 4 4,yC,.pointer (some ⟨T, 0, none⟩),yE,yF,yG,yH,yI,yJ,yK,yL,yM,yN,yO,yP,yQ,yR,yS,yT,yU,yV,yW,yX,yY,yZ,zA,zB,zC,zD,zE,zF,zG,zH,zI,zJ,zK,zL,zM,zN,zO,zP,zQ,zR,zS,zT,zU,zV,zW,zX,zY,zZ,uA,uB,uC,uD,uE,uF,uG,uH,uI,uJ,uK,uL,uM,uN,uO,uP,uQ,uR,uS,uT,uU,uV,uW,uX,uY,uZ,iA,iB,iC,iD,iE,iF,iG,iH,iI,.slice (some ⟨gm, 0, none⟩) 4 4,.agg #[.int .i64 100, .int .i64 10],iL,iM,iN,.slice (some ⟨gm, 0, none⟩) 4 4,.agg #[.int .i64 100, .int .i64 10],.slice (some ⟨k7, 0, none⟩) 4 4,iR,iS,iT,iU,iV,iW,iX,iY,iZ,oA,oB,oC,oD,oE,oF,oG,oH,oI,oJ,oK,oL,oM,oN,oO,oP,oQ,oR,oS,oT,oU,oV,oW,oX,oY,oZ,qA,qB,qC,qD,qE,qF,qG,qH,qI,qJ,qK,qL,qM,qN,qO,qP,qQ,qR,qS,qT,qU,qV,qW,qX,qY,qZ,rA,rB,rC,rD,rE,rF,rG,rH,rI,rJ,rK,rL,rM,rN,rO,rP,rQ,rR,rS,rT,rU,rV,rW,rX,rY,rZ,jA,jB,jC,jD,jE,jF,jG,jH,jI,jJ,jK,jL,jM,jN,jO,jP,jQ,jR,jS,jT,jU,jV,jW,jX,jY,jZ,nA,nB,nC,nD,nE,nF,nG,nH,nI,nJ,nK,nL,nM,nN,nO,nP,nQ,nR,nS,nT,nU,nV,nW,nX,nY,nZ,gA,gB,gC,gD,gE,gF,gG,gH,gI,gJ,gK,gL,gM,gN,gO,gP,gQ,gR,gS,gT,gU,gV,gW,gX,gY,gZ,fA,fB,fC,fD,fE,fF,fG,fH,fI,fJ,fK,fL,fM,fN,fO,fP,fQ,fR,fS,fT,fU,fV,fW,fX,fY,fZ,dA,dB,dC,dD,dE,dF,dG,dH,dI,dJ,dK,dL,dM,dN,dO,dP,dQ,dR,dS,dT,dU,dV,dW,dX,dY,dZ,cA,cB,cC,cD,cE,cF,cG,cH,cI,cJ,cK], defers := [] } : Act) → Ext w W0 → Hid (Ints W0 (some ⟨k7, 0, none⟩) [1, 0, 0, 0]) → F f_ l_ a_ W0 := by
  intro k7 f_ l_ W0 a_ hf_ hl_ ha_ s0 i7
  subst hf_ hl_ ha_
  refine (hF.out _ _ _ _).2 ?_
  clear N1_0 N1_1 N1_2 N1_3 N1_4 N1_6
  refine wpAnyH_ready (rs := [2]) (by kernel_rfl) (by simp) ?_
  refine AllReadyH.cons (o := _) rfl (fun K hK => ?_) AllReadyH.nil
  go_simp
  refine hK.out _ _ (Ext.alloc s0 _) (fun _ => ?_)
  clear hK K
  try simp only [sxA, sxB, sxC, Act.put, sxD, sxE, sxF]
  refine name_any (fun W1 hW => ?_)
  have e1 : Ext W0 W1 := by rw [hW]; exact Ext.alloc (Ext.refl _) _
  have s1 := s0.trans e1
  have ni := hid (show Ints W1 (some ⟨W0.heap.size, 0, none⟩) [4, 0, 0, 5] by rw [hW]; exact litM (w := W0) [4, 0, 0, 5] (t := 2) rfl)
  clear hW
  refine (hF.out _ _ _ _).1 ?_
  exact N1_5 W0.heap.size k7 _ _ W1 _ (by first | rfl | kernel_rfl) (by first | rfl | kernel_rfl) (by (try simp only [sxA, sxB, sxC, Act.put, sxD, sxE, sxF]); first | done | with_reducible rfl | rfl) s1 ni (hid (i7.out.ext e1))
 have N1_8 : ∀ (f_ : Nat) (l_ : Array Bool) (W0 : World) (a_ : Act), f_ = 8 → l_ = #[true, true, false, false, false, true, true, false, false, false, false, false] → a_ = ({ tmps := #[yA,.slice (some ⟨gm, 0, none⟩) 4 4,yC,.pointer (some ⟨T, 0, none⟩),yE,yF,yG,yH,yI,yJ,yK,yL,yM,yN,yO,yP,yQ,yR,yS,yT,yU,yV,yW,yX,yY,yZ,zA,zB,zC,zD,zE,zF,zG,zH,zI,zJ,zK,zL,zM,zN,zO,zP,zQ,zR,zS,zT,zU,zV,zW,zX,zY,zZ,uA,uB,uC,uD,uE,uF,uG,uH,uI,uJ,uK,uL,uM,uN,uO,uP,uQ,uR,uS,uT,uU,uV,uW,uX,uY,uZ,iA,iB,iC,iD,iE,iF,iG,iH,iI,.slice (some ⟨gm, 0, none⟩) 4 4,.agg #[.int .i64 100, .int .i64 10],iL,iM,iN,.slice (some ⟨gm, 0, none⟩) 4 4,.agg #[.int .i64 100, .int .i64 10],iQ,iR,iS,iT,iU,iV,iW,iX,iY,iZ,oA,oB,oC,oD,oE,oF,oG,oH,oI,oJ,oK,oL,oM,oN,oO,oP,oQ,oR,oS,oT,oU,oV,oW,oX,oY,oZ,qA,qB,qC,qD,qE,qF,qG,qH,qI,qJ,qK,qL,qM,qN,qO,qP,qQ,qR,qS,qT,qU,qV,qW,qX,qY,qZ,rA,rB,rC,rD,rE,rF,rG,rH,rI,rJ,rK,rL,rM,rN,rO,rP,rQ,rR,rS,rT,rU,rV,rW,rX,rY,rZ,jA,jB,jC,jD,jE,jF,jG,jH,jI,jJ,jK,jL,jM,jN,jO,jP,jQ,jR,jS,jT,jU,jV,jW,jX,jY,jZ,nA,nB,nC,nD,nE,nF,nG,nH,nI,nJ,nK,nL,nM,nN,nO,nP,nQ,nR,nS,nT,nU,nV,nW,nX,nY,nZ,gA,gB,gC,gD,gE,gF,gG,gH,gI,gJ,gK,gL,gM,gN,gO,gP,gQ,gR,gS,gT,gU,gV,gW,gX,gY,gZ,fA,fB,fC,fD,fE,fF,fG,fH,fI,fJ,fK,fL,fM,fN,fO,fP,fQ,fR,fS,fT,fU,fV,fW,fX,fY,fZ,dA,dB,dC,dD,dE,dF,dG,dH,dI,dJ,dK,dL,dM,dN,dO,dP,dQ,dR,dS,dT,dU,dV,dW,dX,dY,dZ,cA,cB,cC,cD,cE,cF,cG,cH,cI,cJ,cK], defers := [] } : Act) → Ext w W0 → F f_ l_ a_ W0 := by
  intro  f_ l_ W0 a_ hf_ hl_ ha_ s0
  subst hf_ hl_ ha_
  refine (hF.out _ _ _ _).2 ?_
  clear N1_0 N1_1 N1_2 N1_3 N1_4 N1_5
  refine wpAnyH_ready (rs := [2, 7]) (by kernel_rfl) (by simp) ?_
  refine AllReadyH.cons (o := _) rfl (fun K hK => ?_) ?_
  ·skip
   go_simp
   refine hK.out _ _ (Ext.alloc s0 _) (fun _ => ?_)
   clear hK K
   try simp only [sxA, sxB, sxC, Act.put, sxD, sxE, sxF]
   refine name_any (fun W1 hW => ?_)
   have e1 : Ext W0 W1 := by rw [hW]; exact Ext.alloc (Ext.refl _) _
   have s1 := s0.trans e1
   have ni := hid (show Ints W1 (some ⟨W0.heap.size, 0, none⟩) [4, 0, 0, 5] by rw [hW]; exact litM (w := W0) [4, 0, 0, 5] (t := 2) rfl)
   clear hW
   refine (hF.out _ _ _ _).1 ?_
   exact N1_6 W0.heap.size _ _ W1 _ (by first | rfl | kernel_rfl) (by first | rfl | kernel_rfl) (by (try simp only [sxA, sxB, sxC, Act.put, sxD, sxE, sxF]); first | done | with_reducible rfl | rfl) s1 ni
  refine AllReadyH.cons (o := _) rfl (fun K hK => ?_) ?_
  ·skip
   go_simp
   refine hK.out _ _ (Ext.alloc s0 _) (fun _ => ?_)
   clear hK K
   try simp only [sxA, sxB, sxC, Act.put, sxD, sxE, sxF]
   refine name_any (fun W1 hW => ?_)
   have e1 : Ext W0 W1 := by rw [hW]; exact Ext.alloc (Ext.refl _) _
   have s1 := s0.trans e1
   have ni := hid (show Ints W1 (some ⟨W0.heap.size, 0, none⟩) [1, 0, 0, 0] by rw [hW]; exact litM (w := W0) [1, 0, 0, 0] (t := 2) rfl)
   clear hW
   refine (hF.out _ _ _ _).1 ?_
   exact N1_7 W0.heap.size _ _ W1 _ (by first | rfl | kernel_rfl) (by first | rfl | kernel_rfl) (by (try simp only [sxA, sxB, sxC, Act.put, sxD, sxE, sxF]); first | done | with_reducible rfl | rfl) s1 ni
  exact AllReadyH.nil
 rw [hA_.out]
 refine (hF.out _ _ _ _).2 ?_
 refine tkB (i := 0) (v := ?_) rfl hpan ?yl ?_
 case yl => (intro w hSw; have k_ := hRD_.out w hSw; go_simp); with_reducible rfl
 try simp only [sxA, sxB, sxC, Act.put, sxD, sxE, sxF]
 refine tkB (i := 1) (v := ?_) rfl hpan ?yl ?_
 case yl => (intro w hSw; have k_ := hRD_.out w hSw; go_simp); with_reducible rfl
 try simp only [sxA, sxB, sxC, Act.put, sxD, sxE, sxF]
 refine tkB (i := 5) (v := ?_) rfl hpan ?yl ?_
 case yl => (intro w hSw; have k_ := hRD_.out w hSw; go_simp); with_reducible rfl
 try simp only [sxA, sxB, sxC, Act.put, sxD, sxE, sxF]
 refine tkB (i := 6) (v := ?_) rfl hpan ?yl ?_
 case yl => (intro w hSw; have k_ := hRD_.out w hSw; go_simp); with_reducible rfl
 try simp only [sxA, sxB, sxC, Act.put, sxD, sxE, sxF]
 refine (hF.out _ _ _ _).1 ?_
 exact N1_8 _ _ W0 _ (by first | rfl | kernel_rfl) (by first | rfl | kernel_rfl) (by (try simp only [sxA, sxB, sxC, Act.put, sxD, sxE, sxF]); first | done | with_reducible rfl | rfl) s0
set_option maxHeartbeats 40000000 in
theorem stW12 {A_ : Act} {yA yC yE yF yG yH yI yJ yK yL yM yN yO yP yQ yR yS yT yU yV yW yX yY yZ zA zB zC zD zE zF zG zH zI zJ zK zL zM zN zO zP zQ zR zS zT zU zV zW zX zY zZ uA uB uC uD uE uF uG uH uI uJ uK uL uM uN uO uP uQ uR uS uT uU uV uW uX uY uZ iA iB iC iD iE iF iG iH iI iJ iK iL iM iN iO iP iQ iR iS iT iU iV iW iX iY iZ oA oB oC oD oE oF oG oH oI oJ oK oL oM oN oO oP oQ oR oS oT oU oV oW oX oY oZ qA qB qC qD qE qF qG qH qI qJ qK qL qM qN qO qP qQ qR qS qT qU qV qW qX qY qZ rA rB rC rD rE rF rG rH rI rJ rK rL rM rN rO rP rQ rR rS rT rU rV rW rX rY rZ jA jB jC jD jE jF jG jH jI jJ jK jL jM jN jO jP jQ jR jS jT jU jV jW jX jY jZ nA nB nC nD nE nF nG nH nI nJ nK nL nM nN nO nP nQ nR nS nT nU nV nW nX nY nZ gA gB gC gD gE gF gG gH gI gJ gK gL gM gN gO gP gQ gR gS gT gU gV gW gX gY gZ fA fB fC fD fE fF fG fH fI fJ fK fL fM fN fO fP fQ fR fS fT fU fV fW fX fY fZ dA dB dC dD dE dF dG dH dI dJ dK dL dM dN dO dP dQ dR dS dT dU dV dW dX dY dZ cA cB cC cD cE cF cG cH cI cJ cK : Value} {gm T : Nat} {w : World} (hA0_ : A_ = { tmps := #[yA, .slice (some ⟨gm, 0, none⟩) 4 4, yC, .pointer (some ⟨T, 0, none⟩), yE, yF, yG, yH, yI, yJ, yK, yL, yM, yN, yO, yP, yQ, yR, yS, yT, yU, yV, yW, yX, yY, yZ, zA, zB, zC, zD, zE, zF, zG, zH, zI, zJ, zK, zL, zM, zN, zO, zP, zQ, zR, zS, zT, zU, zV, zW, zX, zY, zZ, uA, uB, uC, uD, uE, uF, uG, uH, uI, uJ, uK, uL, uM, uN, uO, uP, uQ, uR, uS, uT, uU, uV, uW, uX, uY, uZ, iA, iB, iC, iD, iE, iF, iG, iH, iI, iJ, iK, iL, iM, iN, iO, iP, iQ, iR, iS, iT, iU, iV, iW, iX, iY, iZ, oA, oB, oC, oD, oE, oF, oG, oH, oI, oJ, oK, oL, oM, oN, oO, oP, oQ, oR, oS, oT, oU, oV, oW, oX, oY, oZ, qA, qB, qC, qD, qE, qF, qG, qH, qI, qJ, qK, qL, qM, qN, qO, qP, qQ, qR, qS, qT, qU, qV, qW, qX, qY, qZ, rA, rB, rC, rD, rE, rF, rG, rH, rI, rJ, rK, rL, rM, rN, rO, rP, rQ, rR, rS, rT, rU, rV, rW, rX, rY, rZ, jA, jB, jC, jD, jE, jF, jG, jH, jI, jJ, jK, jL, jM, jN, jO, jP, jQ, jR, jS, jT, jU, jV, jW, jX, jY, jZ, nA, nB, nC, nD, nE, nF, nG, nH, nI, nJ, nK, nL, nM, nN, nO, nP, nQ, nR, nS, nT, nU, nV, nW, nX, nY, nZ, gA, gB, gC, gD, gE, gF, gG, gH, gI, gJ, gK, gL, gM, gN, gO, gP, gQ, gR, gS, gT, gU, gV, gW, gX, gY, gZ, fA, fB, fC, fD, fE, fF, fG, fH, fI, fJ, fK, fL, fM, fN, fO, fP, fQ, fR, fS, fT, fU, fV, fW, fX, fY, fZ, dA, dB, dC, dD, dE, dF, dG, dH, dI, dJ, dK, dL, dM, dN, dO, dP, dQ, dR, dS, dT, dU, dV, dW, dX, dY, dZ, cA, cB, cC, cD, cE, cF, cG, cH, cI, cJ, cK], defers := [] }) (hm : Mts w (some ⟨gm, 0, none⟩) mL) (t0 : w.cell? ⟨T, 0, none⟩ = some (.int .i64 100)) (t1 : w.cell? ⟨T, 1, none⟩ = some (.int .i64 10)) :
 Code.wp Try.prog (rgn Try.f18 12) (fun e a' w' => e = .normal ∧ ∃ (B25 : Nat), a' = ({ tmps := #[yA,.slice (some ⟨gm, 0, none⟩) 4 4,yC,.pointer (some ⟨T, 0, none⟩),yE,yF,yG,yH,yI,yJ,yK,yL,yM,yN,yO,yP,yQ,yR,yS,yT,yU,yV,yW,yX,yY,.pointer (some ⟨B25, 0, none⟩),.int .i64 0,zB,zC,zD,zE,zF,zG,zH,zI,zJ,zK,zL,zM,zN,zO,zP,zQ,zR,zS,zT,zU,zV,zW,zX,zY,zZ,uA,uB,uC,uD,uE,uF,uG,uH,uI,uJ,uK,uL,uM,uN,uO,uP,uQ,uR,uS,uT,uU,uV,uW,uX,uY,uZ,iA,iB,iC,iD,iE,iF,iG,iH,iI,iJ,iK,iL,iM,iN,iO,iP,iQ,iR,iS,iT,iU,iV,iW,iX,iY,iZ,oA,oB,oC,oD,oE,oF,oG,oH,oI,oJ,oK,oL,oM,oN,oO,oP,oQ,.tuple #[.agg #[.int .i64 3959, .int .i64 55], .int .i64 0],.slice (some ⟨gm, 0, none⟩) 4 4,.agg #[.int .i64 100, .int .i64 10],.agg #[.int .i64 2200, .int .i64 198000, .int .i64 403, .int .i64 66],.tuple #[.agg #[.int .i64 3959, .int .i64 55], .int .i64 0],.agg #[.int .i64 3959, .int .i64 55],.int .i64 0,oY,oZ,qA,qB,qC,qD,qE,qF,qG,qH,qI,qJ,qK,qL,qM,qN,qO,qP,qQ,qR,qS,qT,qU,qV,qW,qX,qY,qZ,rA,rB,rC,rD,rE,rF,rG,rH,rI,rJ,rK,rL,rM,rN,rO,rP,rQ,rR,rS,rT,rU,rV,rW,rX,rY,rZ,jA,jB,jC,jD,jE,jF,jG,jH,jI,jJ,jK,jL,jM,jN,jO,jP,jQ,jR,jS,jT,jU,jV,jW,jX,jY,jZ,nA,nB,nC,nD,nE,nF,nG,nH,nI,nJ,nK,nL,nM,nN,nO,nP,nQ,nR,nS,nT,nU,nV,nW,nX,nY,nZ,gA,gB,gC,gD,gE,gF,gG,gH,gI,gJ,gK,gL,gM,gN,gO,gP,gQ,gR,gS,gT,gU,gV,gW,gX,gY,gZ,fA,fB,fC,fD,fE,fF,fG,fH,fI,fJ,fK,fL,fM,fN,fO,fP,fQ,fR,fS,fT,fU,fV,fW,fX,fY,fZ,dA,dB,dC,dD,dE,dF,dG,dH,dI,dJ,dK,dL,dM,dN,dO,dP,dQ,dR,dS,dT,dU,dV,dW,dX,dY,dZ,cA,cB,cC,cD,cE,cF,cG,cH,cI,cJ,cK], defers := [] } : Act) ∧ Ext w w' ∧ w'.cell? ⟨B25, 0, none⟩ = some (.int .i64 3959) ∧ w'.cell? ⟨B25, 1, none⟩ = some (.int .i64 55) ∧ w'.frozen? ⟨B25, 0, none⟩ = false ∧ w'.frozen? ⟨B25, 1, none⟩ = false ∧ w.heap.size ≤ B25) A_ w := by
 conv => arg 2; whnf
 refine st_intro (fun Q2 hQ2 => ?_)
 have hA_ := hid hA0_
 clear hA0_
 have hpan : ∀ c a a' w w', Q2 (.panic c) a w → Q2 (.panic c) a' w' := by rw [hQ2]; rintro c a a' w w' ⟨h, _⟩; cases h
 replace hQ2 := hid hQ2
 replace hm := hid hm
 have hRD_ := hid (fun w' (x_ : Ext w w') => And.intro (Ext.cell x_ t0) (Ext.cell x_ t1))
 refine wp_region_held_drew (S := fun w' => Ext w w') (by kernel_rfl) exE fun hHeld => ?_
 try simp only [List.append_eq, List.cons_append, List.nil_append]
 refine name_any (fun W0 hW => ?_)
 have s0 : Ext w W0 := by rw [hW]; exact hHeld
 clear hW hHeld
 refine wpF_intro 10 (by kernel_rfl) (fun F hF => ?_)
 replace hF := hid hF
 have N1_0 : ∀ (B25 : Nat) (f_ : Nat) (l_ : Array Bool) (W0 : World) (a_ : Act), f_ = 2 → l_ = #[true, true, true, true, true, true, true, true, false, false] → a_ = ({ tmps := #[yA,.slice (some ⟨gm, 0, none⟩) 4 4,yC,.pointer (some ⟨T, 0, none⟩),yE,yF,yG,yH,yI,yJ,yK,yL,yM,yN,yO,yP,yQ,yR,yS,yT,yU,yV,yW,yX,yY,.pointer (some ⟨B25, 0, none⟩),zA,zB,zC,zD,zE,zF,zG,zH,zI,zJ,zK,zL,zM,zN,zO,zP,zQ,zR,zS,zT,zU,zV,zW,zX,zY,zZ,uA,uB,uC,uD,uE,uF,uG,uH,uI,uJ,uK,uL,uM,uN,uO,uP,uQ,uR,uS,uT,uU,uV,uW,uX,uY,uZ,iA,iB,iC,iD,iE,iF,iG,iH,iI,iJ,iK,iL,iM,iN,iO,iP,iQ,iR,iS,iT,iU,iV,iW,iX,iY,iZ,oA,oB,oC,oD,oE,oF,oG,oH,oI,oJ,oK,oL,oM,oN,oO,oP,oQ,.tuple #[.agg #[.int .i64 3959, .int .i64 55], .int .i64 0],.slice (some ⟨gm, 0, none⟩) 4 4,.agg #[.int .i64 100, .int .i64 10],.agg #[.int .i64 2200, .int .i64 198000, .int .i64 403, .int .i64 66],.tuple #[.agg #[.int .i64 3959, .int .i64 55], .int .i64 0],.agg #[.int .i64 3959, .int .i64 55],.int .i64 0,oY,oZ,qA,qB,qC,qD,qE,qF,qG,qH,qI,qJ,qK,qL,qM,qN,qO,qP,qQ,qR,qS,qT,qU,qV,qW,qX,qY,qZ,rA,rB,rC,rD,rE,rF,rG,rH,rI,rJ,rK,rL,rM,rN,rO,rP,rQ,rR,rS,rT,rU,rV,rW,rX,rY,rZ,jA,jB,jC,jD,jE,jF,jG,jH,jI,jJ,jK,jL,jM,jN,jO,jP,jQ,jR,jS,jT,jU,jV,jW,jX,jY,jZ,nA,nB,nC,nD,nE,nF,nG,nH,nI,nJ,nK,nL,nM,nN,nO,nP,nQ,nR,nS,nT,nU,nV,nW,nX,nY,nZ,gA,gB,gC,gD,gE,gF,gG,gH,gI,gJ,gK,gL,gM,gN,gO,gP,gQ,gR,gS,gT,gU,gV,gW,gX,gY,gZ,fA,fB,fC,fD,fE,fF,fG,fH,fI,fJ,fK,fL,fM,fN,fO,fP,fQ,fR,fS,fT,fU,fV,fW,fX,fY,fZ,dA,dB,dC,dD,dE,dF,dG,dH,dI,dJ,dK,dL,dM,dN,dO,dP,dQ,dR,dS,dT,dU,dV,dW,dX,dY,dZ,cA,cB,cC,cD,cE,cF,cG,cH,cI,cJ,cK], defers := [] } : Act) → Ext w W0 → Hid (W0.cell? ⟨B25, 0, none⟩ = some (.int .i64 0)) → Hid (W0.cell? ⟨B25, 1, none⟩ = some (.int .i64 0)) → Hid (W0.frozen? ⟨B25, 0, none⟩ = false) → Hid (W0.frozen? ⟨B25, 1, none⟩ = false) → Hid (w.heap.size ≤ B25) → F f_ l_ a_ W0 := by
  intro B25 f_ l_ W0 a_ hf_ hl_ ha_ s0 b7_0 b7_1 d7_0 d7_1 z7
  subst hf_ hl_ ha_
  refine (hF.out _ _ _ _).2 ?_
  refine wpAnyH_ready (rs := [8]) (by kernel_rfl) (by simp) ?_
  refine AllReadyH.cons (o := _) rfl (fun K hK => ?_) AllReadyH.nil
  have f0 := b7_0.out
  have g0 := d7_0.out
  have f1 := b7_1.out
  have g1 := d7_1.out
  have l0_ := s0.size
  have z0_ := z7.out
  go_simp
  refine hK.out _ _ exE (fun _ => ?_)
  clear hK K
  try simp only [sxA, sxB, sxC, Act.put, sxD, sxE, sxF]
  refine name_any (fun W1 hW => ?_)
  have s1 : Ext w W1 := by rw [hW]; exact exE
  have nb0 := hid (show W1.cell? ⟨B25, 0, none⟩ = some (.int .i64 3959) by rw [hW]; simp [go_sem, f0, f1])
  have nb1 := hid (show W1.cell? ⟨B25, 1, none⟩ = some (.int .i64 55) by rw [hW]; simp [go_sem, f0, f1])
  have nd0 := hid (show W1.frozen? ⟨B25, 0, none⟩ = false by rw [hW]; simp [go_sem, World.frozen?_setCell, g0, g1])
  have nd1 := hid (show W1.frozen? ⟨B25, 1, none⟩ = false by rw [hW]; simp [go_sem, World.frozen?_setCell, g0, g1])
  clear hW
  refine tkB (i := 9) (v := ?_) rfl hpan ?yl ?_
  case yl => (intro w hSw; have k_ := hRD_.out w hSw; go_simp); with_reducible rfl
  try simp only [sxA, sxB, sxC, Act.put, sxD, sxE, sxF]
  refine wpAnyH_done (by kernel_rfl) ?_ _
  try simp only [sxA, sxB, sxC, Act.put, sxD, sxE, sxF]
  rw [hQ2.out]
  refine ⟨rfl, B25, ?eq1_1, s1, nb0.out, nb1.out, nd0.out, nd1.out, z7.out⟩
  case eq1_1 => (first | with_reducible rfl | rfl)
 have N1_1 : ∀ (f_ : Nat) (l_ : Array Bool) (W0 : World) (a_ : Act), f_ = 3 → l_ = #[true, true, true, true, true, true, true, false, false, false] → a_ = ({ tmps := #[yA,.slice (some ⟨gm, 0, none⟩) 4 4,yC,.pointer (some ⟨T, 0, none⟩),yE,yF,yG,yH,yI,yJ,yK,yL,yM,yN,yO,yP,yQ,yR,yS,yT,yU,yV,yW,yX,yY,yZ,zA,zB,zC,zD,zE,zF,zG,zH,zI,zJ,zK,zL,zM,zN,zO,zP,zQ,zR,zS,zT,zU,zV,zW,zX,zY,zZ,uA,uB,uC,uD,uE,uF,uG,uH,uI,uJ,uK,uL,uM,uN,uO,uP,uQ,uR,uS,uT,uU,uV,uW,uX,uY,uZ,iA,iB,iC,iD,iE,iF,iG,iH,iI,iJ,iK,iL,iM,iN,iO,iP,iQ,iR,iS,iT,iU,iV,iW,iX,iY,iZ,oA,oB,oC,oD,oE,oF,oG,oH,oI,oJ,oK,oL,oM,oN,oO,oP,oQ,.tuple #[.agg #[.int .i64 3959, .int .i64 55], .int .i64 0],.slice (some ⟨gm, 0, none⟩) 4 4,.agg #[.int .i64 100, .int .i64 10],.agg #[.int .i64 2200, .int .i64 198000, .int .i64 403, .int .i64 66],.tuple #[.agg #[.int .i64 3959, .int .i64 55], .int .i64 0],.agg #[.int .i64 3959, .int .i64 55],.int .i64 0,oY,oZ,qA,qB,qC,qD,qE,qF,qG,qH,qI,qJ,qK,qL,qM,qN,qO,qP,qQ,qR,qS,qT,qU,qV,qW,qX,qY,qZ,rA,rB,rC,rD,rE,rF,rG,rH,rI,rJ,rK,rL,rM,rN,rO,rP,rQ,rR,rS,rT,rU,rV,rW,rX,rY,rZ,jA,jB,jC,jD,jE,jF,jG,jH,jI,jJ,jK,jL,jM,jN,jO,jP,jQ,jR,jS,jT,jU,jV,jW,jX,jY,jZ,nA,nB,nC,nD,nE,nF,nG,nH,nI,nJ,nK,nL,nM,nN,nO,nP,nQ,nR,nS,nT,nU,nV,nW,nX,nY,nZ,gA,gB,gC,gD,gE,gF,gG,gH,gI,gJ,gK,gL,gM,gN,gO,gP,gQ,gR,gS,gT,gU,gV,gW,gX,gY,gZ,fA,fB,fC,fD,fE,fF,fG,fH,fI,fJ,fK,fL,fM,fN,fO,fP,fQ,fR,fS,fT,fU,fV,fW,fX,fY,fZ,dA,dB,dC,dD,dE,dF,dG,dH,dI,dJ,dK,dL,dM,dN,dO,dP,dQ,dR,dS,dT,dU,dV,dW,dX,dY,dZ,cA,cB,cC,cD,cE,cF,cG,cH,cI,cJ,cK], defers := [] } : Act) → Ext w W0 → F f_ l_ a_ W0 := by
  intro  f_ l_ W0 a_ hf_ hl_ ha_ s0
  subst hf_ hl_ ha_
  refine (hF.out _ _ _ _).2 ?_
  refine wpAnyH_ready (rs := [7]) (by kernel_rfl) (by simp) ?_
  refine AllReadyH.cons (o := _) rfl (fun K hK => ?_) AllReadyH.nil
  go_simp
  refine hK.out _ _ (Ext.alloc s0 _) (fun _ => ?_)
  clear hK K
  try simp only [sxA, sxB, sxC, Act.put, sxD, sxE, sxF]
  refine name_any (fun W1 hW => ?_)
  have e1 : Ext W0 W1 := by rw [hW]; exact Ext.alloc (Ext.refl _) _
  have s1 := s0.trans e1
  have nb0 := hid (show W1.cell? ⟨W0.heap.size, 0, none⟩ = some (.int .i64 0) by rw [hW]; simp [go_sem])
  have nb1 := hid (show W1.cell? ⟨W0.heap.size, 1, none⟩ = some (.int .i64 0) by rw [hW]; simp [go_sem])
  have nd0 := hid (show W1.frozen? ⟨W0.heap.size, 0, none⟩ = false by rw [hW]; simp [go_sem])
  have nd1 := hid (show W1.frozen? ⟨W0.heap.size, 1, none⟩ = false by rw [hW]; simp [go_sem])
  clear hW
  refine (hF.out _ _ _ _).1 ?_
  exact N1_0 W0.heap.size _ _ W1 _ (by first | rfl | kernel_rfl) (by first | rfl | kernel_rfl) (by (try simp only [sxA, sxB, sxC, Act.put, sxD, sxE, sxF]); first | done | with_reducible rfl | rfl) s1 nb0 nb1 nd0 nd1 (hid s0.size)
 have N1_2 : ∀ (B25 : Nat) (f_ : Nat) (l_ : Array Bool) (W0 : World) (a_ : Act), f_ = 6 → l_ = #[true, true, true, false, false, false, false, true, false, false] → a_ = ({ tmps := #[yA,.slice (some ⟨gm, 0, none⟩) 4 4,yC,.pointer (some ⟨T, 0, none⟩),yE,yF,yG,yH,yI,yJ,yK,yL,yM,yN,yO,yP,yQ,yR,yS,yT,yU,yV,yW,yX,yY,.pointer (some ⟨B25, 0, none⟩),zA,zB,zC,zD,zE,zF,zG,zH,zI,zJ,zK,zL,zM,zN,zO,zP,zQ,zR,zS,zT,zU,zV,zW,zX,zY,zZ,uA,uB,uC,uD,uE,uF,uG,uH,uI,uJ,uK,uL,uM,uN,uO,uP,uQ,uR,uS,uT,uU,uV,uW,uX,uY,uZ,iA,iB,iC,iD,iE,iF,iG,iH,iI,iJ,iK,iL,iM,iN,iO,iP,iQ,iR,iS,iT,iU,iV,iW,iX,iY,iZ,oA,oB,oC,oD,oE,oF,oG,oH,oI,oJ,oK,oL,oM,oN,oO,oP,oQ,oR,.slice (some ⟨gm, 0, none⟩) 4 4,.agg #[.int .i64 100, .int .i64 10],.agg #[.int .i64 2200, .int .i64 198000, .int .i64 403, .int .i64 66],oV,oW,oX,oY,oZ,qA,qB,qC,qD,qE,qF,qG,qH,qI,qJ,qK,qL,qM,qN,qO,qP,qQ,qR,qS,qT,qU,qV,qW,qX,qY,qZ,rA,rB,rC,rD,rE,rF,rG,rH,rI,rJ,rK,rL,rM,rN,rO,rP,rQ,rR,rS,rT,rU,rV,rW,rX,rY,rZ,jA,jB,jC,jD,jE,jF,jG,jH,jI,jJ,jK,jL,jM,jN,jO,jP,jQ,jR,jS,jT,jU,jV,jW,jX,jY,jZ,nA,nB,nC,nD,nE,nF,nG,nH,nI,nJ,nK,nL,nM,nN,nO,nP,nQ,nR,nS,nT,nU,nV,nW,nX,nY,nZ,gA,gB,gC,gD,gE,gF,gG,gH,gI,gJ,gK,gL,gM,gN,gO,gP,gQ,gR,gS,gT,gU,gV,gW,gX,gY,gZ,fA,fB,fC,fD,fE,fF,fG,fH,fI,fJ,fK,fL,fM,fN,fO,fP,fQ,fR,fS,fT,fU,fV,fW,fX,fY,fZ,dA,dB,dC,dD,dE,dF,dG,dH,dI,dJ,dK,dL,dM,dN,dO,dP,dQ,dR,dS,dT,dU,dV,dW,dX,dY,dZ,cA,cB,cC,cD,cE,cF,cG,cH,cI,cJ,cK], defers := [] } : Act) → Ext w W0 → Hid (W0.cell? ⟨B25, 0, none⟩ = some (.int .i64 0)) → Hid (W0.cell? ⟨B25, 1, none⟩ = some (.int .i64 0)) → Hid (W0.frozen? ⟨B25, 0, none⟩ = false) → Hid (W0.frozen? ⟨B25, 1, none⟩ = false) → Hid (w.heap.size ≤ B25) → F f_ l_ a_ W0 := by
  intro B25 f_ l_ W0 a_ hf_ hl_ ha_ s0 b7_0 b7_1 d7_0 d7_1 z7
  subst hf_ hl_ ha_
  refine (hF.out _ _ _ _).2 ?_
  clear N1_1
  refine wpAnyH_ready (rs := [3]) (by kernel_rfl) (by simp) ?_
  refine AllReadyH.cons (o := _) rfl (fun K hK => ?_) AllReadyH.nil
  refine tk_call (by kernel_rfl) (cPrf1 _ 4 _ (hm.out.ext s0)) (by kernel_rfl) ?_; rintro e W1 ⟨rfl, e1⟩; refine ⟨_, rfl, ?_⟩
  have s1 := s0.trans e1
  refine hK.out _ _ s1 (fun _ => ?_)
  clear hK K
  try simp only [sxA, sxB, sxC, Act.put, sxD, sxE, sxF]
  refine tkB (i := 4) (v := ?_) rfl hpan ?yl ?_
  case yl => (intro w hSw; have k_ := hRD_.out w hSw; go_simp); with_reducible rfl
  try simp only [sxA, sxB, sxC, Act.put, sxD, sxE, sxF]
  refine tkB (i := 5) (v := ?_) rfl hpan ?yl ?_
  case yl => (intro w hSw; have k_ := hRD_.out w hSw; go_simp); with_reducible rfl
  try simp only [sxA, sxB, sxC, Act.put, sxD, sxE, sxF]
  refine tkB (i := 6) (v := ?_) rfl hpan ?yl ?_
  case yl => (intro w hSw; have k_ := hRD_.out w hSw; go_simp); with_reducible rfl
  try simp only [sxA, sxB, sxC, Act.put, sxD, sxE, sxF]
  refine (hF.out _ _ _ _).1 ?_
  exact N1_0 B25 _ _ W1 _ (by first | rfl | kernel_rfl) (by first | rfl | kernel_rfl) (by (try simp only [sxA, sxB, sxC, Act.put, sxD, sxE, sxF]); first | done | with_reducible rfl | rfl) s1 (hid (e1.cell b7_0.out)) (hid (e1.cell b7_1.out)) (hid ((e1.frozen (cell_lt b7_0.out)).trans d7_0.out)) (hid ((e1.frozen (cell_lt b7_1.out)).trans d7_1.out)) z7
 have N1_3 : ∀ (f_ : Nat) (l_ : Array Bool) (W0 : World) (a_ : Act), f_ = 7 → l_ = #[true, true, true, false, false, false, false, false, false, false] → a_ = ({ tmps := #[yA,.slice (some ⟨gm, 0, none⟩) 4 4,yC,.pointer (some ⟨T, 0, none⟩),yE,yF,yG,yH,yI,yJ,yK,yL,yM,yN,yO,yP,yQ,yR,yS,yT,yU,yV,yW,yX,yY,yZ,zA,zB,zC,zD,zE,zF,zG,zH,zI,zJ,zK,zL,zM,zN,zO,zP,zQ,zR,zS,zT,zU,zV,zW,zX,zY,zZ,uA,uB,uC,uD,uE,uF,uG,uH,uI,uJ,uK,uL,uM,uN,uO,uP,uQ,uR,uS,uT,uU,uV,uW,uX,uY,uZ,iA,iB,iC,iD,iE,iF,iG,iH,iI,iJ,iK,iL,iM,iN,iO,iP,iQ,iR,iS,iT,iU,iV,iW,iX,iY,iZ,oA,oB,oC,oD,oE,oF,oG,oH,oI,oJ,oK,oL,oM,oN,oO,oP,oQ,oR,.slice (some ⟨gm, 0, none⟩) 4 4,.agg #[.int .i64 100, .int .i64 10],.agg #[.int .i64 2200, .int .i64 198000, .int .i64 403, .int .i64 66],oV,oW,oX,oY,oZ,qA,qB,qC,qD,qE,qF,qG,qH,qI,qJ,qK,qL,qM,qN,qO,qP,qQ,qR,qS,qT,qU,qV,qW,qX,qY,qZ,rA,rB,rC,rD,rE,rF,rG,rH,rI,rJ,rK,rL,rM,rN,rO,rP,rQ,rR,rS,rT,rU,rV,rW,rX,rY,rZ,jA,jB,jC,jD,jE,jF,jG,jH,jI,jJ,jK,jL,jM,jN,jO,jP,jQ,jR,jS,jT,jU,jV,jW,jX,jY,jZ,nA,nB,nC,nD,nE,nF,nG,nH,nI,nJ,nK,nL,nM,nN,nO,nP,nQ,nR,nS,nT,nU,nV,nW,nX,nY,nZ,gA,gB,gC,gD,gE,gF,gG,gH,gI,gJ,gK,gL,gM,gN,gO,gP,gQ,gR,gS,gT,gU,gV,gW,gX,gY,gZ,fA,fB,fC,fD,fE,fF,fG,fH,fI,fJ,fK,fL,fM,fN,fO,fP,fQ,fR,fS,fT,fU,fV,fW,fX,fY,fZ,dA,dB,dC,dD,dE,dF,dG,dH,dI,dJ,dK,dL,dM,dN,dO,dP,dQ,dR,dS,dT,dU,dV,dW,dX,dY,dZ,cA,cB,cC,cD,cE,cF,cG,cH,cI,cJ,cK], defers := [] } : Act) → Ext w W0 → F f_ l_ a_ W0 := by
  intro  f_ l_ W0 a_ hf_ hl_ ha_ s0
  subst hf_ hl_ ha_
  refine (hF.out _ _ _ _).2 ?_
  clear N1_0
  refine wpAnyH_ready (rs := [3, 7]) (by kernel_rfl) (by simp) ?_
  refine AllReadyH.cons (o := _) rfl (fun K hK => ?_) ?_
  ·skip
   refine tk_call (by kernel_rfl) (cPrf1 _ 4 _ (hm.out.ext s0)) (by kernel_rfl) ?_; rintro e W1 ⟨rfl, e1⟩; refine ⟨_, rfl, ?_⟩
   have s1 := s0.trans e1
   refine hK.out _ _ s1 (fun _ => ?_)
   clear hK K
   try simp only [sxA, sxB, sxC, Act.put, sxD, sxE, sxF]
   refine tkB (i := 4) (v := ?_) rfl hpan ?yl ?_
   case yl => (intro w hSw; have k_ := hRD_.out w hSw; go_simp); with_reducible rfl
   try simp only [sxA, sxB, sxC, Act.put, sxD, sxE, sxF]
   refine tkB (i := 5) (v := ?_) rfl hpan ?yl ?_
   case yl => (intro w hSw; have k_ := hRD_.out w hSw; go_simp); with_reducible rfl
   try simp only [sxA, sxB, sxC, Act.put, sxD, sxE, sxF]
   refine tkB (i := 6) (v := ?_) rfl hpan ?yl ?_
   case yl => (intro w hSw; have k_ := hRD_.out w hSw; go_simp); with_reducible rfl
   try simp only [sxA, sxB, sxC, Act.put, sxD, sxE, sxF]
   refine (hF.out _ _ _ _).1 ?_
   exact N1_1 _ _ W1 _ (by first | rfl | kernel_rfl) (by first | rfl | kernel_rfl) (by (try simp only [sxA, sxB, sxC, Act.put, sxD, sxE, sxF]); first | done | with_reducible rfl | rfl) s1
  refine AllReadyH.cons (o := _) rfl (fun K hK => ?_) ?_
  ·skip
   go_simp
   refine hK.out _ _ (Ext.alloc s0 _) (fun _ => ?_)
   clear hK K
   try simp only [sxA, sxB, sxC, Act.put, sxD, sxE, sxF]
   refine name_any (fun W1 hW => ?_)
   have e1 : Ext W0 W1 := by rw [hW]; exact Ext.alloc (Ext.refl _) _
   have s1 := s0.trans e1
   have nb0 := hid (show W1.cell? ⟨W0.heap.size, 0, none⟩ = some (.int .i64 0) by rw [hW]; simp [go_sem])
   have nb1 := hid (show W1.cell? ⟨W0.heap.size, 1, none⟩ = some (.int .i64 0) by rw [hW]; simp [go_sem])
   have nd0 := hid (show W1.frozen? ⟨W0.heap.size, 0, none⟩ = false by rw [hW]; simp [go_sem])
   have nd1 := hid (show W1.frozen? ⟨W0.heap.size, 1, none⟩ = false by rw [hW]; simp [go_sem])
   clear hW
   refine (hF.out _ _ _ _).1 ?_
   exact N1_2 W0.heap.size _ _ W1 _ (by first | rfl | kernel_rfl) (by first | rfl | kernel_rfl) (by (try simp only [sxA, sxB, sxC, Act.put, sxD, sxE, sxF]); first | done | with_reducible rfl | rfl) s1 nb0 nb1 nd0 nd1 (hid s0.size)
  exact AllReadyH.nil
 have N1_4 : ∀ (B25 : Nat) (f_ : Nat) (l_ : Array Bool) (W0 : World) (a_ : Act), f_ = 7 → l_ = #[true, true, false, false, false, false, false, true, false, false] → a_ = ({ tmps := #[yA,.slice (some ⟨gm, 0, none⟩) 4 4,yC,.pointer (some ⟨T, 0, none⟩),yE,yF,yG,yH,yI,yJ,yK,yL,yM,yN,yO,yP,yQ,yR,yS,yT,yU,yV,yW,yX,yY,.pointer (some ⟨B25, 0, none⟩),zA,zB,zC,zD,zE,zF,zG,zH,zI,zJ,zK,zL,zM,zN,zO,zP,zQ,zR,zS,zT,zU,zV,zW,zX,zY,zZ,uA,uB,uC,uD,uE,uF,uG,uH,uI,uJ,uK,uL,uM,uN,uO,uP,uQ,uR,uS,uT,uU,uV,uW,uX,uY,uZ,iA,iB,iC,iD,iE,iF,iG,iH,iI,iJ,iK,iL,iM,iN,iO,iP,iQ,iR,iS,iT,iU,iV,iW,iX,iY,iZ,oA,oB,oC,oD,oE,oF,oG,oH,oI,oJ,oK,oL,oM,oN,oO,oP,oQ,oR,.slice (some ⟨gm, 0, none⟩) 4 4,.agg #[.int .i64 100, .int .i64 10],oU,oV,oW,oX,oY,oZ,qA,qB,qC,qD,qE,qF,qG,qH,qI,qJ,qK,qL,qM,qN,qO,qP,qQ,qR,qS,qT,qU,qV,qW,qX,qY,qZ,rA,rB,rC,rD,rE,rF,rG,rH,rI,rJ,rK,rL,rM,rN,rO,rP,rQ,rR,rS,rT,rU,rV,rW,rX,rY,rZ,jA,jB,jC,jD,jE,jF,jG,jH,jI,jJ,jK,jL,jM,jN,jO,jP,jQ,jR,jS,jT,jU,jV,jW,jX,jY,jZ,nA,nB,nC,nD,nE,nF,nG,nH,nI,nJ,nK,nL,nM,nN,nO,nP,nQ,nR,nS,nT,nU,nV,nW,nX,nY,nZ,gA,gB,gC,gD,gE,gF,gG,gH,gI,gJ,gK,gL,gM,gN,gO,gP,gQ,gR,gS,gT,gU,gV,gW,gX,gY,gZ,fA,fB,fC,fD,fE,fF,fG,fH,fI,fJ,fK,fL,fM,fN,fO,fP,fQ,fR,fS,fT,fU,fV,fW,fX,fY,fZ,dA,dB,dC,dD,dE,dF,dG,dH,dI,dJ,dK,dL,dM,dN,dO,dP,dQ,dR,dS,dT,dU,dV,dW,dX,dY,dZ,cA,cB,cC,cD,cE,cF,cG,cH,cI,cJ,cK], defers := [] } : Act) → Ext w W0 → Hid (W0.cell? ⟨B25, 0, none⟩ = some (.int .i64 0)) → Hid (W0.cell? ⟨B25, 1, none⟩ = some (.int .i64 0)) → Hid (W0.frozen? ⟨B25, 0, none⟩ = false) → Hid (W0.frozen? ⟨B25, 1, none⟩ = false) → Hid (w.heap.size ≤ B25) → F f_ l_ a_ W0 := by
  intro B25 f_ l_ W0 a_ hf_ hl_ ha_ s0 b7_0 b7_1 d7_0 d7_1 z7
  subst hf_ hl_ ha_
  refine (hF.out _ _ _ _).2 ?_
  clear N1_0 N1_1 N1_3
  refine wpAnyH_ready (rs := [2]) (by kernel_rfl) (by simp) ?_
  refine AllReadyH.cons (o := _) rfl (fun K hK => ?_) AllReadyH.nil
  refine tk_call (by kernel_rfl) (proofL_any 2200 198000 403 66 _) (by kernel_rfl) ?_; rintro e W1 ⟨rfl, e1⟩; refine ⟨_, rfl, ?_⟩
  have s1 := s0.trans e1
  refine hK.out _ _ s1 (fun _ => ?_)
  clear hK K
  try simp only [sxA, sxB, sxC, Act.put, sxD, sxE, sxF]
  refine (hF.out _ _ _ _).1 ?_
  exact N1_2 B25 _ _ W1 _ (by first | rfl | kernel_rfl) (by first | rfl | kernel_rfl) (by (try simp only [sxA, sxB, sxC, Act.put, sxD, sxE, sxF]); first | done | with_reducible rfl | rfl) s1 (hid (e1.cell b7_0.out)) (hid (e1.cell b7_1.out)) (hid ((e1.frozen (cell_lt b7_0.out)).trans d7_0.out)) (hid ((e1.frozen (cell_lt b7_1.out)).trans d7_1.out)) z7
 have N1_5 : ∀ (f_ : Nat) (l_ : Array Bool) (W0 : World) (a_ : Act), f_ = 8 → l_ = #[true, true, false, false, false, false, false, false, false, false] → a_ = ({ tmps := #[yA,.slice (some ⟨gm, 0, none⟩) 4 4,yC,.pointer (some ⟨T, 0, none⟩),yE,yF,yG,yH,yI,yJ,yK,yL,yM,yN,yO,yP,yQ,yR,yS,yT,yU,yV,yW,yX,yY,yZ,zA,zB,zC,zD,zE,zF,zG,zH,zI,zJ,zK,zL,zM,zN,zO,zP,zQ,zR,zS,zT,zU,zV,zW,zX,zY,zZ,uA,uB,uC,uD,uE,uF,uG,uH,uI,uJ,uK,uL,uM,uN,uO,uP,uQ,uR,uS,uT,uU,uV,uW,uX,uY,uZ,iA,iB,iC,iD,iE,iF,iG,iH,iI,iJ,iK,iL,iM,iN,iO,iP,iQ,iR,iS,iT,iU,iV,iW,iX,iY,iZ,oA,oB,oC,oD,oE,oF,oG,oH,oI,oJ,oK,oL,oM,oN,oO,oP,oQ,oR,.slice (some ⟨gm, 0, none⟩) 4 4,.agg #[.int .i64 100, .int .i64 10],oU,oV,oW,oX,oY,oZ,qA,qB,qC,qD,qE,qF,qG,qH,qI,qJ,qK,qL,qM,qN,qO,qP,qQ,qR,qS,qT,qU,qV,qW,qX,qY,qZ,rA,rB,rC,rD,rE,rF,rG,rH,rI,rJ,rK,rL,rM,rN,rO,rP,rQ,rR,rS,rT,rU,rV,rW,rX,rY,rZ,jA,jB,jC,jD,jE,jF,jG,jH,jI,jJ,jK,jL,jM,jN,jO,jP,jQ,jR,jS,jT,jU,jV,jW,jX,jY,jZ,nA,nB,nC,nD,nE,nF,nG,nH,nI,nJ,nK,nL,nM,nN,nO,nP,nQ,nR,nS,nT,nU,nV,nW,nX,nY,nZ,gA,gB,gC,gD,gE,gF,gG,gH,gI,gJ,gK,gL,gM,gN,gO,gP,gQ,gR,gS,gT,gU,gV,gW,gX,gY,gZ,fA,fB,fC,fD,fE,fF,fG,fH,fI,fJ,fK,fL,fM,fN,fO,fP,fQ,fR,fS,fT,fU,fV,fW,fX,fY,fZ,dA,dB,dC,dD,dE,dF,dG,dH,dI,dJ,dK,dL,dM,dN,dO,dP,dQ,dR,dS,dT,dU,dV,dW,dX,dY,dZ,cA,cB,cC,cD,cE,cF,cG,cH,cI,cJ,cK], defers := [] } : Act) → Ext w W0 → F f_ l_ a_ W0 := by
  intro  f_ l_ W0 a_ hf_ hl_ ha_ s0
  subst hf_ hl_ ha_
  refine (hF.out _ _ _ _).2 ?_
  clear N1_0 N1_1 N1_2
  refine wpAnyH_ready (rs := [2, 7]) (by kernel_rfl) (by simp) ?_
  refine AllReadyH.cons (o := _) rfl (fun K hK => ?_) ?_
  ·skip
   refine tk_call (by kernel_rfl) (proofL_any 2200 198000 403 66 _) (by kernel_rfl) ?_; rintro e W1 ⟨rfl, e1⟩; refine ⟨_, rfl, ?_⟩
   have s1 := s0.trans e1
   refine hK.out _ _ s1 (fun _ => ?_)
   clear hK K
   try simp only [sxA, sxB, sxC, Act.put, sxD, sxE, sxF]
   refine (hF.out _ _ _ _).1 ?_
   exact N1_3 _ _ W1 _ (by first | rfl | kernel_rfl) (by first | rfl | kernel_rfl) (by (try simp only [sxA, sxB, sxC, Act.put, sxD, sxE, sxF]); first | done | with_reducible rfl | rfl) s1
  refine AllReadyH.cons (o := _) rfl (fun K hK => ?_) ?_
  ·skip
   go_simp
   refine hK.out _ _ (Ext.alloc s0 _) (fun _ => ?_)
   clear hK K
   try simp only [sxA, sxB, sxC, Act.put, sxD, sxE, sxF]
   refine name_any (fun W1 hW => ?_)
   have e1 : Ext W0 W1 := by rw [hW]; exact Ext.alloc (Ext.refl _) _
   have s1 := s0.trans e1
   have nb0 := hid (show W1.cell? ⟨W0.heap.size, 0, none⟩ = some (.int .i64 0) by rw [hW]; simp [go_sem])
   have nb1 := hid (show W1.cell? ⟨W0.heap.size, 1, none⟩ = some (.int .i64 0) by rw [hW]; simp [go_sem])
   have nd0 := hid (show W1.frozen? ⟨W0.heap.size, 0, none⟩ = false by rw [hW]; simp [go_sem])
   have nd1 := hid (show W1.frozen? ⟨W0.heap.size, 1, none⟩ = false by rw [hW]; simp [go_sem])
   clear hW
   refine (hF.out _ _ _ _).1 ?_
   exact N1_4 W0.heap.size _ _ W1 _ (by first | rfl | kernel_rfl) (by first | rfl | kernel_rfl) (by (try simp only [sxA, sxB, sxC, Act.put, sxD, sxE, sxF]); first | done | with_reducible rfl | rfl) s1 nb0 nb1 nd0 nd1 (hid s0.size)
  exact AllReadyH.nil
 rw [hA_.out]
 refine (hF.out _ _ _ _).2 ?_
 refine tkB (i := 0) (v := ?_) rfl hpan ?yl ?_
 case yl => (intro w hSw; have k_ := hRD_.out w hSw; go_simp); with_reducible rfl
 try simp only [sxA, sxB, sxC, Act.put, sxD, sxE, sxF]
 refine tkB (i := 1) (v := ?_) rfl hpan ?yl ?_
 case yl => (intro w hSw; have k_ := hRD_.out w hSw; go_simp); with_reducible rfl
 try simp only [sxA, sxB, sxC, Act.put, sxD, sxE, sxF]
 refine (hF.out _ _ _ _).1 ?_
 exact N1_5 _ _ W0 _ (by first | rfl | kernel_rfl) (by first | rfl | kernel_rfl) (by (try simp only [sxA, sxB, sxC, Act.put, sxD, sxE, sxF]); first | done | with_reducible rfl | rfl) s0
set_option maxHeartbeats 40000000 in
theorem stW13 {A_ : Act} {yA yC yE yF yG yH yI yJ yK yL yM yN yO yP yQ yR yS yT yU yV yW yX yY yZ zA zB zC zD zE zF zG zH zI zJ zK zL zM zN zO zP zQ zR zS zT zU zV zW zX zY zZ uA uB uC uD uE uF uG uH uI uJ uK uL uM uN uO uP uQ uR uS uT uU uV uW uX uY uZ iA iB iC iD iE iF iG iH iI iJ iK iL iM iN iO iP iQ iR iS iT iU iV iW iX iY iZ oA oB oC oD oE oF oG oH oI oJ oK oL oM oN oO oP oQ oR oS oT oU oV oW oX oY oZ qA qB qC qD qE qF qG qH qI qJ qK qL qM qN qO qP qQ qR qS qT qU qV qW qX qY qZ rA rB rC rD rE rF rG rH rI rJ rK rL rM rN rO rP rQ rR rS rT rU rV rW rX rY rZ jA jB jC jD jE jF jG jH jI jJ jK jL jM jN jO jP jQ jR jS jT jU jV jW jX jY jZ nA nB nC nD nE nF nG nH nI nJ nK nL nM nN nO nP nQ nR nS nT nU nV nW nX nY nZ gA gB gC gD gE gF gG gH gI gJ gK gL gM gN gO gP gQ gR gS gT gU gV gW gX gY gZ fA fB fC fD fE fF fG fH fI fJ fK fL fM fN fO fP fQ fR fS fT fU fV fW fX fY fZ dA dB dC dD dE dF dG dH dI dJ dK dL dM dN dO dP dQ dR dS dT dU dV dW dX dY dZ cA cB cC cD cE cF cG cH cI cJ cK : Value} {gm T : Nat} {w : World} (hA0_ : A_ = { tmps := #[yA, .slice (some ⟨gm, 0, none⟩) 4 4, yC, .pointer (some ⟨T, 0, none⟩), yE, yF, yG, yH, yI, yJ, yK, yL, yM, yN, yO, yP, yQ, yR, yS, yT, yU, yV, yW, yX, yY, yZ, zA, zB, zC, zD, zE, zF, zG, zH, zI, zJ, zK, zL, zM, zN, zO, zP, zQ, zR, zS, zT, zU, zV, zW, zX, zY, zZ, uA, uB, uC, uD, uE, uF, uG, uH, uI, uJ, uK, uL, uM, uN, uO, uP, uQ, uR, uS, uT, uU, uV, uW, uX, uY, uZ, iA, iB, iC, iD, iE, iF, iG, iH, iI, iJ, iK, iL, iM, iN, iO, iP, iQ, iR, iS, iT, iU, iV, iW, iX, iY, iZ, oA, oB, oC, oD, oE, oF, oG, oH, oI, oJ, oK, oL, oM, oN, oO, oP, oQ, oR, oS, oT, oU, oV, oW, oX, oY, oZ, qA, qB, qC, qD, qE, qF, qG, qH, qI, qJ, qK, qL, qM, qN, qO, qP, qQ, qR, qS, qT, qU, qV, qW, qX, qY, qZ, rA, rB, rC, rD, rE, rF, rG, rH, rI, rJ, rK, rL, rM, rN, rO, rP, rQ, rR, rS, rT, rU, rV, rW, rX, rY, rZ, jA, jB, jC, jD, jE, jF, jG, jH, jI, jJ, jK, jL, jM, jN, jO, jP, jQ, jR, jS, jT, jU, jV, jW, jX, jY, jZ, nA, nB, nC, nD, nE, nF, nG, nH, nI, nJ, nK, nL, nM, nN, nO, nP, nQ, nR, nS, nT, nU, nV, nW, nX, nY, nZ, gA, gB, gC, gD, gE, gF, gG, gH, gI, gJ, gK, gL, gM, gN, gO, gP, gQ, gR, gS, gT, gU, gV, gW, gX, gY, gZ, fA, fB, fC, fD, fE, fF, fG, fH, fI, fJ, fK, fL, fM, fN, fO, fP, fQ, fR, fS, fT, fU, fV, fW, fX, fY, fZ, dA, dB, dC, dD, dE, dF, dG, dH, dI, dJ, dK, dL, dM, dN, dO, dP, dQ, dR, dS, dT, dU, dV, dW, dX, dY, dZ, cA, cB, cC, cD, cE, cF, cG, cH, cI, cJ, cK], defers := [] }) (hm : Mts w (some ⟨gm, 0, none⟩) mL) (t0 : w.cell? ⟨T, 0, none⟩ = some (.int .i64 100)) (t1 : w.cell? ⟨T, 1, none⟩ = some (.int .i64 10)) :
 Code.wp Try.prog (rgn Try.f18 13) (fun e a' w' => e = .normal ∧ ∃ (B27 : Nat), a' = ({ tmps := #[yA,.slice (some ⟨gm, 0, none⟩) 4 4,yC,.pointer (some ⟨T, 0, none⟩),yE,yF,yG,yH,yI,yJ,yK,yL,yM,yN,yO,yP,yQ,yR,yS,yT,yU,yV,yW,yX,yY,yZ,zA,.pointer (some ⟨B27, 0, none⟩),.int .i64 14,zD,zE,zF,zG,zH,zI,zJ,zK,zL,zM,zN,zO,zP,zQ,zR,zS,zT,zU,zV,zW,zX,zY,zZ,uA,uB,uC,uD,uE,uF,uG,uH,uI,uJ,uK,uL,uM,uN,uO,uP,uQ,uR,uS,uT,uU,uV,uW,uX,uY,uZ,iA,iB,iC,iD,iE,iF,iG,iH,iI,iJ,iK,iL,iM,iN,iO,iP,iQ,iR,iS,iT,iU,iV,iW,iX,iY,iZ,oA,oB,oC,oD,oE,oF,oG,oH,oI,oJ,oK,oL,oM,oN,oO,oP,oQ,oR,oS,oT,oU,oV,oW,oX,.tuple #[.agg #[.int .i64 0, .int .i64 0], .int .i64 14],.slice (some ⟨gm, 0, none⟩) 4 4,.agg #[.int .i64 100, .int .i64 10],.agg #[.int .i64 1, .int .i64 50, .int .i64 0, .int .i64 0],.tuple #[.agg #[.int .i64 0, .int .i64 0], .int .i64 14],.agg #[.int .i64 0, .int .i64 0],.int .i64 14,qF,qG,qH,qI,qJ,qK,qL,qM,qN,qO,qP,qQ,qR,qS,qT,qU,qV,qW,qX,qY,qZ,rA,rB,rC,rD,rE,rF,rG,rH,rI,rJ,rK,rL,rM,rN,rO,rP,rQ,rR,rS,rT,rU,rV,rW,rX,rY,rZ,jA,jB,jC,jD,jE,jF,jG,jH,jI,jJ,jK,jL,jM,jN,jO,jP,jQ,jR,jS,jT,jU,jV,jW,jX,jY,jZ,nA,nB,nC,nD,nE,nF,nG,nH,nI,nJ,nK,nL,nM,nN,nO,nP,nQ,nR,nS,nT,nU,nV,nW,nX,nY,nZ,gA,gB,gC,gD,gE,gF,gG,gH,gI,gJ,gK,gL,gM,gN,gO,gP,gQ,gR,gS,gT,gU,gV,gW,gX,gY,gZ,fA,fB,fC,fD,fE,fF,fG,fH,fI,fJ,fK,fL,fM,fN,fO,fP,fQ,fR,fS,fT,fU,fV,fW,fX,fY,fZ,dA,dB,dC,dD,dE,dF,dG,dH,dI,dJ,dK,dL,dM,dN,dO,dP,dQ,dR,dS,dT,dU,dV,dW,dX,dY,dZ,cA,cB,cC,cD,cE,cF,cG,cH,cI,cJ,cK], defers := [] } : Act) ∧ Ext w w' ∧ w'.cell? ⟨B27, 0, none⟩ = some (.int .i64 0) ∧ w'.cell? ⟨B27, 1, none⟩ = some (.int .i64 0) ∧ w'.frozen? ⟨B27, 0, none⟩ = false ∧ w'.frozen? ⟨B27, 1, none⟩ = false ∧ w.heap.size ≤ B27) A_ w := by
 conv => arg 2; whnf
 refine st_intro (fun Q2 hQ2 => ?_)
 have hA_ := hid hA0_
 clear hA0_
 have hpan : ∀ c a a' w w', Q2 (.panic c) a w → Q2 (.panic c) a' w' := by rw [hQ2]; rintro c a a' w w' ⟨h, _⟩; cases h
 replace hQ2 := hid hQ2
 replace hm := hid hm
 have hRD_ := hid (fun w' (x_ : Ext w w') => And.intro (Ext.cell x_ t0) (Ext.cell x_ t1))
 refine wp_region_held_drew (S := fun w' => Ext w w') (by kernel_rfl) exE fun hHeld => ?_
 try simp only [List.append_eq, List.cons_append, List.nil_append]
 refine name_any (fun W0 hW => ?_)
 have s0 : Ext w W0 := by rw [hW]; exact hHeld
 clear hW hHeld
 refine wpF_intro 10 (by kernel_rfl) (fun F hF => ?_)
 replace hF := hid hF
 have N1_0 : ∀ (B27 : Nat) (f_ : Nat) (l_ : Array Bool) (W0 : World) (a_ : Act), f_ = 2 → l_ = #[true, true, true, true, true, true, true, true, false, false] → a_ = ({ tmps := #[yA,.slice (some ⟨gm, 0, none⟩) 4 4,yC,.pointer (some ⟨T, 0, none⟩),yE,yF,yG,yH,yI,yJ,yK,yL,yM,yN,yO,yP,yQ,yR,yS,yT,yU,yV,yW,yX,yY,yZ,zA,.pointer (some ⟨B27, 0, none⟩),zC,zD,zE,zF,zG,zH,zI,zJ,zK,zL,zM,zN,zO,zP,zQ,zR,zS,zT,zU,zV,zW,zX,zY,zZ,uA,uB,uC,uD,uE,uF,uG,uH,uI,uJ,uK,uL,uM,uN,uO,uP,uQ,uR,uS,uT,uU,uV,uW,uX,uY,uZ,iA,iB,iC,iD,iE,iF,iG,iH,iI,iJ,iK,iL,iM,iN,iO,iP,iQ,iR,iS,iT,iU,iV,iW,iX,iY,iZ,oA,oB,oC,oD,oE,oF,oG,oH,oI,oJ,oK,oL,oM,oN,oO,oP,oQ,oR,oS,oT,oU,oV,oW,oX,.tuple #[.agg #[.int .i64 0, .int .i64 0], .int .i64 14],.slice (some ⟨gm, 0, none⟩) 4 4,.agg #[.int .i64 100, .int .i64 10],.agg #[.int .i64 1, .int .i64 50, .int .i64 0, .int .i64 0],.tuple #[.agg #[.int .i64 0, .int .i64 0], .int .i64 14],.agg #[.int .i64 0, .int .i64 0],.int .i64 14,qF,qG,qH,qI,qJ,qK,qL,qM,qN,qO,qP,qQ,qR,qS,qT,qU,qV,qW,qX,qY,qZ,rA,rB,rC,rD,rE,rF,rG,rH,rI,rJ,rK,rL,rM,rN,rO,rP,rQ,rR,rS,rT,rU,rV,rW,rX,rY,rZ,jA,jB,jC,jD,jE,jF,jG,jH,jI,jJ,jK,jL,jM,jN,jO,jP,jQ,jR,jS,jT,jU,jV,jW,jX,jY,jZ,nA,nB,nC,nD,nE,nF,nG,nH,nI,nJ,nK,nL,nM,nN,nO,nP,nQ,nR,nS,nT,nU,nV,nW,nX,nY,nZ,gA,gB,gC,gD,gE,gF,gG,gH,gI,gJ,gK,gL,gM,gN,gO,gP,gQ,gR,gS,gT,gU,gV,gW,gX,gY,gZ,fA,fB,fC,fD,fE,fF,fG,fH,fI,fJ,fK,fL,fM,fN,fO,fP,fQ,fR,fS,fT,fU,fV,fW,fX,fY,fZ,dA,dB,dC,dD,dE,dF,dG,dH,dI,dJ,dK,dL,dM,dN,dO,dP,dQ,dR,dS,dT,dU,dV,dW,dX,dY,dZ,cA,cB,cC,cD,cE,cF,cG,cH,cI,cJ,cK], defers := [] } : Act) → Ext w W0 → Hid (W0.cell? ⟨B27, 0, none⟩ = some (.int .i64 0)) → Hid (W0.cell? ⟨B27, 1, none⟩ = some (.int .i64 0)) → Hid (W0.frozen? ⟨B27, 0, none⟩ = false) → Hid (W0.frozen? ⟨B27, 1, none⟩ = false) → Hid (w.heap.size ≤ B27) → F f_ l_ a_ W0 := by
  intro B27 f_ l_ W0 a_ hf_ hl_ ha_ s0 b7_0 b7_1 d7_0 d7_1 z7
  subst hf_ hl_ ha_
  refine (hF.out _ _ _ _).2 ?_
  refine wpAnyH_ready (rs := [8]) (by kernel_rfl) (by simp) ?_
  refine AllReadyH.cons (o := _) rfl (fun K hK => ?_) AllReadyH.nil
  have f0 := b7_0.out
  have g0 := d7_0.out
  have f1 := b7_1.out
  have g1 := d7_1.out
  have l0_ := s0.size
  have z0_ := z7.out
  go_simp
  refine hK.out _ _ exE (fun _ => ?_)
  clear hK K
  try simp only [sxA, sxB, sxC, Act.put, sxD, sxE, sxF]
  refine name_any (fun W1 hW => ?_)
  have s1 : Ext w W1 := by rw [hW]; exact exE
  have nb0 := hid (show W1.cell? ⟨B27, 0, none⟩ = some (.int .i64 0) by rw [hW]; simp [go_sem, f0, f1])
  have nb1 := hid (show W1.cell? ⟨B27, 1, none⟩ = some (.int .i64 0) by rw [hW]; simp [go_sem, f0, f1])
  have nd0 := hid (show W1.frozen? ⟨B27, 0, none⟩ = false by rw [hW]; simp [go_sem, World.frozen?_setCell, g0, g1])
  have nd1 := hid (show W1.frozen? ⟨B27, 1, none⟩ = false by rw [hW]; simp [go_sem, World.frozen?_setCell, g0, g1])
  clear hW
  refine tkB (i := 9) (v := ?_) rfl hpan ?yl ?_
  case yl => (intro w hSw; have k_ := hRD_.out w hSw; go_simp); with_reducible rfl
  try simp only [sxA, sxB, sxC, Act.put, sxD, sxE, sxF]
  refine wpAnyH_done (by kernel_rfl) ?_ _
  try simp only [sxA, sxB, sxC, Act.put, sxD, sxE, sxF]
  rw [hQ2.out]
  refine ⟨rfl, B27, ?eq1_1, s1, nb0.out, nb1.out, nd0.out, nd1.out, z7.out⟩
  case eq1_1 => (first | with_reducible rfl | rfl)
 have N1_1 : ∀ (f_ : Nat) (l_ : Array Bool) (W0 : World) (a_ : Act), f_ = 3 → l_ = #[true, true, true, true, true, true, true, false, false, false] → a_ = ({ tmps := #[yA,.slice (some ⟨gm, 0, none⟩) 4 4,yC,.pointer (some ⟨T, 0, none⟩),yE,yF,yG,yH,yI,yJ,yK,yL,yM,yN,yO,yP,yQ,yR,yS,yT,yU,yV,yW,yX,yY,yZ,zA,zB,zC,zD,zE,zF,zG,zH,zI,zJ,zK,zL,zM,zN,zO,zP,zQ,zR,zS,zT,zU,zV,zW,zX,zY,zZ,uA,uB,uC,uD,uE,uF,uG,uH,uI,uJ,uK,uL,uM,uN,uO,uP,uQ,uR,uS,uT,uU,uV,uW,uX,uY,uZ,iA,iB,iC,iD,iE,iF,iG,iH,iI,iJ,iK,iL,iM,iN,iO,iP,iQ,iR,iS,iT,iU,iV,iW,iX,iY,iZ,oA,oB,oC,oD,oE,oF,oG,oH,oI,oJ,oK,oL,oM,oN,oO,oP,oQ,oR,oS,oT,oU,oV,oW,oX,.tuple #[.agg #[.int .i64 0, .int .i64 0], .int .i64 14],.slice (some ⟨gm, 0, none⟩) 4 4,.agg #[.int .i64 100, .int .i64 10],.agg #[.int .i64 1, .int .i64 50, .int .i64 0, .int .i64 0],.tuple #[.agg #[.int .i64 0, .int .i64 0], .int .i64 14],.agg #[.int .i64 0, .int .i64 0],.int .i64 14,qF,qG,qH,qI,qJ,qK,qL,qM,qN,qO,qP,qQ,qR,qS,qT,qU,qV,qW,qX,qY,qZ,rA,rB,rC,rD,rE,rF,rG,rH,rI,rJ,rK,rL,rM,rN,rO,rP,rQ,rR,rS,rT,rU,rV,rW,rX,rY,rZ,jA,jB,jC,jD,jE,jF,jG,jH,jI,jJ,jK,jL,jM,jN,jO,jP,jQ,jR,jS,jT,jU,jV,jW,jX,jY,jZ,nA,nB,nC,nD,nE,nF,nG,nH,nI,nJ,nK,nL,nM,nN,nO,nP,nQ,nR,nS,nT,nU,nV,nW,nX,nY,nZ,gA,gB,gC,gD,gE,gF,gG,gH,gI,gJ,gK,gL,gM,gN,gO,gP,gQ,gR,gS,gT,gU,gV,gW,gX,gY,gZ,fA,fB,fC,fD,fE,fF,fG,fH,fI,fJ,fK,fL,fM,fN,fO,fP,fQ,fR,fS,fT,fU,fV,fW,fX,fY,fZ,dA,dB,dC,dD,dE,dF,dG,dH,dI,dJ,dK,dL,dM,dN,dO,dP,dQ,dR,dS,dT,dU,dV,dW,dX,dY,dZ,cA,cB,cC,cD,cE,cF,cG,cH,cI,cJ,cK], defers := [] } : Act) → Ext w W0 → F f_ l_ a_ W0 := by
  intro  f_ l_ W0 a_ hf_ hl_ ha_ s0
  subst hf_ hl_ ha_
  refine (hF.out _ _ _ _).2 ?_
  refine wpAnyH_ready (rs := [7]) (by kernel_rfl) (by simp) ?_
  refine AllReadyH.cons (o := _) rfl (fun K hK => ?_) AllReadyH.nil
  go_simp
  refine hK.out _ _ (Ext.alloc s0 _) (fun _ => ?_)
  clear hK K
  try simp only [sxA, sxB, sxC, Act.put, sxD, sxE, sxF]
  refine name_any (fun W1 hW => ?_)
  have e1 : Ext W0 W1 := by rw [hW]; exact Ext.alloc (Ext.refl _) _
  have s1 := s0.trans e1
  have nb0 := hid (show W1.cell? ⟨W0.heap.size, 0, none⟩ = some (.int .i64 0) by rw [hW]; simp [go_sem])
  have nb1 := hid (show W1.cell? ⟨W0.heap.size, 1, none⟩ = some (.int .i64 0) by rw [hW]; simp [go_sem])
  have nd0 := hid (show W1.frozen? ⟨W0.heap.size, 0, none⟩ = false by rw [hW]; simp [go_sem])
  have nd1 := hid (show W1.frozen? ⟨W0.heap.size, 1, none⟩ = false by rw [hW]; simp [go_sem])
  clear hW
  refine (hF.out _ _ _ _).1 ?_
  exact N1_0 W0.heap.size _ _ W1 _ (by first | rfl | kernel_rfl) (by first | rfl | kernel_rfl) (by (try simp only [sxA, sxB, sxC, Act.put, sxD, sxE, sxF]); first | done | with_reducible rfl | rfl) s1 nb0 nb1 nd0 nd1 (hid s0.size)
 have N1_2 : ∀ (B27 : Nat) (f_ : Nat) (l_ : Array Bool) (W0 : World) (a_ : Act), f_ = 6 → l_ = #[true, true, true, false, false, false, false, true, false, false] → a_ = ({ tmps := #[yA,.slice (some ⟨gm, 0, none⟩) 4 4,yC,.pointer (some ⟨T, 0, none⟩),yE,yF,yG,yH,yI,yJ,yK,yL,yM,yN,yO,yP,yQ,yR,yS,yT,yU,yV,yW,yX,yY,yZ,zA,.pointer (some ⟨B27, 0, none⟩),zC,zD,zE,zF,zG,zH,zI,zJ,zK,zL,zM,zN,zO,zP,zQ,zR,zS,zT,zU,zV,zW,zX,zY,zZ,uA,uB,uC,uD,uE,uF,uG,uH,uI,uJ,uK,uL,uM,uN,uO,uP,uQ,uR,uS,uT,uU,uV,uW,uX,uY,uZ,iA,iB,iC,iD,iE,iF,iG,iH,iI,iJ,iK,iL,iM,iN,iO,iP,iQ,iR,iS,iT,iU,iV,iW,iX,iY,iZ,oA,oB,oC,oD,oE,oF,oG,oH,oI,oJ,oK,oL,oM,oN,oO,oP,oQ,oR,oS,oT,oU,oV,oW,oX,oY,.slice (some ⟨gm, 0, none⟩) 4 4,.agg #[.int .i64 100, .int .i64 10],.agg #[.int .i64 1, .int .i64 50, .int .i64 0, .int .i64 0],qC,qD,qE,qF,qG,qH,qI,qJ,qK,qL,qM,qN,qO,qP,qQ,qR,qS,qT,qU,qV,qW,qX,qY,qZ,rA,rB,rC,rD,rE,rF,rG,rH,rI,rJ,rK,rL,rM,rN,rO,rP,rQ,rR,rS,rT,rU,rV,rW,rX,rY,rZ,jA,jB,jC,jD,jE,jF,jG,jH,jI,jJ,jK,jL,jM,jN,jO,jP,jQ,jR,jS,jT,jU,jV,jW,jX,jY,jZ,nA,nB,nC,nD,nE,nF,nG,nH,nI,nJ,nK,nL,nM,nN,nO,nP,nQ,nR,nS,nT,nU,nV,nW,nX,nY,nZ,gA,gB,gC,gD,gE,gF,gG,gH,gI,gJ,gK,gL,gM,gN,gO,gP,gQ,gR,gS,gT,gU,gV,gW,gX,gY,gZ,fA,fB,fC,fD,fE,fF,fG,fH,fI,fJ,fK,fL,fM,fN,fO,fP,fQ,fR,fS,fT,fU,fV,fW,fX,fY,fZ,dA,dB,dC,dD,dE,dF,dG,dH,dI,dJ,dK,dL,dM,dN,dO,dP,dQ,dR,dS,dT,dU,dV,dW,dX,dY,dZ,cA,cB,cC,cD,cE,cF,cG,cH,cI,cJ,cK], defers := [] } : Act) → Ext w W0 → Hid (W0.cell? ⟨B27, 0, none⟩ = some (.int .i64 0)) → Hid (W0.cell? ⟨B27, 1, none⟩ = some (.int .i64 0)) → Hid (W0.frozen? ⟨B27, 0, none⟩ = false) → Hid (W0.frozen? ⟨B27, 1, none⟩ = false) → Hid (w.heap.size ≤ B27) → F f_ l_ a_ W0 := by
  intro B27 f_ l_ W0 a_ hf_ hl_ ha_ s0 b7_0 b7_1 d7_0 d7_1 z7
  subst hf_ hl_ ha_
  refine (hF.out _ _ _ _).2 ?_
  clear N1_1
  refine wpAnyH_ready (rs := [3]) (by kernel_rfl) (by simp) ?_
  refine AllReadyH.cons (o := _) rfl (fun K hK => ?_) AllReadyH.nil
  refine tk_call (by kernel_rfl) (cPrf2 _ 4 _ (hm.out.ext s0)) (by kernel_rfl) ?_; rintro e W1 ⟨rfl, e1⟩; refine ⟨_, rfl, ?_⟩
  have s1 := s0.trans e1
  refine hK.out _ _ s1 (fun _ => ?_)
  clear hK K
  try simp only [sxA, sxB, sxC, Act.put, sxD, sxE, sxF]
  refine tkB (i := 4) (v := ?_) rfl hpan ?yl ?_
  case yl => (intro w hSw; have k_ := hRD_.out w hSw; go_simp); with_reducible rfl
  try simp only [sxA, sxB, sxC, Act.put, sxD, sxE, sxF]
  refine tkB (i := 5) (v := ?_) rfl hpan ?yl ?_
  case yl => (intro w hSw; have k_ := hRD_.out w hSw; go_simp); with_reducible rfl
  try simp only [sxA, sxB, sxC, Act.put, sxD, sxE, sxF]
  refine tkB (i := 6) (v := ?_) rfl hpan ?yl ?_
  case yl => (intro w hSw; have k_ := hRD_.out w hSw; go_simp); with_reducible rfl
  try simp only [sxA, sxB, sxC, Act.put, sxD, sxE, sxF]
  refine (hF.out _ _ _ _).1 ?_
  exact N1_0 B27 _ _ W1 _ (by first | rfl | kernel_rfl) (by first | rfl | kernel_rfl) (by (try simp only [sxA, sxB, sxC, Act.put, sxD, sxE, sxF]); first | done | with_reducible rfl | rfl) s1 (hid (e1.cell b7_0.out)) (hid (e1.cell b7_1.out)) (hid ((e1.frozen (cell_lt b7_0.out)).trans d7_0.out)) (hid ((e1.frozen (cell_lt b7_1.out)).trans d7_1.out)) z7
 have N1_3 : ∀ (f_ : Nat) (l_ : Array Bool) (W0 : World) (a_ : Act), f_ = 7 → l_ = #[true, true, true, false, false, false, false, false, false, false] → a_ = ({ tmps := #[yA,.slice (some ⟨gm, 0, none⟩) 4 4,yC,.pointer (some ⟨T, 0, none⟩),yE,yF,yG,yH,yI,yJ,yK,yL,yM,yN,yO,yP,yQ,yR,yS,yT,yU,yV,yW,yX,yY,yZ,zA,zB,zC,zD,zE,zF,zG,zH,zI,zJ,zK,zL,zM,zN,zO,zP,zQ,zR,zS,zT,zU,zV,zW,zX,zY,zZ,uA,uB,uC,uD,uE,uF,uG,uH,uI,uJ,uK,uL,uM,uN,uO,uP,uQ,uR,uS,uT,uU,uV,uW,uX,uY,uZ,iA,iB,iC,iD,iE,iF,iG,iH,iI,iJ,iK,iL,iM,iN,iO,iP,iQ,iR,iS,iT,iU,iV,iW,iX,iY,iZ,oA,oB,oC,oD,oE,oF,oG,oH,oI,oJ,oK,oL,oM,oN,oO,oP,oQ,oR,oS,oT,oU,oV,oW,oX,oY,.slice (some ⟨gm, 0, none⟩) 4 4,.agg #[.int .i64 100, .int .i64 10],.agg #[.int .i64 1, .int .i64 50, .int .i64 0, .int .i64 0],qC,qD,qE,qF,qG,qH,qI,qJ,qK,qL,qM,qN,qO,qP,qQ,qR,qS,qT,qU,qV,qW,qX,qY,qZ,rA,rB,rC,rD,rE,rF,rG,rH,rI,rJ,rK,rL,rM,rN,rO,rP,rQ,rR,rS,rT,rU,rV,rW,rX,rY,rZ,jA,jB,jC,jD,jE,jF,jG,jH,jI,jJ,jK,jL,jM,jN,jO,jP,jQ,jR,jS,jT,jU,jV,jW,jX,jY,jZ,nA,nB,nC,nD,nE,nF,nG,nH,nI,nJ,nK,nL,nM,nN,nO,nP,nQ,nR,nS,nT,nU,nV,nW,nX,nY,nZ,gA,gB,gC,gD,gE,gF,gG,gH,gI,gJ,gK,gL,gM,gN,gO,gP,gQ,gR,gS,gT,gU,gV,gW,gX,gY,gZ,fA,fB,fC,fD,fE,fF,fG,fH,fI,fJ,fK,fL,fM,fN,fO,fP,fQ,fR,fS,fT,fU,fV,fW,fX,fY,fZ,dA,dB,dC,dD,dE,dF,dG,dH,dI,dJ,dK,dL,dM,dN,dO,dP,dQ,dR,dS,dT,dU,dV,dW,dX,dY,dZ,cA,cB,cC,cD,cE,cF,cG,cH,cI,cJ,cK], defers := [] } : Act) → Ext w W0 → F f_ l_ a_ W0 := by
  intro  f_ l_ W0 a_ hf_ hl_ ha_ s0
  subst hf_ hl_ ha_
  refine (hF.out _ _ _ _).2 ?_
  clear N1_0
  refine wpAnyH_ready (rs := [3, 7]) (by kernel_rfl) (by simp) ?_
  refine AllReadyH.cons (o := _) rfl (fun K hK => ?_) ?_
  ·skip
   refine tk_call (by kernel_rfl) (cPrf2 _ 4 _ (hm.out.ext s0)) (by kernel_rfl) ?_; rintro e W1 ⟨rfl, e1⟩; refine ⟨_, rfl, ?_⟩
   have s1 := s0.trans e1
   refine hK.out _ _ s1 (fun _ => ?_)
   clear hK K
   try simp only [sxA, sxB, sxC, Act.put, sxD, sxE, sxF]
   refine tkB (i := 4) (v := ?_) rfl hpan ?yl ?_
   case yl => (intro w hSw; have k_ := hRD_.out w hSw; go_simp); with_reducible rfl
   try simp only [sxA, sxB, sxC, Act.put, sxD, sxE, sxF]
   refine tkB (i := 5) (v := ?_) rfl hpan ?yl ?_
   case yl => (intro w hSw; have k_ := hRD_.out w hSw; go_simp); with_reducible rfl
   try simp only [sxA, sxB, sxC, Act.put, sxD, sxE, sxF]
   refine tkB (i := 6) (v := ?_) rfl hpan ?yl ?_
   case yl => (intro w hSw; have k_ := hRD_.out w hSw; go_simp); with_reducible rfl
   try simp only [sxA, sxB, sxC, Act.put, sxD, sxE, sxF]
   refine (hF.out _ _ _ _).1 ?_
   exact N1_1 _ _ W1 _ (by first | rfl | kernel_rfl) (by first | rfl | kernel_rfl) (by (try simp only [sxA, sxB, sxC, Act.put, sxD, sxE, sxF]); first | done | with_reducible rfl | rfl) s1
  refine AllReadyH.cons (o := _) rfl (fun K hK => ?_) ?_
  ·skip
   go_simp
   refine hK.out _ _ (Ext.alloc s0 _) (fun _ => ?_)
   clear hK K
   try simp only [sxA, sxB, sxC, Act.put, sxD, sxE, sxF]
   refine name_any (fun W1 hW => ?_)
   have e1 : Ext W0 W1 := by rw [hW]; exact Ext.alloc (Ext.refl _) _
   have s1 := s0.trans e1
   have nb0 := hid (show W1.cell? ⟨W0.heap.size, 0, none⟩ = some (.int .i64 0) by rw [hW]; simp [go_sem])
   have nb1 := hid (show W1.cell? ⟨W0.heap.size, 1, none⟩ = some (.int .i64 0) by rw [hW]; simp [go_sem])
   have nd0 := hid (show W1.frozen? ⟨W0.heap.size, 0, none⟩ = false by rw [hW]; simp [go_sem])
   have nd1 := hid (show W1.frozen? ⟨W0.heap.size, 1, none⟩ = false by rw [hW]; simp [go_sem])
   clear hW
   refine (hF.out _ _ _ _).1 ?_
   exact N1_2 W0.heap.size _ _ W1 _ (by first | rfl | kernel_rfl) (by first | rfl | kernel_rfl) (by (try simp only [sxA, sxB, sxC, Act.put, sxD, sxE, sxF]); first | done | with_reducible rfl | rfl) s1 nb0 nb1 nd0 nd1 (hid s0.size)
  exact AllReadyH.nil
 have N1_4 : ∀ (B27 : Nat) (f_ : Nat) (l_ : Array Bool) (W0 : World) (a_ : Act), f_ = 7 → l_ = #[true, true, false, false, false, false, false, true, false, false] → a_ = ({ tmps := #[yA,.slice (some ⟨gm, 0, none⟩) 4 4,yC,.pointer (some ⟨T, 0, none⟩),yE,yF,yG,yH,yI,yJ,yK,yL,yM,yN,yO,yP,yQ,yR,yS,yT,yU,yV,yW,yX,yY,yZ,zA,.pointer (some ⟨B27, 0, none⟩),zC,zD,zE,zF,zG,zH,zI,zJ,zK,zL,zM,zN,zO,zP,zQ,zR,zS,zT,zU,zV,zW,zX,zY,zZ,uA,uB,uC,uD,uE,uF,uG,uH,uI,uJ,uK,uL,uM,uN,uO,uP,uQ,uR,uS,uT,uU,uV,uW,uX,uY,uZ,iA,iB,iC,iD,iE,iF,iG,iH,iI,iJ,iK,iL,iM,iN,iO,iP,iQ,iR,iS,iT,iU,iV,iW,iX,iY,iZ,oA,oB,oC,oD,oE,oF,oG,oH,oI,oJ,oK,oL,oM,oN,oO,oP,oQ,oR,oS,oT,oU,oV,oW,oX,oY,.slice (some ⟨gm, 0, none⟩) 4 4,.agg #[.int .i64 100, .int .i64 10],qB,qC,qD,qE,qF,qG,qH,qI,qJ,qK,qL,qM,qN,qO,qP,qQ,qR,qS,qT,qU,qV,qW,qX,qY,qZ,rA,rB,rC,rD,rE,rF,rG,rH,rI,rJ,rK,rL,rM,rN,rO,rP,rQ,rR,rS,rT,rU,rV,rW,rX,rY,rZ,jA,jB,jC,jD,jE,jF,jG,jH,jI,jJ,jK,jL,jM,jN,jO,jP,jQ,jR,jS,jT,jU,jV,jW,jX,jY,jZ,nA,nB,nC,nD,nE,nF,nG,nH,nI,nJ,nK,nL,nM,nN,nO,nP,nQ,nR,nS,nT,nU,nV,nW,nX,nY,nZ,gA,gB,gC,gD,gE,gF,gG,gH,gI,gJ,gK,gL,gM,gN,gO,gP,gQ,gR,gS,gT,gU,gV,gW,gX,gY,gZ,fA,fB,fC,fD,fE,fF,fG,fH,fI,fJ,fK,fL,fM,fN,fO,fP,fQ,fR,fS,fT,fU,fV,fW,fX,fY,fZ,dA,dB,dC,dD,dE,dF,dG,dH,dI,dJ,dK,dL,dM,dN,dO,dP,dQ,dR,dS,dT,dU,dV,dW,dX,dY,dZ,cA,cB,cC,cD,cE,cF,cG,cH,cI,cJ,cK], defers := [] } : Act) → Ext w W0 → Hid (W0.cell? ⟨B27, 0, none⟩ = some (.int .i64 0)) → Hid (W0.cell? ⟨B27, 1, none⟩ = some (.int .i64 0)) → Hid (W0.frozen? ⟨B27, 0, none⟩ = false) → Hid (W0.frozen? ⟨B27, 1, none⟩ = false) → Hid (w.heap.size ≤ B27) → F f_ l_ a_ W0 := by
  intro B27 f_ l_ W0 a_ hf_ hl_ ha_ s0 b7_0 b7_1 d7_0 d7_1 z7
  subst hf_ hl_ ha_
  refine (hF.out _ _ _ _).2 ?_
  clear N1_0 N1_1 N1_3
  refine wpAnyH_ready (rs := [2]) (by kernel_rfl) (by simp) ?_
  refine AllReadyH.cons (o := _) rfl (fun K hK => ?_) AllReadyH.nil
  refine tk_call (by kernel_rfl) (proofL_any 1 50 0 0 _) (by kernel_rfl) ?_; rintro e W1 ⟨rfl, e1⟩; refine ⟨_, rfl, ?_⟩
  have s1 := s0.trans e1
  refine hK.out _ _ s1 (fun _ => ?_)
  clear hK K
  try simp only [sxA, sxB, sxC, Act.put, sxD, sxE, sxF]
  refine (hF.out _ _ _ _).1 ?_
  exact N1_2 B27 _ _ W1 _ (by first | rfl | kernel_rfl) (by first | rfl | kernel_rfl) (by (try simp only [sxA, sxB, sxC, Act.put, sxD, sxE, sxF]); first | done | with_reducible rfl | rfl) s1 (hid (e1.cell b7_0.out)) (hid (e1.cell b7_1.out)) (hid ((e1.frozen (cell_lt b7_0.out)).trans d7_0.out)) (hid ((e1.frozen (cell_lt b7_1.out)).trans d7_1.out)) z7
 have N1_5 : ∀ (f_ : Nat) (l_ : Array Bool) (W0 : World) (a_ : Act), f_ = 8 → l_ = #[true, true, false, false, false, false, false, false, false, false] → a_ = ({ tmps := #[yA,.slice (some ⟨gm, 0, none⟩) 4 4,yC,.pointer (some ⟨T, 0, none⟩),yE,yF,yG,yH,yI,yJ,yK,yL,yM,yN,yO,yP,yQ,yR,yS,yT,yU,yV,yW,yX,yY,yZ,zA,zB,zC,zD,zE,zF,zG,zH,zI,zJ,zK,zL,zM,zN,zO,zP,zQ,zR,zS,zT,zU,zV,zW,zX,zY,zZ,uA,uB,uC,uD,uE,uF,uG,uH,uI,uJ,uK,uL,uM,uN,uO,uP,uQ,uR,uS,uT,uU,uV,uW,uX,uY,uZ,iA,iB,iC,iD,iE,iF,iG,iH,iI,iJ,iK,iL,iM,iN,iO,iP,iQ,iR,iS,iT,iU,iV,iW,iX,iY,iZ,oA,oB,oC,oD,oE,oF,oG,oH,oI,oJ,oK,oL,oM,oN,oO,oP,oQ,oR,oS,oT,oU,oV,oW,oX,oY,.slice (some ⟨gm, 0, none⟩) 4 4,.agg #[.int .i64 100, .int .i64 10],qB,qC,qD,qE,qF,qG,qH,qI,qJ,qK,qL,qM,qN,qO,qP,qQ,qR,qS,qT,qU,qV,qW,qX,qY,qZ,rA,rB,rC,rD,rE,rF,rG,rH,rI,rJ,rK,rL,rM,rN,rO,rP,rQ,rR,rS,rT,rU,rV,rW,rX,rY,rZ,jA,jB,jC,jD,jE,jF,jG,jH,jI,jJ,jK,jL,jM,jN,jO,jP,jQ,jR,jS,jT,jU,jV,jW,jX,jY,jZ,nA,nB,nC,nD,nE,nF,nG,nH,nI,nJ,nK,nL,nM,nN,nO,nP,nQ,nR,nS,nT,nU,nV,nW,nX,nY,nZ,gA,gB,gC,gD,gE,gF,gG,gH,gI,gJ,gK,gL,gM,gN,gO,gP,gQ,gR,gS,gT,gU,gV,gW,gX,gY,gZ,fA,fB,fC,fD,fE,fF,fG,fH,fI,fJ,fK,fL,fM,fN,fO,fP,fQ,fR,fS,fT,fU,fV,fW,fX,fY,fZ,dA,dB,dC,dD,dE,dF,dG,dH,dI,dJ,dK,dL,dM,dN,dO,dP,dQ,dR,dS,dT,dU,dV,dW,dX,dY,dZ,cA,cB,cC,cD,cE,cF,cG,cH,cI,cJ,cK], defers := [] } : Act) → Ext w W0 → F f_ l_ a_ W0 := by
  intro  f_ l_ W0 a_ hf_ hl_ ha_ s0
  subst hf_ hl_ ha_
  refine (hF.out _ _ _ _).2 ?_
  clear N1_0 N1_1 N1_2
  refine wpAnyH_ready (rs := [2, 7]) (by kernel_rfl) (by simp) ?_
  refine AllReadyH.cons (o := _) rfl (fun K hK => ?_) ?_
  ·skip
   refine tk_call (by kernel_rfl) (proofL_any 1 50 0 0 _) (by kernel_rfl) ?_; rintro e W1 ⟨rfl, e1⟩; refine ⟨_, rfl, ?_⟩
   have s1 := s0.trans e1
   refine hK.out _ _ s1 (fun _ => ?_)
   clear hK K
   try simp only [sxA, sxB, sxC, Act.put, sxD, sxE, sxF]
   refine (hF.out _ _ _ _).1 ?_
   exact N1_3 _ _ W1 _ (by first | rfl | kernel_rfl) (by first | rfl | kernel_rfl) (by (try simp only [sxA, sxB, sxC, Act.put, sxD, sxE, sxF]); first | done | with_reducible rfl | rfl) s1
  refine AllReadyH.cons (o := _) rfl (fun K hK => ?_) ?_
  ·skip
   go_simp
   refine hK.out _ _ (Ext.alloc s0 _) (fun _ => ?_)
   clear hK K
   try simp only [sxA, sxB, sxC, Act.put, sxD, sxE, sxF]
   refine name_any (fun W1 hW => ?_)
   have e1 : Ext W0 W1 := by rw [hW]; exact Ext.alloc (Ext.refl _) _
   have s1 := s0.trans e1
   have nb0 := hid (show W1.cell? ⟨W0.heap.size, 0, none⟩ = some (.int .i64 0) by rw [hW]; simp [go_sem])
   have nb1 := hid (show W1.cell? ⟨W0.heap.size, 1, none⟩ = some (.int .i64 0) by rw [hW]; simp [go_sem])
   have nd0 := hid (show W1.frozen? ⟨W0.heap.size, 0, none⟩ = false by rw [hW]; simp [go_sem])
   have nd1 := hid (show W1.frozen? ⟨W0.heap.size, 1, none⟩ = false by rw [hW]; simp [go_sem])
   clear hW
   refine (hF.out _ _ _ _).1 ?_
   exact N1_4 W0.heap.size _ _ W1 _ (by first | rfl | kernel_rfl) (by first | rfl | kernel_rfl) (by (try simp only [sxA, sxB, sxC, Act.put, sxD, sxE, sxF]); first | done | with_reducible rfl | rfl) s1 nb0 nb1 nd0 nd1 (hid s0.size)
  exact AllReadyH.nil
 rw [hA_.out]
 refine (hF.out _ _ _ _).2 ?_
 refine tkB (i := 0) (v := ?_) rfl hpan ?yl ?_
 case yl => (intro w hSw; have k_ := hRD_.out w hSw; go_simp); with_reducible rfl
 try simp only [sxA, sxB, sxC, Act.put, sxD, sxE, sxF]
 refine tkB (i := 1) (v := ?_) rfl hpan ?yl ?_
 case yl => (intro w hSw; have k_ := hRD_.out w hSw; go_simp); with_reducible rfl
 try simp only [sxA, sxB, sxC, Act.put, sxD, sxE, sxF]
 refine (hF.out _ _ _ _).1 ?_
 exact N1_5 _ _ W0 _ (by first | rfl | kernel_rfl) (by first | rfl | kernel_rfl) (by (try simp only [sxA, sxB, sxC, Act.put, sxD, sxE, sxF]); first | done | with_reducible rfl | rfl) s0
set_option maxHeartbeats 40000000 in
theorem stW23 {A_ : Act} {yA yE yF yG yH yI yJ yK yL yM yN yO yP yQ yR yS yT yU yV yW yY yZ zA zB zC zD zE zF zG zI zJ zK zL zM zN zO zP zQ zT zU zV zW zX zY zZ uA uB uC uD uE uF uG uH uI uJ uK uL uM uN uO uP uQ uR uS uT uU uV uW uX uY uZ iA iB iC iD iE iF iG iH iI iJ iK iL iM iN iO iP iQ iR iS iT iU iV iW iX iY iZ oA oB oC oD oE oF oG oH oI oJ oK oL oM oN oO oP oQ oR oS oT oU oV oW oX oY oZ qA qB qC qD qE qF qG qH qI qJ qK qL qM qN qO qP qQ qR qS qT qU qV qW qX qY qZ rA rB rC rD rE rF rG rH rI rJ rK rL rM rN rO rP rQ rR rS rT rU rV rW rX rY rZ jA jB jC jD jE jF jG jH jI jJ jK jL jM jN jO jP jQ jR jS jT jU jV jW jX jY jZ nA nB nC nD nE nF nG nH nI nJ nK nL nM nN nO nP nQ nR nS nT nU nV nW nX nY nZ gA gB gC gD gE gF gG gH gI gJ gK gL gM gN gO gP gQ gR gS gT gU gV gW gX gY gZ fA fB fC fD fE fF fG fH fI fJ fK fL fM fN fO fP fQ fR fS fT fU fV fW fX fY fZ dA dB dC dD dE dF dG dH dI dJ dK dL dM dN dO dP dQ dR dS dT dU dV dW dX dY dZ cA cB cC cD cE cF cG cH cI cJ cK : Value} {gm gv T B43 B33 cl : Nat} {al : Option Addr} {w : World} (hA0_ : A_ = { tmps := #[yA, .slice (some ⟨gm, 0, none⟩) 4 4, .slice (some ⟨gv, 0, none⟩) 2 2, .pointer (some ⟨T, 0, none⟩), yE, yF, yG, yH, yI, yJ, yK, yL, yM, yN, yO, yP, yQ, yR, yS, yT, yU, yV, yW, .slice al 4 cl, yY, yZ, zA, zB, zC, zD, zE, zF, zG, .pointer (some ⟨B33, 0, none⟩), zI, zJ, zK, zL, zM, zN, zO, zP, zQ, .pointer (some ⟨B43, 0, none⟩), .int .i64 0, zT, zU, zV, zW, zX, zY, zZ, uA, uB, uC, uD, uE, uF, uG, uH, uI, uJ, uK, uL, uM, uN, uO, uP, uQ, uR, uS, uT, uU, uV, uW, uX, uY, uZ, iA, iB, iC, iD, iE, iF, iG, iH, iI, iJ, iK, iL, iM, iN, iO, iP, iQ, iR, iS, iT, iU, iV, iW, iX, iY, iZ, oA, oB, oC, oD, oE, oF, oG, oH, oI, oJ, oK, oL, oM, oN, oO, oP, oQ, oR, oS, oT, oU, oV, oW, oX, oY, oZ, qA, qB, qC, qD, qE, qF, qG, qH, qI, qJ, qK, qL, qM, qN, qO, qP, qQ, qR, qS, qT, qU, qV, qW, qX, qY, qZ, rA, rB, rC, rD, rE, rF, rG, rH, rI, rJ, rK, rL, rM, rN, rO, rP, rQ, rR, rS, rT, rU, rV, rW, rX, rY, rZ, jA, jB, jC, jD, jE, jF, jG, jH, jI, jJ, jK, jL, jM, jN, jO, jP, jQ, jR, jS, jT, jU, jV, jW, jX, jY, jZ, nA, nB, nC, nD, nE, nF, nG, nH, nI, nJ, nK, nL, nM, nN, nO, nP, nQ, nR, nS, nT, nU, nV, nW, nX, nY, nZ, gA, gB, gC, gD, gE, gF, gG, gH, gI, gJ, gK, gL, gM, gN, gO, gP, gQ, gR, gS, gT, gU, gV, gW, gX, gY, gZ, fA, fB, fC, fD, fE, fF, fG, fH, fI, fJ, fK, fL, fM, fN, fO, fP, fQ, fR, fS, fT, fU, fV, fW, fX, fY, fZ, dA, dB, dC, dD, dE, dF, dG, dH, dI, dJ, dK, dL, dM, dN, dO, dP, dQ, dR, dS, dT, dU, dV, dW, dX, dY, dZ, cA, cB, cC, cD, cE, cF, cG, cH, cI, cJ, cK], defers := [] }) (hm : Mts w (some ⟨gm, 0, none⟩) mL) (hv : Mts w (some ⟨gv, 0, none⟩) vL) (t0 : w.cell? ⟨T, 0, none⟩ = some (.int .i64 100)) (t1 : w.cell? ⟨T, 1, none⟩ = some (.int .i64 10)) (b0 : w.cell? ⟨B43, 0, none⟩ = some (.int .i64 3959)) (b1 : w.cell? ⟨B43, 1, none⟩ = some (.int .i64 55)) (q0 : w.cell? ⟨B33, 0, none⟩ = some (.int .i64 0)) (q1 : w.cell? ⟨B33, 1, none⟩ = some (.int .i64 220)) (q2 : w.cell? ⟨B33, 2, none⟩ = some (.int .i64 1)) (q3 : w.cell? ⟨B33, 3, none⟩ = some (.int .i64 0)) (jl : Ints w al [118800, 0, 1200, 100000]) :
 Code.wp Try.prog (rgn Try.f18 23) (fun e a' w' => e = .normal ∧ a' = ({ tmps := #[yA,.slice (some ⟨gm, 0, none⟩) 4 4,.slice (some ⟨gv, 0, none⟩) 2 2,.pointer (some ⟨T, 0, none⟩),yE,yF,yG,yH,yI,yJ,yK,yL,yM,yN,yO,yP,yQ,yR,yS,yT,yU,yV,yW,.slice al 4 cl,yY,yZ,zA,zB,zC,zD,zE,zF,zG,.pointer (some ⟨B33, 0, none⟩),zI,zJ,zK,zL,zM,zN,zO,zP,zQ,.pointer (some ⟨B43, 0, none⟩),.int .i64 0,zT,zU,zV,zW,zX,zY,zZ,uA,uB,uC,uD,uE,uF,uG,uH,uI,uJ,uK,uL,uM,uN,uO,uP,uQ,uR,uS,uT,uU,uV,uW,uX,uY,uZ,iA,iB,iC,iD,iE,iF,iG,iH,iI,iJ,iK,iL,iM,iN,iO,iP,iQ,iR,iS,iT,iU,iV,iW,iX,iY,iZ,oA,oB,oC,oD,oE,oF,oG,oH,oI,oJ,oK,oL,oM,oN,oO,oP,oQ,oR,oS,oT,oU,oV,oW,oX,oY,oZ,qA,qB,qC,qD,qE,qF,qG,qH,qI,qJ,qK,qL,qM,qN,qO,qP,qQ,qR,qS,qT,qU,qV,qW,qX,qY,qZ,rA,rB,rC,rD,rE,rF,rG,rH,rI,rJ,rK,rL,rM,rN,rO,rP,rQ,rR,rS,rT,rU,rV,rW,rX,rY,rZ,jA,jB,jC,jD,jE,jF,jG,jH,jI,jJ,jK,jL,jM,jN,jO,jP,jQ,jR,jS,jT,jU,jV,jW,jX,jY,jZ,nA,nB,nC,nD,nE,nF,nG,nH,nI,nJ,nK,nL,nM,nN,nO,nP,nQ,nR,nS,nT,nU,nV,nW,nX,nY,nZ,gA,gB,gC,gD,gE,gF,gG,gH,gI,gJ,gK,gL,gM,gN,gO,gP,gQ,gR,gS,gT,gU,gV,gW,gX,gY,gZ,fA,fB,fC,fD,.int .i64 0,.bool false,.bool false,.agg #[.int .i64 3959, .int .i64 55],.agg #[.int .i64 3959, .int .i64 55],.bool false,.bool false,.bool false,.slice (some ⟨gm, 0, none⟩) 4 4,.agg #[.int .i64 100, .int .i64 10],.slice al 4 cl,.int .i64 0,.bool false,.bool false,.bool false,.slice (some ⟨gv, 0, none⟩) 2 2,.agg #[.int .i64 100, .int .i64 10],.agg #[.int .i64 0, .int .i64 220, .int .i64 1, .int .i64 0],.int .i64 0,.bool false,.bool false,fZ,dA,dB,dC,dD,dE,dF,dG,dH,dI,dJ,dK,dL,dM,dN,dO,dP,dQ,dR,dS,dT,dU,dV,dW,dX,dY,dZ,cA,cB,cC,cD,cE,cF,cG,cH,cI,cJ,cK], defers := [] } : Act) ∧ Ext w w') A_ w := by
 conv => arg 2; whnf
 refine st_intro (fun Q2 hQ2 => ?_)
 have hA_ := hid hA0_
 clear hA0_
 have hpan : ∀ c a a' w w', Q2 (.panic c) a w → Q2 (.panic c) a' w' := by rw [hQ2]; rintro c a a' w w' ⟨h, _⟩; cases h
 replace hQ2 := hid hQ2
 replace hm := hid hm
 replace hv := hid hv
 replace jl := hid jl
 have heq : ∀ w, (Op.equalIn 10000 29 (.agg #[.int .i64 3959, .int .i64 55]) (.agg #[.int .i64 3959, .int .i64 55])).run Try.prog w = .ok true w := fun w => by rw [run_eqRatio]; rfl
 have hRD_ := hid (fun w' (x_ : Ext w w') => And.intro (Ext.cell x_ t0) (And.intro (Ext.cell x_ t1) (And.intro (Ext.cell x_ b0) (And.intro (Ext.cell x_ b1) (And.intro (Ext.cell x_ q0) (And.intro (Ext.cell x_ q1) (And.intro (Ext.cell x_ q2) (Ext.cell x_ q3))))))))
 refine wp_region_held_drew (S := fun w' => Ext w w') (by kernel_rfl) exE fun hHeld => ?_
 try simp only [List.append_eq, List.cons_append, List.nil_append]
 refine name_any (fun W0 hW => ?_)
 have s0 : Ext w W0 := by rw [hW]; exact hHeld
 clear hW hHeld
 refine wpF_intro 21 (by kernel_rfl) (fun F hF => ?_)
 replace hF := hid hF
 have N1_0 : ∀ (f_ : Nat) (l_ : Array Bool) (W0 : World) (a_ : Act), f_ = 3 → l_ = #[true, true, true, true, true, true, true, true, true, true, true, true, true, true, true, true, true, true, false, false, false] → a_ = ({ tmps := #[yA,.slice (some ⟨gm, 0, none⟩) 4 4,.slice (some ⟨gv, 0, none⟩) 2 2,.pointer (some ⟨T, 0, none⟩),yE,yF,yG,yH,yI,yJ,yK,yL,yM,yN,yO,yP,yQ,yR,yS,yT,yU,yV,yW,.slice al 4 cl,yY,yZ,zA,zB,zC,zD,zE,zF,zG,.pointer (some ⟨B33, 0, none⟩),zI,zJ,zK,zL,zM,zN,zO,zP,zQ,.pointer (some ⟨B43, 0, none⟩),.int .i64 0,zT,zU,zV,zW,zX,zY,zZ,uA,uB,uC,uD,uE,uF,uG,uH,uI,uJ,uK,uL,uM,uN,uO,uP,uQ,uR,uS,uT,uU,uV,uW,uX,uY,uZ,iA,iB,iC,iD,iE,iF,iG,iH,iI,iJ,iK,iL,iM,iN,iO,iP,iQ,iR,iS,iT,iU,iV,iW,iX,iY,iZ,oA,oB,oC,oD,oE,oF,oG,oH,oI,oJ,oK,oL,oM,oN,oO,oP,oQ,oR,oS,oT,oU,oV,oW,oX,oY,oZ,qA,qB,qC,qD,qE,qF,qG,qH,qI,qJ,qK,qL,qM,qN,qO,qP,qQ,qR,qS,qT,qU,qV,qW,qX,qY,qZ,rA,rB,rC,rD,rE,rF,rG,rH,rI,rJ,rK,rL,rM,rN,rO,rP,rQ,rR,rS,rT,rU,rV,rW,rX,rY,rZ,jA,jB,jC,jD,jE,jF,jG,jH,jI,jJ,jK,jL,jM,jN,jO,jP,jQ,jR,jS,jT,jU,jV,jW,jX,jY,jZ,nA,nB,nC,nD,nE,nF,nG,nH,nI,nJ,nK,nL,nM,nN,nO,nP,nQ,nR,nS,nT,nU,nV,nW,nX,nY,nZ,gA,gB,gC,gD,gE,gF,gG,gH,gI,gJ,gK,gL,gM,gN,gO,gP,gQ,gR,gS,gT,gU,gV,gW,gX,gY,gZ,fA,fB,fC,fD,.int .i64 0,.bool false,.bool false,.agg #[.int .i64 3959, .int .i64 55],.agg #[.int .i64 3959, .int .i64 55],.bool false,.bool false,.bool false,.slice (some ⟨gm, 0, none⟩) 4 4,.agg #[.int .i64 100, .int .i64 10],.slice al 4 cl,.int .i64 0,.bool false,.bool false,.bool false,.slice (some ⟨gv, 0, none⟩) 2 2,.agg #[.int .i64 100, .int .i64 10],.agg #[.int .i64 0, .int .i64 220, .int .i64 1, .int .i64 0],fW,fX,fY,fZ,dA,dB,dC,dD,dE,dF,dG,dH,dI,dJ,dK,dL,dM,dN,dO,dP,dQ,dR,dS,dT,dU,dV,dW,dX,dY,dZ,cA,cB,cC,cD,cE,cF,cG,cH,cI,cJ,cK], defers := [] } : Act) → Ext w W0 → F f_ l_ a_ W0 := by
  intro  f_ l_ W0 a_ hf_ hl_ ha_ s0
  subst hf_ hl_ ha_
  refine (hF.out _ _ _ _).2 ?_
  refine wpAnyH_ready (rs := [18]) (by kernel_rfl) (by simp) ?_
  refine AllReadyH.cons (o := _) rfl (fun K hK => ?_) AllReadyH.nil
  refine tk_call (by kernel_rfl) (cRnv _ 2 _ (hv.out.ext s0)) (by kernel_rfl) ?_; rintro e W1 ⟨rfl, e1⟩; refine ⟨_, rfl, ?_⟩
  have s1 := s0.trans e1
  refine hK.out _ _ s1 (fun _ => ?_)
  clear hK K
  try simp only [sxA, sxB, sxC, Act.put, sxD, sxE, sxF]
  refine tkB (i := 19) (v := ?_) rfl hpan ?yl ?_
  case yl => (intro w hSw; (try dsimp only at hSw);  go_simp); with_reducible rfl
  try simp only [sxA, sxB, sxC, Act.put, sxD, sxE, sxF]
  refine tkB (i := 20) (v := ?_) rfl hpan ?yl ?_
  case yl => (intro w hSw; (try dsimp only at hSw);  go_simp); with_reducible rfl
  try simp only [sxA, sxB, sxC, Act.put, sxD, sxE, sxF]
  refine wpAnyH_done (by kernel_rfl) ?_ _
  try simp only [sxA, sxB, sxC, Act.put, sxD, sxE, sxF]
  rw [hQ2.out]
  refine ⟨rfl, ?eq1_1, s1⟩
  case eq1_1 => (first | with_reducible rfl | rfl)
 have N1_1 : ∀ (f_ : Nat) (l_ : Array Bool) (W0 : World) (a_ : Act), f_ = 10 → l_ = #[true, true, true, true, true, true, true, true, true, true, true, false, false, false, false, false, false, false, false, false, false] → a_ = ({ tmps := #[yA,.slice (some ⟨gm, 0, none⟩) 4 4,.slice (some ⟨gv, 0, none⟩) 2 2,.pointer (some ⟨T, 0, none⟩),yE,yF,yG,yH,yI,yJ,yK,yL,yM,yN,yO,yP,yQ,yR,yS,yT,yU,yV,yW,.slice al 4 cl,yY,yZ,zA,zB,zC,zD,zE,zF,zG,.pointer (some ⟨B33, 0, none⟩),zI,zJ,zK,zL,zM,zN,zO,zP,zQ,.pointer (some ⟨B43, 0, none⟩),.int .i64 0,zT,zU,zV,zW,zX,zY,zZ,uA,uB,uC,uD,uE,uF,uG,uH,uI,uJ,uK,uL,uM,uN,uO,uP,uQ,uR,uS,uT,uU,uV,uW,uX,uY,uZ,iA,iB,iC,iD,iE,iF,iG,iH,iI,iJ,iK,iL,iM,iN,iO,iP,iQ,iR,iS,iT,iU,iV,iW,iX,iY,iZ,oA,oB,oC,oD,oE,oF,oG,oH,oI,oJ,oK,oL,oM,oN,oO,oP,oQ,oR,oS,oT,oU,oV,oW,oX,oY,oZ,qA,qB,qC,qD,qE,qF,qG,qH,qI,qJ,qK,qL,qM,qN,qO,qP,qQ,qR,qS,qT,qU,qV,qW,qX,qY,qZ,rA,rB,rC,rD,rE,rF,rG,rH,rI,rJ,rK,rL,rM,rN,rO,rP,rQ,rR,rS,rT,rU,rV,rW,rX,rY,rZ,jA,jB,jC,jD,jE,jF,jG,jH,jI,jJ,jK,jL,jM,jN,jO,jP,jQ,jR,jS,jT,jU,jV,jW,jX,jY,jZ,nA,nB,nC,nD,nE,nF,nG,nH,nI,nJ,nK,nL,nM,nN,nO,nP,nQ,nR,nS,nT,nU,nV,nW,nX,nY,nZ,gA,gB,gC,gD,gE,gF,gG,gH,gI,gJ,gK,gL,gM,gN,gO,gP,gQ,gR,gS,gT,gU,gV,gW,gX,gY,gZ,fA,fB,fC,fD,.int .i64 0,.bool false,.bool false,.agg #[.int .i64 3959, .int .i64 55],.agg #[.int .i64 3959, .int .i64 55],.bool false,.bool false,.bool false,.slice (some ⟨gm, 0, none⟩) 4 4,.agg #[.int .i64 100, .int .i64 10],.slice al 4 cl,fP,fQ,fR,fS,fT,fU,fV,fW,fX,fY,fZ,dA,dB,dC,dD,dE,dF,dG,dH,dI,dJ,dK,dL,dM,dN,dO,dP,dQ,dR,dS,dT,dU,dV,dW,dX,dY,dZ,cA,cB,cC,cD,cE,cF,cG,cH,cI,cJ,cK], defers := [] } : Act) → Ext w W0 → F f_ l_ a_ W0 := by
  intro  f_ l_ W0 a_ hf_ hl_ ha_ s0
  subst hf_ hl_ ha_
  refine (hF.out _ _ _ _).2 ?_
  refine wpAnyH_ready (rs := [11]) (by kernel_rfl) (by simp) ?_
  refine AllReadyH.cons (o := _) rfl (fun K hK => ?_) AllReadyH.nil
  refine tk_call (by kernel_rfl) (cRde _ 4 _ cl _ (hm.out.ext s0) (jl.out.ext s0)) (by kernel_rfl) ?_; rintro e W1 ⟨rfl, e1⟩; refine ⟨_, rfl, ?_⟩
  have s1 := s0.trans e1
  refine hK.out _ _ s1 (fun _ => ?_)
  clear hK K
  try simp only [sxA, sxB, sxC, Act.put, sxD, sxE, sxF]
  refine tkB (i := 12) (v := ?_) rfl hpan ?yl ?_
  case yl => (intro w hSw; (try dsimp only at hSw);  go_simp); with_reducible rfl
  try simp only [sxA, sxB, sxC, Act.put, sxD, sxE, sxF]
  refine tkB (i := 13) (v := ?_) rfl hpan ?yl ?_
  case yl => (intro w hSw; (try dsimp only at hSw);  go_simp); with_reducible rfl
  try simp only [sxA, sxB, sxC, Act.put, sxD, sxE, sxF]
  refine tkB (i := 14) (v := ?_) rfl hpan ?yl ?_
  case yl => (intro w hSw; (try dsimp only at hSw);  go_simp); with_reducible rfl
  try simp only [sxA, sxB, sxC, Act.put, sxD, sxE, sxF]
  refine tkB (i := 15) (v := ?_) rfl hpan ?yl ?_
  case yl => (intro w hSw; (try dsimp only at hSw);  go_simp); with_reducible rfl
  try simp only [sxA, sxB, sxC, Act.put, sxD, sxE, sxF]
  refine tkB (i := 16) (v := ?_) rfl hpan ?yl ?_
  case yl => (intro w hSw; have k_ := hRD_.out w hSw; go_simp); with_reducible rfl
  try simp only [sxA, sxB, sxC, Act.put, sxD, sxE, sxF]
  refine tkB (i := 17) (v := ?_) rfl hpan ?yl ?_
  case yl => (intro w hSw; have k_ := hRD_.out w hSw; go_simp); with_reducible rfl
  try simp only [sxA, sxB, sxC, Act.put, sxD, sxE, sxF]
  refine (hF.out _ _ _ _).1 ?_
  exact N1_0 _ _ W1 _ (by first | rfl | kernel_rfl) (by first | rfl | kernel_rfl) (by (try simp only [sxA, sxB, sxC, Act.put, sxD, sxE, sxF]); first | done | with_reducible rfl | rfl) s1
 have N1_2 : ∀ (f_ : Nat) (l_ : Array Bool) (W0 : World) (a_ : Act), f_ = 17 → l_ = #[true, true, true, true, false, false, false, false, false, false, false, false, false, false, false, false, false, false, false, false, false] → a_ = ({ tmps := #[yA,.slice (some ⟨gm, 0, none⟩) 4 4,.slice (some ⟨gv, 0, none⟩) 2 2,.pointer (some ⟨T, 0, none⟩),yE,yF,yG,yH,yI,yJ,yK,yL,yM,yN,yO,yP,yQ,yR,yS,yT,yU,yV,yW,.slice al 4 cl,yY,yZ,zA,zB,zC,zD,zE,zF,zG,.pointer (some ⟨B33, 0, none⟩),zI,zJ,zK,zL,zM,zN,zO,zP,zQ,.pointer (some ⟨B43, 0, none⟩),.int .i64 0,zT,zU,zV,zW,zX,zY,zZ,uA,uB,uC,uD,uE,uF,uG,uH,uI,uJ,uK,uL,uM,uN,uO,uP,uQ,uR,uS,uT,uU,uV,uW,uX,uY,uZ,iA,iB,iC,iD,iE,iF,iG,iH,iI,iJ,iK,iL,iM,iN,iO,iP,iQ,iR,iS,iT,iU,iV,iW,iX,iY,iZ,oA,oB,oC,oD,oE,oF,oG,oH,oI,oJ,oK,oL,oM,oN,oO,oP,oQ,oR,oS,oT,oU,oV,oW,oX,oY,oZ,qA,qB,qC,qD,qE,qF,qG,qH,qI,qJ,qK,qL,qM,qN,qO,qP,qQ,qR,qS,qT,qU,qV,qW,qX,qY,qZ,rA,rB,rC,rD,rE,rF,rG,rH,rI,rJ,rK,rL,rM,rN,rO,rP,rQ,rR,rS,rT,rU,rV,rW,rX,rY,rZ,jA,jB,jC,jD,jE,jF,jG,jH,jI,jJ,jK,jL,jM,jN,jO,jP,jQ,jR,jS,jT,jU,jV,jW,jX,jY,jZ,nA,nB,nC,nD,nE,nF,nG,nH,nI,nJ,nK,nL,nM,nN,nO,nP,nQ,nR,nS,nT,nU,nV,nW,nX,nY,nZ,gA,gB,gC,gD,gE,gF,gG,gH,gI,gJ,gK,gL,gM,gN,gO,gP,gQ,gR,gS,gT,gU,gV,gW,gX,gY,gZ,fA,fB,fC,fD,.int .i64 0,.bool false,.bool false,.agg #[.int .i64 3959, .int .i64 55],fI,fJ,fK,fL,fM,fN,fO,fP,fQ,fR,fS,fT,fU,fV,fW,fX,fY,fZ,dA,dB,dC,dD,dE,dF,dG,dH,dI,dJ,dK,dL,dM,dN,dO,dP,dQ,dR,dS,dT,dU,dV,dW,dX,dY,dZ,cA,cB,cC,cD,cE,cF,cG,cH,cI,cJ,cK], defers := [] } : Act) → Ext w W0 → F f_ l_ a_ W0 := by
  intro  f_ l_ W0 a_ hf_ hl_ ha_ s0
  subst hf_ hl_ ha_
  refine (hF.out _ _ _ _).2 ?_
  clear N1_0
  refine wpAnyH_ready (rs := [4]) (by kernel_rfl) (by simp) ?_
  refine AllReadyH.cons (o := _) rfl (fun K hK => ?_) AllReadyH.nil
  refine tk_call (by kernel_rfl) (byL_any 3959 55 _) (by kernel_rfl) ?_; rintro e W1 ⟨rfl, e1⟩; refine ⟨_, rfl, ?_⟩
  have s1 := s0.trans e1
  refine hK.out _ _ s1 (fun _ => ?_)
  clear hK K
  try simp only [sxA, sxB, sxC, Act.put, sxD, sxE, sxF]
  refine tkB (i := 5) (v := ?_) rfl hpan ?yl ?_
  case yl => (intro w hSw; (try dsimp only at hSw);  go_simp); with_reducible rfl
  try simp only [sxA, sxB, sxC, Act.put, sxD, sxE, sxF]
  refine tkB (i := 6) (v := ?_) rfl hpan ?yl ?_
  case yl => (intro w hSw; (try dsimp only at hSw);  go_simp); with_reducible rfl
  try simp only [sxA, sxB, sxC, Act.put, sxD, sxE, sxF]
  refine tkB (i := 7) (v := ?_) rfl hpan ?yl ?_
  case yl => (intro w hSw; (try dsimp only at hSw);  go_simp); with_reducible rfl
  try simp only [sxA, sxB, sxC, Act.put, sxD, sxE, sxF]
  refine tkB (i := 8) (v := ?_) rfl hpan ?yl ?_
  case yl => (intro w hSw; (try dsimp only at hSw);  go_simp); with_reducible rfl
  try simp only [sxA, sxB, sxC, Act.put, sxD, sxE, sxF]
  refine tkB (i := 9) (v := ?_) rfl hpan ?yl ?_
  case yl => (intro w hSw; have k_ := hRD_.out w hSw; go_simp); with_reducible rfl
  try simp only [sxA, sxB, sxC, Act.put, sxD, sxE, sxF]
  refine tkB (i := 10) (v := ?_) rfl hpan ?yl ?_
  case yl => (intro w hSw; (try dsimp only at hSw);  go_simp); with_reducible rfl
  try simp only [sxA, sxB, sxC, Act.put, sxD, sxE, sxF]
  refine (hF.out _ _ _ _).1 ?_
  exact N1_1 _ _ W1 _ (by first | rfl | kernel_rfl) (by first | rfl | kernel_rfl) (by (try simp only [sxA, sxB, sxC, Act.put, sxD, sxE, sxF]); first | done | with_reducible rfl | rfl) s1
 rw [hA_.out]
 refine (hF.out _ _ _ _).2 ?_
 refine tkB (i := 0) (v := ?_) rfl hpan ?yl ?_
 case yl => (intro w hSw; (try dsimp only at hSw);  go_simp); with_reducible rfl
 try simp only [sxA, sxB, sxC, Act.put, sxD, sxE, sxF]
 refine tkB (i := 1) (v := ?_) rfl hpan ?yl ?_
 case yl => (intro w hSw; (try dsimp only at hSw);  go_simp); with_reducible rfl
 try simp only [sxA, sxB, sxC, Act.put, sxD, sxE, sxF]
 refine tkB (i := 2) (v := ?_) rfl hpan ?yl ?_
 case yl => (intro w hSw; (try dsimp only at hSw);  go_simp); with_reducible rfl
 try simp only [sxA, sxB, sxC, Act.put, sxD, sxE, sxF]
 refine tkB (i := 3) (v := ?_) rfl hpan ?yl ?_
 case yl => (intro w hSw; have k_ := hRD_.out w hSw; go_simp); with_reducible rfl
 try simp only [sxA, sxB, sxC, Act.put, sxD, sxE, sxF]
 refine (hF.out _ _ _ _).1 ?_
 exact N1_2 _ _ W0 _ (by first | rfl | kernel_rfl) (by first | rfl | kernel_rfl) (by (try simp only [sxA, sxB, sxC, Act.put, sxD, sxE, sxF]); first | done | with_reducible rfl | rfl) s0
set_option maxHeartbeats 40000000 in
theorem stW25 {A_ : Act} {yA yB yC yD yF yG yH yI yJ yM yN yO yP yQ yS yU yV yW yX yY zA zB zC zD zE zF zG zH zI zJ zK zN zO zP zQ zS zT zU zV zW zX zY zZ uA uB uC uD uE uF uG uH uI uJ uK uL uM uN uO uP uQ uR uS uT uU uV uW uX uY uZ iA iB iC iD iE iF iG iH iI iJ iK iL iM iN iO iP iQ iR iS iT iU iV iW iX iY iZ oA oB oC oD oE oF oG oH oI oJ oK oL oM oN oO oP oQ oR oS oT oU oV oW oX oY oZ qA qB qC qD qE qF qG qH qI qJ qK qL qM qN qO qP qQ qR qS qT qU qV qW qX qY qZ rA rB rC rD rE rF rG rH rI rJ rK rL rM rN rO rP rQ rR rS rT rU rV rW rX rY rZ jA jB jC jD jE jF jG jH jI jJ jK jL jM jN jO jP jQ jR jS jT jU jV jW jX jY jZ nA nB nC nD nE nF nG nH nI nJ nK nL nM nN nO nP nQ nR nS nT nU nV nW nX nY nZ gA gB gC gD gE gF gG gH gI gJ gK gL gM gN gO gP gQ gR gS gT gU gV gW gX gY gZ fA fB fC fD fE fF fG fH fI fJ fK fL fM fN fO fP fQ fR fS fT fU fV fW fX fY fZ dA dB dC dD dE dF dG dH dI dJ dK dL dM dN dO dP dQ dR dS dT dU dV dW dX dY dZ cA cB cC cD cE cF cG cH cI cJ cK : Value} {B4 B43 B10 B11 B17 B19 B25 B37 B38 : Nat} {w : World} (hA0_ : A_ = { tmps := #[yA, yB, yC, yD, .pointer (some ⟨B4, 0, none⟩), yF, yG, yH, yI, yJ, .pointer (some ⟨B10, 0, none⟩), .pointer (some ⟨B11, 0, none⟩), yM, yN, yO, yP, yQ, .pointer (some ⟨B17, 0, none⟩), yS, .pointer (some ⟨B19, 0, none⟩), yU, yV, yW, yX, yY, .pointer (some ⟨B25, 0, none⟩), zA, zB, zC, zD, zE, zF, zG, zH, zI, zJ, zK, .pointer (some ⟨B37, 0, none⟩), .pointer (some ⟨B38, 0, none⟩), zN, zO, zP, zQ, .pointer (some ⟨B43, 0, none⟩), zS, zT, zU, zV, zW, zX, zY, zZ, uA, uB, uC, uD, uE, uF, uG, uH, uI, uJ, uK, uL, uM, uN, uO, uP, uQ, uR, uS, uT, uU, uV, uW, uX, uY, uZ, iA, iB, iC, iD, iE, iF, iG, iH, iI, iJ, iK, iL, iM, iN, iO, iP, iQ, iR, iS, iT, iU, iV, iW, iX, iY, iZ, oA, oB, oC, oD, oE, oF, oG, oH, oI, oJ, oK, oL, oM, oN, oO, oP, oQ, oR, oS, oT, oU, oV, oW, oX, oY, oZ, qA, qB, qC, qD, qE, qF, qG, qH, qI, qJ, qK, qL, qM, qN, qO, qP, qQ, qR, qS, qT, qU, qV, qW, qX, qY, qZ, rA, rB, rC, rD, rE, rF, rG, rH, rI, rJ, rK, rL, rM, rN, rO, rP, rQ, rR, rS, rT, rU, rV, rW, rX, rY, rZ, jA, jB, jC, jD, jE, jF, jG, jH, jI, jJ, jK, jL, jM, jN, jO, jP, jQ, jR, jS, jT, jU, jV, jW, jX, jY, jZ, nA, nB, nC, nD, nE, nF, nG, nH, nI, nJ, nK, nL, nM, nN, nO, nP, nQ, nR, nS, nT, nU, nV, nW, nX, nY, nZ, gA, gB, gC, gD, gE, gF, gG, gH, gI, gJ, gK, gL, gM, gN, gO, gP, gQ, gR, gS, gT, gU, gV, gW, gX, gY, gZ, fA, fB, fC, fD, fE, fF, fG, fH, fI, fJ, fK, fL, fM, fN, fO, fP, fQ, fR, fS, fT, fU, fV, fW, fX, fY, fZ, dA, dB, dC, dD, dE, dF, dG, dH, dI, dJ, dK, dL, dM, dN, dO, dP, dQ, dR, dS, dT, dU, dV, dW, dX, dY, dZ, cA, cB, cC, cD, cE, cF, cG, cH, cI, cJ, cK], defers := [] }) (b4_0 : w.cell? ⟨B4, 0, none⟩ = some (.int .i64 3959)) (b4_1 : w.cell? ⟨B4, 1, none⟩ = some (.int .i64 55)) (b43_0 : w.cell? ⟨B43, 0, none⟩ = some (.int .i64 3959)) (b43_1 : w.cell? ⟨B43, 1, none⟩ = some (.int .i64 55)) (b10_0 : w.cell? ⟨B10, 0, none⟩ = some (.int .i64 180)) (b10_1 : w.cell? ⟨B10, 1, none⟩ = some (.int .i64 1)) (b11_0 : w.cell? ⟨B11, 0, none⟩ = some (.int .i64 220)) (b11_1 : w.cell? ⟨B11, 1, none⟩ = some (.int .i64 1)) (b17_0 : w.cell? ⟨B17, 0, none⟩ = some (.int .i64 3959)) (b17_1 : w.cell? ⟨B17, 1, none⟩ = some (.int .i64 55)) (b19_0 : w.cell? ⟨B19, 0, none⟩ = some (.int .i64 610)) (b19_1 : w.cell? ⟨B19, 1, none⟩ = some (.int .i64 9)) (b25_0 : w.cell? ⟨B25, 0, none⟩ = some (.int .i64 3959)) (b25_1 : w.cell? ⟨B25, 1, none⟩ = some (.int .i64 55)) (b37_0 : w.cell? ⟨B37, 0, none⟩ = some (.int .i64 0)) (b37_1 : w.cell? ⟨B37, 1, none⟩ = some (.int .i64 1)) (b38_0 : w.cell? ⟨B38, 0, none⟩ = some (.int .i64 5)) (b38_1 : w.cell? ⟨B38, 1, none⟩ = some (.int .i64 11)) :
 Code.wp Try.prog (rgn Try.f18 25) (fun e a' w' => e = .normal ∧ a' = ({ tmps := #[.bool true,yB,yC,yD,.pointer (some ⟨B4, 0, none⟩),yF,yG,yH,yI,yJ,.pointer (some ⟨B10, 0, none⟩),.pointer (some ⟨B11, 0, none⟩),yM,yN,yO,yP,yQ,.pointer (some ⟨B17, 0, none⟩),yS,.pointer (some ⟨B19, 0, none⟩),yU,yV,yW,yX,yY,.pointer (some ⟨B25, 0, none⟩),zA,zB,zC,zD,zE,zF,zG,zH,zI,zJ,zK,.pointer (some ⟨B37, 0, none⟩),.pointer (some ⟨B38, 0, none⟩),zN,zO,zP,zQ,.pointer (some ⟨B43, 0, none⟩),zS,zT,zU,zV,zW,zX,zY,zZ,uA,uB,uC,uD,uE,uF,uG,uH,uI,uJ,uK,uL,uM,uN,uO,uP,uQ,uR,uS,uT,uU,uV,uW,uX,uY,uZ,iA,iB,iC,iD,iE,iF,iG,iH,iI,iJ,iK,iL,iM,iN,iO,iP,iQ,iR,iS,iT,iU,iV,iW,iX,iY,iZ,oA,oB,oC,oD,oE,oF,oG,oH,oI,oJ,oK,oL,oM,oN,oO,oP,oQ,oR,oS,oT,oU,oV,oW,oX,oY,oZ,qA,qB,qC,qD,qE,qF,qG,qH,qI,qJ,qK,qL,qM,qN,qO,qP,qQ,qR,qS,qT,qU,qV,qW,qX,qY,qZ,rA,rB,rC,rD,rE,rF,rG,rH,rI,rJ,rK,rL,rM,rN,rO,rP,rQ,rR,rS,rT,rU,rV,rW,rX,rY,rZ,jA,jB,jC,jD,jE,jF,jG,jH,jI,jJ,jK,jL,jM,jN,jO,jP,jQ,jR,jS,jT,jU,jV,jW,jX,jY,jZ,nA,nB,nC,nD,nE,nF,nG,nH,nI,nJ,nK,nL,nM,nN,nO,nP,nQ,nR,nS,nT,nU,nV,nW,nX,nY,nZ,gA,gB,gC,gD,gE,gF,gG,gH,gI,gJ,gK,gL,gM,gN,gO,gP,gQ,gR,gS,gT,gU,gV,gW,gX,gY,gZ,fA,fB,fC,fD,fE,fF,fG,fH,fI,fJ,fK,fL,fM,fN,fO,fP,fQ,fR,fS,fT,fU,fV,fW,fX,fY,.agg #[.int .i64 3959, .int .i64 55],.agg #[.int .i64 3959, .int .i64 55],.bool true,.bool true,.agg #[.int .i64 180, .int .i64 1],.agg #[.int .i64 180, .int .i64 1],.bool true,.bool true,.bool true,.agg #[.int .i64 220, .int .i64 1],.agg #[.int .i64 220, .int .i64 1],.bool true,.bool true,.bool true,.agg #[.int .i64 3959, .int .i64 55],.agg #[.int .i64 3959, .int .i64 55],.bool true,.bool true,.bool true,.agg #[.int .i64 610, .int .i64 9],.agg #[.int .i64 610, .int .i64 9],.bool true,.bool true,.bool true,.agg #[.int .i64 3959, .int .i64 55],.agg #[.int .i64 3959, .int .i64 55],.bool true,.bool true,.bool true,.agg #[.int .i64 0, .int .i64 1],.agg #[.int .i64 0, .int .i64 1],.bool true,.bool true,.bool true,.agg #[.int .i64 5, .int .i64 11],.agg #[.int .i64 5, .int .i64 11],.bool true,.bool true], defers := [] } : Act) ∧ Ext w w') A_ w := by
 conv => arg 2; whnf
 refine st_intro (fun Q2 hQ2 => ?_)
 have hA_ := hid hA0_
 clear hA0_
 have hpan : ∀ c a a' w w', Q2 (.panic c) a w → Q2 (.panic c) a' w' := by rw [hQ2]; rintro c a a' w w' ⟨h, _⟩; cases h
 replace hQ2 := hid hQ2
 have heq0 : ∀ w, (Op.equalIn 10000 29 (.agg #[.int .i64 0, .int .i64 1]) (.agg #[.int .i64 0, .int .i64 1])).run Try.prog w = .ok true w := fun w => by rw [run_eqRatio]; rfl
 have heq1 : ∀ w, (Op.equalIn 10000 29 (.agg #[.int .i64 5, .int .i64 11]) (.agg #[.int .i64 5, .int .i64 11])).run Try.prog w = .ok true w := fun w => by rw [run_eqRatio]; rfl
 have heq2 : ∀ w, (Op.equalIn 10000 29 (.agg #[.int .i64 180, .int .i64 1]) (.agg #[.int .i64 180, .int .i64 1])).run Try.prog w = .ok true w := fun w => by rw [run_eqRatio]; rfl
 have heq3 : ∀ w, (Op.equalIn 10000 29 (.agg #[.int .i64 220, .int .i64 1]) (.agg #[.int .i64 220, .int .i64 1])).run Try.prog w = .ok true w := fun w => by rw [run_eqRatio]; rfl
 have heq4 : ∀ w, (Op.equalIn 10000 29 (.agg #[.int .i64 610, .int .i64 9]) (.agg #[.int .i64 610, .int .i64 9])).run Try.prog w = .ok true w := fun w => by rw [run_eqRatio]; rfl
 have heq5 : ∀ w, (Op.equalIn 10000 29 (.agg #[.int .i64 3959, .int .i64 55]) (.agg #[.int .i64 3959, .int .i64 55])).run Try.prog w = .ok true w := fun w => by rw [run_eqRatio]; rfl
 have hRD_ := hid (fun w' (x_ : Ext w w') => And.intro (Ext.cell x_ b4_0) (And.intro (Ext.cell x_ b4_1) (And.intro (Ext.cell x_ b43_0) (And.intro (Ext.cell x_ b43_1) (And.intro (Ext.cell x_ b10_0) (And.intro (Ext.cell x_ b10_1) (And.intro (Ext.cell x_ b11_0) (And.intro (Ext.cell x_ b11_1) (And.intro (Ext.cell x_ b17_0) (And.intro (Ext.cell x_ b17_1) (And.intro (Ext.cell x_ b19_0) (And.intro (Ext.cell x_ b19_1) (And.intro (Ext.cell x_ b25_0) (And.intro (Ext.cell x_ b25_1) (And.intro (Ext.cell x_ b37_0) (And.intro (Ext.cell x_ b37_1) (And.intro (Ext.cell x_ b38_0) (Ext.cell x_ b38_1))))))))))))))))))
 refine wp_region_held_drew (S := fun w' => Ext w w') (by kernel_rfl) exE fun hHeld => ?_
 try simp only [List.append_eq, List.cons_append, List.nil_append]
 refine name_any (fun W0 hW => ?_)
 have s0 : Ext w W0 := by rw [hW]; exact hHeld
 clear hW hHeld
 refine wpF_intro 39 (by kernel_rfl) (fun F hF => ?_)
 replace hF := hid hF
 have N1_0 : ∀ (f_ : Nat) (l_ : Array Bool) (W0 : World) (a_ : Act), f_ = 4 → l_ = #[true, true, true, true, true, true, true, true, true, true, true, true, true, true, true, true, true, true, true, true, true, true, true, true, true, true, true, true, true, true, true, true, true, true, true, false, false, false, false] → a_ = ({ tmps := #[yA,yB,yC,yD,.pointer (some ⟨B4, 0, none⟩),yF,yG,yH,yI,yJ,.pointer (some ⟨B10, 0, none⟩),.pointer (some ⟨B11, 0, none⟩),yM,yN,yO,yP,yQ,.pointer (some ⟨B17, 0, none⟩),yS,.pointer (some ⟨B19, 0, none⟩),yU,yV,yW,yX,yY,.pointer (some ⟨B25, 0, none⟩),zA,zB,zC,zD,zE,zF,zG,zH,zI,zJ,zK,.pointer (some ⟨B37, 0, none⟩),.pointer (some ⟨B38, 0, none⟩),zN,zO,zP,zQ,.pointer (some ⟨B43, 0, none⟩),zS,zT,zU,zV,zW,zX,zY,zZ,uA,uB,uC,uD,uE,uF,uG,uH,uI,uJ,uK,uL,uM,uN,uO,uP,uQ,uR,uS,uT,uU,uV,uW,uX,uY,uZ,iA,iB,iC,iD,iE,iF,iG,iH,iI,iJ,iK,iL,iM,iN,iO,iP,iQ,iR,iS,iT,iU,iV,iW,iX,iY,iZ,oA,oB,oC,oD,oE,oF,oG,oH,oI,oJ,oK,oL,oM,oN,oO,oP,oQ,oR,oS,oT,oU,oV,oW,oX,oY,oZ,qA,qB,qC,qD,qE,qF,qG,qH,qI,qJ,qK,qL,qM,qN,qO,qP,qQ,qR,qS,qT,qU,qV,qW,qX,qY,qZ,rA,rB,rC,rD,rE,rF,rG,rH,rI,rJ,rK,rL,rM,rN,rO,rP,rQ,rR,rS,rT,rU,rV,rW,rX,rY,rZ,jA,jB,jC,jD,jE,jF,jG,jH,jI,jJ,jK,jL,jM,jN,jO,jP,jQ,jR,jS,jT,jU,jV,jW,jX,jY,jZ,nA,nB,nC,nD,nE,nF,nG,nH,nI,nJ,nK,nL,nM,nN,nO,nP,nQ,nR,nS,nT,nU,nV,nW,nX,nY,nZ,gA,gB,gC,gD,gE,gF,gG,gH,gI,gJ,gK,gL,gM,gN,gO,gP,gQ,gR,gS,gT,gU,gV,gW,gX,gY,gZ,fA,fB,fC,fD,fE,fF,fG,fH,fI,fJ,fK,fL,fM,fN,fO,fP,fQ,fR,fS,fT,fU,fV,fW,fX,fY,.agg #[.int .i64 3959, .int .i64 55],.agg #[.int .i64 3959, .int .i64 55],.bool true,.bool true,.agg #[.int .i64 180, .int .i64 1],.agg #[.int .i64 180, .int .i64 1],.bool true,.bool true,.bool true,.agg #[.int .i64 220, .int .i64 1],.agg #[.int .i64 220, .int .i64 1],.bool true,.bool true,.bool true,.agg #[.int .i64 3959, .int .i64 55],.agg #[.int .i64 3959, .int .i64 55],.bool true,.bool true,.bool true,.agg #[.int .i64 610, .int .i64 9],.agg #[.int .i64 610, .int .i64 9],.bool true,.bool true,.bool true,.agg #[.int .i64 3959, .int .i64 55],.agg #[.int .i64 3959, .int .i64 55],.bool true,.bool true,.bool true,.agg #[.int .i64 0, .int .i64 1],.agg #[.int .i64 0, .int .i64 1],.bool true,.bool true,.bool true,.agg #[.int .i64 5, .int .i64 11],cI,cJ,cK], defers := [] } : Act) → Ext w W0 → F f_ l_ a_ W0 := by
  intro  f_ l_ W0 a_ hf_ hl_ ha_ s0
  subst hf_ hl_ ha_
  refine (hF.out _ _ _ _).2 ?_
  refine wpAnyH_ready (rs := [35]) (by kernel_rfl) (by simp) ?_
  refine AllReadyH.cons (o := _) rfl (fun K hK => ?_) AllReadyH.nil
  refine tk_call (by kernel_rfl) (byL_any 5 11 _) (by kernel_rfl) ?_; rintro e W1 ⟨rfl, e1⟩; refine ⟨_, rfl, ?_⟩
  have s1 := s0.trans e1
  refine hK.out _ _ s1 (fun _ => ?_)
  clear hK K
  try simp only [sxA, sxB, sxC, Act.put, sxD, sxE, sxF]
  refine tkB (i := 36) (v := ?_) rfl hpan ?yl ?_
  case yl => (intro w hSw; (try dsimp only at hSw);  go_simp); with_reducible rfl
  try simp only [sxA, sxB, sxC, Act.put, sxD, sxE, sxF]
  refine tkB (i := 37) (v := ?_) rfl hpan ?yl ?_
  case yl => (intro w hSw; (try dsimp only at hSw);  go_simp); with_reducible rfl
  try simp only [sxA, sxB, sxC, Act.put, sxD, sxE, sxF]
  refine tkB (i := 38) (v := ?_) rfl hpan ?yl ?_
  case yl => (intro w hSw; (try dsimp only at hSw);  go_simp); with_reducible rfl
  try simp only [sxA, sxB, sxC, Act.put, sxD, sxE, sxF]
  refine wpAnyH_done (by kernel_rfl) ?_ _
  try simp only [sxA, sxB, sxC, Act.put, sxD, sxE, sxF]
  rw [hQ2.out]
  refine ⟨rfl, ?eq1_1, s1⟩
  case eq1_1 => (first | with_reducible rfl | rfl)
 have N1_1 : ∀ (f_ : Nat) (l_ : Array Bool) (W0 : World) (a_ : Act), f_ = 9 → l_ = #[true, true, true, true, true, true, true, true, true, true, true, true, true, true, true, true, true, true, true, true, true, true, true, true, true, true, true, true, true, true, false, false, false, false, false, false, false, false, false] → a_ = ({ tmps := #[yA,yB,yC,yD,.pointer (some ⟨B4, 0, none⟩),yF,yG,yH,yI,yJ,.pointer (some ⟨B10, 0, none⟩),.pointer (some ⟨B11, 0, none⟩),yM,yN,yO,yP,yQ,.pointer (some ⟨B17, 0, none⟩),yS,.pointer (some ⟨B19, 0, none⟩),yU,yV,yW,yX,yY,.pointer (some ⟨B25, 0, none⟩),zA,zB,zC,zD,zE,zF,zG,zH,zI,zJ,zK,.pointer (some ⟨B37, 0, none⟩),.pointer (some ⟨B38, 0, none⟩),zN,zO,zP,zQ,.pointer (some ⟨B43, 0, none⟩),zS,zT,zU,zV,zW,zX,zY,zZ,uA,uB,uC,uD,uE,uF,uG,uH,uI,uJ,uK,uL,uM,uN,uO,uP,uQ,uR,uS,uT,uU,uV,uW,uX,uY,uZ,iA,iB,iC,iD,iE,iF,iG,iH,iI,iJ,iK,iL,iM,iN,iO,iP,iQ,iR,iS,iT,iU,iV,iW,iX,iY,iZ,oA,oB,oC,oD,oE,oF,oG,oH,oI,oJ,oK,oL,oM,oN,oO,oP,oQ,oR,oS,oT,oU,oV,oW,oX,oY,oZ,qA,qB,qC,qD,qE,qF,qG,qH,qI,qJ,qK,qL,qM,qN,qO,qP,qQ,qR,qS,qT,qU,qV,qW,qX,qY,qZ,rA,rB,rC,rD,rE,rF,rG,rH,rI,rJ,rK,rL,rM,rN,rO,rP,rQ,rR,rS,rT,rU,rV,rW,rX,rY,rZ,jA,jB,jC,jD,jE,jF,jG,jH,jI,jJ,jK,jL,jM,jN,jO,jP,jQ,jR,jS,jT,jU,jV,jW,jX,jY,jZ,nA,nB,nC,nD,nE,nF,nG,nH,nI,nJ,nK,nL,nM,nN,nO,nP,nQ,nR,nS,nT,nU,nV,nW,nX,nY,nZ,gA,gB,gC,gD,gE,gF,gG,gH,gI,gJ,gK,gL,gM,gN,gO,gP,gQ,gR,gS,gT,gU,gV,gW,gX,gY,gZ,fA,fB,fC,fD,fE,fF,fG,fH,fI,fJ,fK,fL,fM,fN,fO,fP,fQ,fR,fS,fT,fU,fV,fW,fX,fY,.agg #[.int .i64 3959, .int .i64 55],.agg #[.int .i64 3959, .int .i64 55],.bool true,.bool true,.agg #[.int .i64 180, .int .i64 1],.agg #[.int .i64 180, .int .i64 1],.bool true,.bool true,.bool true,.agg #[.int .i64 220, .int .i64 1],.agg #[.int .i64 220, .int .i64 1],.bool true,.bool true,.bool true,.agg #[.int .i64 3959, .int .i64 55],.agg #[.int .i64 3959, .int .i64 55],.bool true,.bool true,.bool true,.agg #[.int .i64 610, .int .i64 9],.agg #[.int .i64 610, .int .i64 9],.bool true,.bool true,.bool true,.agg #[.int .i64 3959, .int .i64 55],.agg #[.int .i64 3959, .int .i64 55],.bool true,.bool true,.bool true,.agg #[.int .i64 0, .int .i64 1],cD,cE,cF,cG,cH,cI,cJ,cK], defers := [] } : Act) → Ext w W0 → F f_ l_ a_ W0 := by
  intro  f_ l_ W0 a_ hf_ hl_ ha_ s0
  subst hf_ hl_ ha_
  refine (hF.out _ _ _ _).2 ?_
  refine wpAnyH_ready (rs := [30]) (by kernel_rfl) (by simp) ?_
  refine AllReadyH.cons (o := _) rfl (fun K hK => ?_) AllReadyH.nil
  refine tk_call (by kernel_rfl) (byL_any 0 1 _) (by kernel_rfl) ?_; rintro e W1 ⟨rfl, e1⟩; refine ⟨_, rfl, ?_⟩
  have s1 := s0.trans e1
  refine hK.out _ _ s1 (fun _ => ?_)
  clear hK K
  try simp only [sxA, sxB, sxC, Act.put, sxD, sxE, sxF]
  refine tkB (i := 31) (v := ?_) rfl hpan ?yl ?_
  case yl => (intro w hSw; (try dsimp only at hSw);  go_simp); with_reducible rfl
  try simp only [sxA, sxB, sxC, Act.put, sxD, sxE, sxF]
  refine tkB (i := 32) (v := ?_) rfl hpan ?yl ?_
  case yl => (intro w hSw; (try dsimp only at hSw);  go_simp); with_reducible rfl
  try simp only [sxA, sxB, sxC, Act.put, sxD, sxE, sxF]
  refine tkB (i := 33) (v := ?_) rfl hpan ?yl ?_
  case yl => (intro w hSw; (try dsimp only at hSw);  go_simp); with_reducible rfl
  try simp only [sxA, sxB, sxC, Act.put, sxD, sxE, sxF]
  refine tkB (i := 34) (v := ?_) rfl hpan ?yl ?_
  case yl => (intro w hSw; have k_ := hRD_.out w hSw; go_simp); with_reducible rfl
  try simp only [sxA, sxB, sxC, Act.put, sxD, sxE, sxF]
  refine (hF.out _ _ _ _).1 ?_
  exact N1_0 _ _ W1 _ (by first | rfl | kernel_rfl) (by first | rfl | kernel_rfl) (by (try simp only [sxA, sxB, sxC, Act.put, sxD, sxE, sxF]); first | done | with_reducible rfl | rfl) s1
 have N1_2 : ∀ (f_ : Nat) (l_ : Array Bool) (W0 : World) (a_ : Act), f_ = 19 → l_ = #[true, true, true, true, true, true, true, true, true, true, true, true, true, true, true, true, true, true, true, true, false, false, false, false, false, false, false, false, false, false, false, false, false, false, false, false, false, false, false] → a_ = ({ tmps := #[yA,yB,yC,yD,.pointer (some ⟨B4, 0, none⟩),yF,yG,yH,yI,yJ,.pointer (some ⟨B10, 0, none⟩),.pointer (some ⟨B11, 0, none⟩),yM,yN,yO,yP,yQ,.pointer (some ⟨B17, 0, none⟩),yS,.pointer (some ⟨B19, 0, none⟩),yU,yV,yW,yX,yY,.pointer (some ⟨B25, 0, none⟩),zA,zB,zC,zD,zE,zF,zG,zH,zI,zJ,zK,.pointer (some ⟨B37, 0, none⟩),.pointer (some ⟨B38, 0, none⟩),zN,zO,zP,zQ,.pointer (some ⟨B43, 0, none⟩),zS,zT,zU,zV,zW,zX,zY,zZ,uA,uB,uC,uD,uE,uF,uG,uH,uI,uJ,uK,uL,uM,uN,uO,uP,uQ,uR,uS,uT,uU,uV,uW,uX,uY,uZ,iA,iB,iC,iD,iE,iF,iG,iH,iI,iJ,iK,iL,iM,iN,iO,iP,iQ,iR,iS,iT,iU,iV,iW,iX,iY,iZ,oA,oB,oC,oD,oE,oF,oG,oH,oI,oJ,oK,oL,oM,oN,oO,oP,oQ,oR,oS,oT,oU,oV,oW,oX,oY,oZ,qA,qB,qC,qD,qE,qF,qG,qH,qI,qJ,qK,qL,qM,qN,qO,qP,qQ,qR,qS,qT,qU,qV,qW,qX,qY,qZ,rA,rB,rC,rD,rE,rF,rG,rH,rI,rJ,rK,rL,rM,rN,rO,rP,rQ,rR,rS,rT,rU,rV,rW,rX,rY,rZ,jA,jB,jC,jD,jE,jF,jG,jH,jI,jJ,jK,jL,jM,jN,jO,jP,jQ,jR,jS,jT,jU,jV,jW,jX,jY,jZ,nA,nB,nC,nD,nE,nF,nG,nH,nI,nJ,nK,nL,nM,nN,nO,nP,nQ,nR,nS,nT,nU,nV,nW,nX,nY,nZ,gA,gB,gC,gD,gE,gF,gG,gH,gI,gJ,gK,gL,gM,gN,gO,gP,gQ,gR,gS,gT,gU,gV,gW,gX,gY,gZ,fA,fB,fC,fD,fE,fF,fG,fH,fI,fJ,fK,fL,fM,fN,fO,fP,fQ,fR,fS,fT,fU,fV,fW,fX,fY,.agg #[.int .i64 3959, .int .i64 55],.agg #[.int .i64 3959, .int .i64 55],.bool true,.bool true,.agg #[.int .i64 180, .int .i64 1],.agg #[.int .i64 180, .int .i64 1],.bool true,.bool true,.bool true,.agg #[.int .i64 220, .int .i64 1],.agg #[.int .i64 220, .int .i64 1],.bool true,.bool true,.bool true,.agg #[.int .i64 3959, .int .i64 55],.agg #[.int .i64 3959, .int .i64 55],.bool true,.bool true,.bool true,.agg #[.int .i64 610, .int .i64 9],dT,dU,dV,dW,dX,dY,dZ,cA,cB,cC,cD,cE,cF,cG,cH,cI,cJ,cK], defers := [] } : Act) → Ext w W0 → F f_ l_ a_ W0 := by
  intro  f_ l_ W0 a_ hf_ hl_ ha_ s0
  subst hf_ hl_ ha_
  refine (hF.out _ _ _ _).2 ?_
  clear N1_0
  refine wpAnyH_ready (rs := [20]) (by kernel_rfl) (by simp) ?_
  refine AllReadyH.cons (o := _) rfl (fun K hK => ?_) AllReadyH.nil
  refine tk_call (by kernel_rfl) (byL_any 610 9 _) (by kernel_rfl) ?_; rintro e W1 ⟨rfl, e1⟩; refine ⟨_, rfl, ?_⟩
  have s1 := s0.trans e1
  refine hK.out _ _ s1 (fun _ => ?_)
  clear hK K
  try simp only [sxA, sxB, sxC, Act.put, sxD, sxE, sxF]
  refine tkB (i := 21) (v := ?_) rfl hpan ?yl ?_
  case yl => (intro w hSw; (try dsimp only at hSw);  go_simp); with_reducible rfl
  try simp only [sxA, sxB, sxC, Act.put, sxD, sxE, sxF]
  refine tkB (i := 22) (v := ?_) rfl hpan ?yl ?_
  case yl => (intro w hSw; (try dsimp only at hSw);  go_simp); with_reducible rfl
  try simp only [sxA, sxB, sxC, Act.put, sxD, sxE, sxF]
  refine tkB (i := 23) (v := ?_) rfl hpan ?yl ?_
  case yl => (intro w hSw; (try dsimp only at hSw);  go_simp); with_reducible rfl
  try simp only [sxA, sxB, sxC, Act.put, sxD, sxE, sxF]
  refine tkB (i := 24) (v := ?_) rfl hpan ?yl ?_
  case yl => (intro w hSw; have k_ := hRD_.out w hSw; go_simp); with_reducible rfl
  try simp only [sxA, sxB, sxC, Act.put, sxD, sxE, sxF]
  refine tkB (i := 25) (v := ?_) rfl hpan ?yl ?_
  case yl => (intro w hSw; have k_ := hRD_.out w hSw; go_simp); with_reducible rfl
  try simp only [sxA, sxB, sxC, Act.put, sxD, sxE, sxF]
  refine tkB (i := 26) (v := ?_) rfl hpan ?yl ?_
  case yl => (intro w hSw; (try dsimp only at hSw);  go_simp); with_reducible rfl
  try simp only [sxA, sxB, sxC, Act.put, sxD, sxE, sxF]
  refine tkB (i := 27) (v := ?_) rfl hpan ?yl ?_
  case yl => (intro w hSw; (try dsimp only at hSw);  go_simp); with_reducible rfl
  try simp only [sxA, sxB, sxC, Act.put, sxD, sxE, sxF]
  refine tkB (i := 28) (v := ?_) rfl hpan ?yl ?_
  case yl => (intro w hSw; (try dsimp only at hSw);  go_simp); with_reducible rfl
  try simp only [sxA, sxB, sxC, Act.put, sxD, sxE, sxF]
  refine tkB (i := 29) (v := ?_) rfl hpan ?yl ?_
  case yl => (intro w hSw; have k_ := hRD_.out w hSw; go_simp); with_reducible rfl
  try simp only [sxA, sxB, sxC, Act.put, sxD, sxE, sxF]
  refine (hF.out _ _ _ _).1 ?_
  exact N1_1 _ _ W1 _ (by first | rfl | kernel_rfl) (by first | rfl | kernel_rfl) (by (try simp only [sxA, sxB, sxC, Act.put, sxD, sxE, sxF]); first | done | with_reducible rfl | rfl) s1
 have N1_3 : ∀ (f_ : Nat) (l_ : Array Bool) (W0 : World) (a_ : Act), f_ = 29 → l_ = #[true, true, true, true, true, true, true, true, true, true, false, false, false, false, false, false, false, false, false, false, false, false, false, false, false, false, false, false, false, false, false, false, false, false, false, false, false, false, false] → a_ = ({ tmps := #[yA,yB,yC,yD,.pointer (some ⟨B4, 0, none⟩),yF,yG,yH,yI,yJ,.pointer (some ⟨B10, 0, none⟩),.pointer (some ⟨B11, 0, none⟩),yM,yN,yO,yP,yQ,.pointer (some ⟨B17, 0, none⟩),yS,.pointer (some ⟨B19, 0, none⟩),yU,yV,yW,yX,yY,.pointer (some ⟨B25, 0, none⟩),zA,zB,zC,zD,zE,zF,zG,zH,zI,zJ,zK,.pointer (some ⟨B37, 0, none⟩),.pointer (some ⟨B38, 0, none⟩),zN,zO,zP,zQ,.pointer (some ⟨B43, 0, none⟩),zS,zT,zU,zV,zW,zX,zY,zZ,uA,uB,uC,uD,uE,uF,uG,uH,uI,uJ,uK,uL,uM,uN,uO,uP,uQ,uR,uS,uT,uU,uV,uW,uX,uY,uZ,iA,iB,iC,iD,iE,iF,iG,iH,iI,iJ,iK,iL,iM,iN,iO,iP,iQ,iR,iS,iT,iU,iV,iW,iX,iY,iZ,oA,oB,oC,oD,oE,oF,oG,oH,oI,oJ,oK,oL,oM,oN,oO,oP,oQ,oR,oS,oT,oU,oV,oW,oX,oY,oZ,qA,qB,qC,qD,qE,qF,qG,qH,qI,qJ,qK,qL,qM,qN,qO,qP,qQ,qR,qS,qT,qU,qV,qW,qX,qY,qZ,rA,rB,rC,rD,rE,rF,rG,rH,rI,rJ,rK,rL,rM,rN,rO,rP,rQ,rR,rS,rT,rU,rV,rW,rX,rY,rZ,jA,jB,jC,jD,jE,jF,jG,jH,jI,jJ,jK,jL,jM,jN,jO,jP,jQ,jR,jS,jT,jU,jV,jW,jX,jY,jZ,nA,nB,nC,nD,nE,nF,nG,nH,nI,nJ,nK,nL,nM,nN,nO,nP,nQ,nR,nS,nT,nU,nV,nW,nX,nY,nZ,gA,gB,gC,gD,gE,gF,gG,gH,gI,gJ,gK,gL,gM,gN,gO,gP,gQ,gR,gS,gT,gU,gV,gW,gX,gY,gZ,fA,fB,fC,fD,fE,fF,fG,fH,fI,fJ,fK,fL,fM,fN,fO,fP,fQ,fR,fS,fT,fU,fV,fW,fX,fY,.agg #[.int .i64 3959, .int .i64 55],.agg #[.int .i64 3959, .int .i64 55],.bool true,.bool true,.agg #[.int .i64 180, .int .i64 1],.agg #[.int .i64 180, .int .i64 1],.bool true,.bool true,.bool true,.agg #[.int .i64 220, .int .i64 1],dJ,dK,dL,dM,dN,dO,dP,dQ,dR,dS,dT,dU,dV,dW,dX,dY,dZ,cA,cB,cC,cD,cE,cF,cG,cH,cI,cJ,cK], defers := [] } : Act) → Ext w W0 → F f_ l_ a_ W0 := by
  intro  f_ l_ W0 a_ hf_ hl_ ha_ s0
  subst hf_ hl_ ha_
  refine (hF.out _ _ _ _).2 ?_
  clear N1_0 N1_1
  refine wpAnyH_ready (rs := [10]) (by kernel_rfl) (by simp) ?_
  refine AllReadyH.cons (o := _) rfl (fun K hK => ?_) AllReadyH.nil
  refine tk_call (by kernel_rfl) (byL_any 220 1 _) (by kernel_rfl) ?_; rintro e W1 ⟨rfl, e1⟩; refine ⟨_, rfl, ?_⟩
  have s1 := s0.trans e1
  refine hK.out _ _ s1 (fun _ => ?_)
  clear hK K
  try simp only [sxA, sxB, sxC, Act.put, sxD, sxE, sxF]
  refine tkB (i := 11) (v := ?_) rfl hpan ?yl ?_
  case yl => (intro w hSw; (try dsimp only at hSw);  go_simp); with_reducible rfl
  try simp only [sxA, sxB, sxC, Act.put, sxD, sxE, sxF]
  refine tkB (i := 12) (v := ?_) rfl hpan ?yl ?_
  case yl => (intro w hSw; (try dsimp only at hSw);  go_simp); with_reducible rfl
  try simp only [sxA, sxB, sxC, Act.put, sxD, sxE, sxF]
  refine tkB (i := 13) (v := ?_) rfl hpan ?yl ?_
  case yl => (intro w hSw; (try dsimp only at hSw);  go_simp); with_reducible rfl
  try simp only [sxA, sxB, sxC, Act.put, sxD, sxE, sxF]
  refine tkB (i := 14) (v := ?_) rfl hpan ?yl ?_
  case yl => (intro w hSw; have k_ := hRD_.out w hSw; go_simp); with_reducible rfl
  try simp only [sxA, sxB, sxC, Act.put, sxD, sxE, sxF]
  refine tkB (i := 15) (v := ?_) rfl hpan ?yl ?_
  case yl => (intro w hSw; have k_ := hRD_.out w hSw; go_simp); with_reducible rfl
  try simp only [sxA, sxB, sxC, Act.put, sxD, sxE, sxF]
  refine tkB (i := 16) (v := ?_) rfl hpan ?yl ?_
  case yl => (intro w hSw; (try dsimp only at hSw);  go_simp); with_reducible rfl
  try simp only [sxA, sxB, sxC, Act.put, sxD, sxE, sxF]
  refine tkB (i := 17) (v := ?_) rfl hpan ?yl ?_
  case yl => (intro w hSw; (try dsimp only at hSw);  go_simp); with_reducible rfl
  try simp only [sxA, sxB, sxC, Act.put, sxD, sxE, sxF]
  refine tkB (i := 18) (v := ?_) rfl hpan ?yl ?_
  case yl => (intro w hSw; (try dsimp only at hSw);  go_simp); with_reducible rfl
  try simp only [sxA, sxB, sxC, Act.put, sxD, sxE, sxF]
  refine tkB (i := 19) (v := ?_) rfl hpan ?yl ?_
  case yl => (intro w hSw; have k_ := hRD_.out w hSw; go_simp); with_reducible rfl
  try simp only [sxA, sxB, sxC, Act.put, sxD, sxE, sxF]
  refine (hF.out _ _ _ _).1 ?_
  exact N1_2 _ _ W1 _ (by first | rfl | kernel_rfl) (by first | rfl | kernel_rfl) (by (try simp only [sxA, sxB, sxC, Act.put, sxD, sxE, sxF]); first | done | with_reducible rfl | rfl) s1
 have N1_4 : ∀ (f_ : Nat) (l_ : Array Bool) (W0 : World) (a_ : Act), f_ = 34 → l_ = #[true, true, true, true, true, false, false, false, false, false, false, false, false, false, false, false, false, false, false, false, false, false, false, false, false, false, false, false, false, false, false, false, false, false, false, false, false, false, false] → a_ = ({ tmps := #[yA,yB,yC,yD,.pointer (some ⟨B4, 0, none⟩),yF,yG,yH,yI,yJ,.pointer (some ⟨B10, 0, none⟩),.pointer (some ⟨B11, 0, none⟩),yM,yN,yO,yP,yQ,.pointer (some ⟨B17, 0, none⟩),yS,.pointer (some ⟨B19, 0, none⟩),yU,yV,yW,yX,yY,.pointer (some ⟨B25, 0, none⟩),zA,zB,zC,zD,zE,zF,zG,zH,zI,zJ,zK,.pointer (some ⟨B37, 0, none⟩),.pointer (some ⟨B38, 0, none⟩),zN,zO,zP,zQ,.pointer (some ⟨B43, 0, none⟩),zS,zT,zU,zV,zW,zX,zY,zZ,uA,uB,uC,uD,uE,uF,uG,uH,uI,uJ,uK,uL,uM,uN,uO,uP,uQ,uR,uS,uT,uU,uV,uW,uX,uY,uZ,iA,iB,iC,iD,iE,iF,iG,iH,iI,iJ,iK,iL,iM,iN,iO,iP,iQ,iR,iS,iT,iU,iV,iW,iX,iY,iZ,oA,oB,oC,oD,oE,oF,oG,oH,oI,oJ,oK,oL,oM,oN,oO,oP,oQ,oR,oS,oT,oU,oV,oW,oX,oY,oZ,qA,qB,qC,qD,qE,qF,qG,qH,qI,qJ,qK,qL,qM,qN,qO,qP,qQ,qR,qS,qT,qU,qV,qW,qX,qY,qZ,rA,rB,rC,rD,rE,rF,rG,rH,rI,rJ,rK,rL,rM,rN,rO,rP,rQ,rR,rS,rT,rU,rV,rW,rX,rY,rZ,jA,jB,jC,jD,jE,jF,jG,jH,jI,jJ,jK,jL,jM,jN,jO,jP,jQ,jR,jS,jT,jU,jV,jW,jX,jY,jZ,nA,nB,nC,nD,nE,nF,nG,nH,nI,nJ,nK,nL,nM,nN,nO,nP,nQ,nR,nS,nT,nU,nV,nW,nX,nY,nZ,gA,gB,gC,gD,gE,gF,gG,gH,gI,gJ,gK,gL,gM,gN,gO,gP,gQ,gR,gS,gT,gU,gV,gW,gX,gY,gZ,fA,fB,fC,fD,fE,fF,fG,fH,fI,fJ,fK,fL,fM,fN,fO,fP,fQ,fR,fS,fT,fU,fV,fW,fX,fY,.agg #[.int .i64 3959, .int .i64 55],.agg #[.int .i64 3959, .int .i64 55],.bool true,.bool true,.agg #[.int .i64 180, .int .i64 1],dE,dF,dG,dH,dI,dJ,dK,dL,dM,dN,dO,dP,dQ,dR,dS,dT,dU,dV,dW,dX,dY,dZ,cA,cB,cC,cD,cE,cF,cG,cH,cI,cJ,cK], defers := [] } : Act) → Ext w W0 → F f_ l_ a_ W0 := by
  intro  f_ l_ W0 a_ hf_ hl_ ha_ s0
  subst hf_ hl_ ha_
  refine (hF.out _ _ _ _).2 ?_
  clear N1_0 N1_1 N1_2
  refine wpAnyH_ready (rs := [5]) (by kernel_rfl) (by simp) ?_
  refine AllReadyH.cons (o := _) rfl (fun K hK => ?_) AllReadyH.nil
  refine tk_call (by kernel_rfl) (byL_any 180 1 _) (by kernel_rfl) ?_; rintro e W1 ⟨rfl, e1⟩; refine ⟨_, rfl, ?_⟩
  have s1 := s0.trans e1
  refine hK.out _ _ s1 (fun _ => ?_)
  clear hK K
  try simp only [sxA, sxB, sxC, Act.put, sxD, sxE, sxF]
  refine tkB (i := 6) (v := ?_) rfl hpan ?yl ?_
  case yl => (intro w hSw; (try dsimp only at hSw);  go_simp); with_reducible rfl
  try simp only [sxA, sxB, sxC, Act.put, sxD, sxE, sxF]
  refine tkB (i := 7) (v := ?_) rfl hpan ?yl ?_
  case yl => (intro w hSw; (try dsimp only at hSw);  go_simp); with_reducible rfl
  try simp only [sxA, sxB, sxC, Act.put, sxD, sxE, sxF]
  refine tkB (i := 8) (v := ?_) rfl hpan ?yl ?_
  case yl => (intro w hSw; (try dsimp only at hSw);  go_simp); with_reducible rfl
  try simp only [sxA, sxB, sxC, Act.put, sxD, sxE, sxF]
  refine tkB (i := 9) (v := ?_) rfl hpan ?yl ?_
  case yl => (intro w hSw; have k_ := hRD_.out w hSw; go_simp); with_reducible rfl
  try simp only [sxA, sxB, sxC, Act.put, sxD, sxE, sxF]
  refine (hF.out _ _ _ _).1 ?_
  exact N1_3 _ _ W1 _ (by first | rfl | kernel_rfl) (by first | rfl | kernel_rfl) (by (try simp only [sxA, sxB, sxC, Act.put, sxD, sxE, sxF]); first | done | with_reducible rfl | rfl) s1
 rw [hA_.out]
 refine (hF.out _ _ _ _).2 ?_
 refine tkB (i := 0) (v := ?_) rfl hpan ?yl ?_
 case yl => (intro w hSw; have k_ := hRD_.out w hSw; go_simp); with_reducible rfl
 try simp only [sxA, sxB, sxC, Act.put, sxD, sxE, sxF]
 refine tkB (i := 1) (v := ?_) rfl hpan ?yl ?_
 case yl => (intro w hSw; have k_ := hRD_.out w hSw; go_simp); with_reducible rfl
 try simp only [sxA, sxB, sxC, Act.put, sxD, sxE, sxF]
 refine tkB (i := 2) (v := ?_) rfl hpan ?yl ?_
 case yl => (intro w hSw; (try dsimp only at hSw);  go_simp); with_reducible rfl
 try simp only [sxA, sxB, sxC, Act.put, sxD, sxE, sxF]
 refine tkB (i := 3) (v := ?_) rfl hpan ?yl ?_
 case yl => (intro w hSw; (try dsimp only at hSw);  go_simp); with_reducible rfl
 try simp only [sxA, sxB, sxC, Act.put, sxD, sxE, sxF]
 refine tkB (i := 4) (v := ?_) rfl hpan ?yl ?_
 case yl => (intro w hSw; have k_ := hRD_.out w hSw; go_simp); with_reducible rfl
 try simp only [sxA, sxB, sxC, Act.put, sxD, sxE, sxF]
 refine (hF.out _ _ _ _).1 ?_
 exact N1_4 _ _ W0 _ (by first | rfl | kernel_rfl) (by first | rfl | kernel_rfl) (by (try simp only [sxA, sxB, sxC, Act.put, sxD, sxE, sxF]); first | done | with_reducible rfl | rfl) s0
set_option maxHeartbeats 40000000 in
theorem works_any (w : World) : Calls Try.prog 18 #[] w fun e w' => e = .returned (.bool true) ∧ Ext w w' := by
 go_enter Try.func18, Try.ntmps18
 go_wp2_with fail
 refine (four_any _).mono ?_; rintro e w1 ⟨gm, rfl, hM, hE1⟩
 replace hM := hid hM
 go_wp2_with fail
 refine (two_any _).mono ?_; rintro e w2 ⟨gv, rfl, hV, hE2⟩
 replace hV := hid hV
 go_wp2_with fail
 refine (touchL_any _).mono ?_; rintro e w3 ⟨rfl, hE3⟩
 go_upto_region 2 with (fail)
 refine name_wp (fun v0 hv0 => ?_)
 have x0 : Ext w3 v0 := by rw [hv0]; exact exE
 have t0 := hid (show v0.cell? ⟨w3.heap.size, 0, none⟩ = some (.int .i64 100) by rw [hv0]; simp [go_sem])
 have t1 := hid (show v0.cell? ⟨w3.heap.size, 1, none⟩ = some (.int .i64 10) by rw [hv0]; simp [go_sem])
 have hm := hid (hM.out.ext (show Ext w1 v0 from exE))
 have hv := hid (hV.out.ext (show Ext w2 v0 from exE))
 have X := hid (show Ext w v0 from exE)
 clear hv0 x0 hM hV hE1 hE2 hE3
 obtain ⟨T, hT⟩ : ∃ T, w3.heap.size = T := ⟨_, rfl⟩
 rw [hT] at t0 t1 ⊢
 clear hT
 refine wp_mono (stW2 hm.out) ?_
 rintro e a' v1 ⟨rfl, B4, zW', zX', zY', zZ', uA', uB', uC', rfl, x, n0_, n1_⟩
 replace hm := hid (hm.out.ext x)
 replace hv := hid (hv.out.ext x)
 replace t0 := hid (x.cell t0.out)
 replace t1 := hid (x.cell t1.out)
 replace X := hid (X.out.trans x)
 have B4c0 := hid n0_
 have B4c1 := hid n1_
 clear x n0_ n1_
 go_upto_region 3 with (fail)
 refine wp_mono (stW3 hm.out) ?_
 rintro e a' v2 ⟨rfl, B6, uD', uE', uF', uG', uH', uI', uJ', rfl, x, n0_, n1_⟩
 replace hm := hid (hm.out.ext x)
 replace hv := hid (hv.out.ext x)
 replace t0 := hid (x.cell t0.out)
 replace t1 := hid (x.cell t1.out)
 replace B4c0 := hid (x.cell B4c0.out)
 replace B4c1 := hid (x.cell B4c1.out)
 replace X := hid (X.out.trans x)
 clear x n0_ n1_
 go_upto_region 4 with (fail)
 refine wp_mono (stW4 hm.out) ?_
 rintro e a' v3 ⟨rfl, B8, uK', uL', uM', uN', uO', uP', uQ', rfl, x, n0_, n1_⟩
 replace hm := hid (hm.out.ext x)
 replace hv := hid (hv.out.ext x)
 replace t0 := hid (x.cell t0.out)
 replace t1 := hid (x.cell t1.out)
 replace B4c0 := hid (x.cell B4c0.out)
 replace B4c1 := hid (x.cell B4c1.out)
 replace X := hid (X.out.trans x)
 clear x n0_ n1_
 go_upto_region 5 with (fail)
 refine wp_mono (stW5 hm.out) ?_
 rintro e a' v4 ⟨rfl, B10, B11, uR', uS', uT', uU', uV', uW', uX', uY', rfl, x, n0_, n1_, n2_, n3_⟩
 replace hm := hid (hm.out.ext x)
 replace hv := hid (hv.out.ext x)
 replace t0 := hid (x.cell t0.out)
 replace t1 := hid (x.cell t1.out)
 replace B4c0 := hid (x.cell B4c0.out)
 replace B4c1 := hid (x.cell B4c1.out)
 replace X := hid (X.out.trans x)
 have B10c0 := hid n0_
 have B10c1 := hid n1_
 have B11c0 := hid n2_
 have B11c1 := hid n3_
 clear x n0_ n1_ n2_ n3_
 go_upto_region 6 with (fail)
 refine wp_mono (stW6 rfl hm.out t0.out t1.out) ?_
 rintro e a' v5 ⟨rfl, k2, k7, rfl, x⟩
 replace hm := hid (hm.out.ext x)
 replace hv := hid (hv.out.ext x)
 replace t0 := hid (x.cell t0.out)
 replace t1 := hid (x.cell t1.out)
 replace B4c0 := hid (x.cell B4c0.out)
 replace B4c1 := hid (x.cell B4c1.out)
 replace B10c0 := hid (x.cell B10c0.out)
 replace B10c1 := hid (x.cell B10c1.out)
 replace B11c0 := hid (x.cell B11c0.out)
 replace B11c1 := hid (x.cell B11c1.out)
 replace X := hid (X.out.trans x)
 clear x
 go_upto_region 7 with (fail)
 refine wp_mono (stW7 rfl hm.out t0.out t1.out) ?_
 rintro e a' v6 ⟨rfl, k2, k7, rfl, x⟩
 replace hm := hid (hm.out.ext x)
 replace hv := hid (hv.out.ext x)
 replace t0 := hid (x.cell t0.out)
 replace t1 := hid (x.cell t1.out)
 replace B4c0 := hid (x.cell B4c0.out)
 replace B4c1 := hid (x.cell B4c1.out)
 replace B10c0 := hid (x.cell B10c0.out)
 replace B10c1 := hid (x.cell B10c1.out)
 replace B11c0 := hid (x.cell B11c0.out)
 replace B11c1 := hid (x.cell B11c1.out)
 replace X := hid (X.out.trans x)
 clear x
 go_upto_region 8 with (fail)
 refine wp_mono (stW8 hm.out t0.out t1.out) ?_
 rintro e a' v7 ⟨rfl, B17, iT', iU', iV', iW', iX', iY', rfl, x, n0_, n1_⟩
 replace hm := hid (hm.out.ext x)
 replace hv := hid (hv.out.ext x)
 replace t0 := hid (x.cell t0.out)
 replace t1 := hid (x.cell t1.out)
 replace B4c0 := hid (x.cell B4c0.out)
 replace B4c1 := hid (x.cell B4c1.out)
 replace B10c0 := hid (x.cell B10c0.out)
 replace B10c1 := hid (x.cell B10c1.out)
 replace B11c0 := hid (x.cell B11c0.out)
 replace B11c1 := hid (x.cell B11c1.out)
 replace X := hid (X.out.trans x)
 have B17c0 := hid n0_
 have B17c1 := hid n1_
 clear x n0_ n1_
 go_upto_region 9 with (fail)
 refine wp_mono (stW9 hm.out t0.out t1.out) ?_
 rintro e a' v8 ⟨rfl, B19, iZ', oA', oB', oC', oD', oE', rfl, x, n0_, n1_⟩
 replace hm := hid (hm.out.ext x)
 replace hv := hid (hv.out.ext x)
 replace t0 := hid (x.cell t0.out)
 replace t1 := hid (x.cell t1.out)
 replace B4c0 := hid (x.cell B4c0.out)
 replace B4c1 := hid (x.cell B4c1.out)
 replace B10c0 := hid (x.cell B10c0.out)
 replace B10c1 := hid (x.cell B10c1.out)
 replace B11c0 := hid (x.cell B11c0.out)
 replace B11c1 := hid (x.cell B11c1.out)
 replace B17c0 := hid (x.cell B17c0.out)
 replace B17c1 := hid (x.cell B17c1.out)
 replace X := hid (X.out.trans x)
 have B19c0 := hid n0_
 have B19c1 := hid n1_
 clear x n0_ n1_
 go_upto_region 10 with (fail)
 refine wp_mono (stW10 hv.out t0.out t1.out) ?_
 rintro e a' v9 ⟨rfl, B21, oF', oG', oH', oI', oJ', oK', rfl, x, n0_, n1_⟩
 replace hm := hid (hm.out.ext x)
 replace hv := hid (hv.out.ext x)
 replace t0 := hid (x.cell t0.out)
 replace t1 := hid (x.cell t1.out)
 replace B4c0 := hid (x.cell B4c0.out)
 replace B4c1 := hid (x.cell B4c1.out)
 replace B10c0 := hid (x.cell B10c0.out)
 replace B10c1 := hid (x.cell B10c1.out)
 replace B11c0 := hid (x.cell B11c0.out)
 replace B11c1 := hid (x.cell B11c1.out)
 replace B17c0 := hid (x.cell B17c0.out)
 replace B17c1 := hid (x.cell B17c1.out)
 replace B19c0 := hid (x.cell B19c0.out)
 replace B19c1 := hid (x.cell B19c1.out)
 replace X := hid (X.out.trans x)
 clear x n0_ n1_
 go_upto_region 11 with (fail)
 refine wp_mono (stW11 hm.out t0.out t1.out) ?_
 rintro e a' v10 ⟨rfl, al, cl, oL', oM', oN', oO', oP', oQ', rfl, x, n0_⟩
 replace hm := hid (hm.out.ext x)
 replace hv := hid (hv.out.ext x)
 replace t0 := hid (x.cell t0.out)
 replace t1 := hid (x.cell t1.out)
 replace B4c0 := hid (x.cell B4c0.out)
 replace B4c1 := hid (x.cell B4c1.out)
 replace B10c0 := hid (x.cell B10c0.out)
 replace B10c1 := hid (x.cell B10c1.out)
 replace B11c0 := hid (x.cell B11c0.out)
 replace B11c1 := hid (x.cell B11c1.out)
 replace B17c0 := hid (x.cell B17c0.out)
 replace B17c1 := hid (x.cell B17c1.out)
 replace B19c0 := hid (x.cell B19c0.out)
 replace B19c1 := hid (x.cell B19c1.out)
 replace X := hid (X.out.trans x)
 have hl := hid n0_
 clear x n0_
 go_upto_region 12 with (fail)
 refine wp_mono (stW12 rfl hm.out t0.out t1.out) ?_
 rintro e a' v11 ⟨rfl, B25, rfl, x, c7_0, c7_1, fz7_0, fz7_1, z7⟩
 replace hm := hid (hm.out.ext x)
 replace hv := hid (hv.out.ext x)
 replace t0 := hid (x.cell t0.out)
 replace t1 := hid (x.cell t1.out)
 replace B4c0 := hid (x.cell B4c0.out)
 replace B4c1 := hid (x.cell B4c1.out)
 replace B10c0 := hid (x.cell B10c0.out)
 replace B10c1 := hid (x.cell B10c1.out)
 replace B11c0 := hid (x.cell B11c0.out)
 replace B11c1 := hid (x.cell B11c1.out)
 replace B17c0 := hid (x.cell B17c0.out)
 replace B17c1 := hid (x.cell B17c1.out)
 replace B19c0 := hid (x.cell B19c0.out)
 replace B19c1 := hid (x.cell B19c1.out)
 replace hl := hid (hl.out.ext x)
 replace X := hid (X.out.trans x)
 have B25c0 := hid c7_0
 have B25c1 := hid c7_1
 clear x c7_0 c7_1 fz7_0 fz7_1 z7
 go_upto_region 13 with (fail)
 refine wp_mono (stW13 rfl hm.out t0.out t1.out) ?_
 rintro e a' v12 ⟨rfl, B27, rfl, x, c7_0, c7_1, fz7_0, fz7_1, z7⟩
 replace hm := hid (hm.out.ext x)
 replace hv := hid (hv.out.ext x)
 replace t0 := hid (x.cell t0.out)
 replace t1 := hid (x.cell t1.out)
 replace B4c0 := hid (x.cell B4c0.out)
 replace B4c1 := hid (x.cell B4c1.out)
 replace B10c0 := hid (x.cell B10c0.out)
 replace B10c1 := hid (x.cell B10c1.out)
 replace B11c0 := hid (x.cell B11c0.out)
 replace B11c1 := hid (x.cell B11c1.out)
 replace B17c0 := hid (x.cell B17c0.out)
 replace B17c1 := hid (x.cell B17c1.out)
 replace B19c0 := hid (x.cell B19c0.out)
 replace B19c1 := hid (x.cell B19c1.out)
 replace hl := hid (hl.out.ext x)
 replace B25c0 := hid (x.cell B25c0.out)
 replace B25c1 := hid (x.cell B25c1.out)
 replace X := hid (X.out.trans x)
 clear x c7_0 c7_1 fz7_0 fz7_1 z7
 go_upto_region 14 with (fail)
 refine wp_mono (stW14 hm.out t0.out t1.out) ?_
 rintro e a' v13 ⟨rfl, B29, qF', qG', qH', qI', qJ', qK', rfl, x, n0_, n1_, n2_, n3_⟩
 replace hm := hid (hm.out.ext x)
 replace hv := hid (hv.out.ext x)
 replace t0 := hid (x.cell t0.out)
 replace t1 := hid (x.cell t1.out)
 replace B4c0 := hid (x.cell B4c0.out)
 replace B4c1 := hid (x.cell B4c1.out)
 replace B10c0 := hid (x.cell B10c0.out)
 replace B10c1 := hid (x.cell B10c1.out)
 replace B11c0 := hid (x.cell B11c0.out)
 replace B11c1 := hid (x.cell B11c1.out)
 replace B17c0 := hid (x.cell B17c0.out)
 replace B17c1 := hid (x.cell B17c1.out)
 replace B19c0 := hid (x.cell B19c0.out)
 replace B19c1 := hid (x.cell B19c1.out)
 replace hl := hid (hl.out.ext x)
 replace B25c0 := hid (x.cell B25c0.out)
 replace B25c1 := hid (x.cell B25c1.out)
 replace X := hid (X.out.trans x)
 have B29c0 := hid n0_
 have B29c1 := hid n1_
 have B29c2 := hid n2_
 have B29c3 := hid n3_
 clear x n0_ n1_ n2_ n3_
 go_upto_region 15 with (fail)
 refine wp_mono (stW15 rfl hv.out t0.out t1.out) ?_
 rintro e a' v14 ⟨rfl, rfl, x⟩
 replace hm := hid (hm.out.ext x)
 replace hv := hid (hv.out.ext x)
 replace t0 := hid (x.cell t0.out)
 replace t1 := hid (x.cell t1.out)
 replace B4c0 := hid (x.cell B4c0.out)
 replace B4c1 := hid (x.cell B4c1.out)
 replace B10c0 := hid (x.cell B10c0.out)
 replace B10c1 := hid (x.cell B10c1.out)
 replace B11c0 := hid (x.cell B11c0.out)
 replace B11c1 := hid (x.cell B11c1.out)
 replace B17c0 := hid (x.cell B17c0.out)
 replace B17c1 := hid (x.cell B17c1.out)
 replace B19c0 := hid (x.cell B19c0.out)
 replace B19c1 := hid (x.cell B19c1.out)
 replace hl := hid (hl.out.ext x)
 replace B25c0 := hid (x.cell B25c0.out)
 replace B25c1 := hid (x.cell B25c1.out)
 replace B29c0 := hid (x.cell B29c0.out)
 replace B29c1 := hid (x.cell B29c1.out)
 replace B29c2 := hid (x.cell B29c2.out)
 replace B29c3 := hid (x.cell B29c3.out)
 replace X := hid (X.out.trans x)
 clear x
 go_upto_region 16 with (fail)
 refine wp_mono (stW16 hv.out t0.out t1.out) ?_
 rintro e a' v15 ⟨rfl, B33, qT', qU', qV', qW', qX', qY', rfl, x, n0_, n1_, n2_, n3_⟩
 replace hm := hid (hm.out.ext x)
 replace hv := hid (hv.out.ext x)
 replace t0 := hid (x.cell t0.out)
 replace t1 := hid (x.cell t1.out)
 replace B4c0 := hid (x.cell B4c0.out)
 replace B4c1 := hid (x.cell B4c1.out)
 replace B10c0 := hid (x.cell B10c0.out)
 replace B10c1 := hid (x.cell B10c1.out)
 replace B11c0 := hid (x.cell B11c0.out)
 replace B11c1 := hid (x.cell B11c1.out)
 replace B17c0 := hid (x.cell B17c0.out)
 replace B17c1 := hid (x.cell B17c1.out)
 replace B19c0 := hid (x.cell B19c0.out)
 replace B19c1 := hid (x.cell B19c1.out)
 replace hl := hid (hl.out.ext x)
 replace B25c0 := hid (x.cell B25c0.out)
 replace B25c1 := hid (x.cell B25c1.out)
 replace B29c0 := hid (x.cell B29c0.out)
 replace B29c1 := hid (x.cell B29c1.out)
 replace B29c2 := hid (x.cell B29c2.out)
 replace B29c3 := hid (x.cell B29c3.out)
 replace X := hid (X.out.trans x)
 have B33c0 := hid n0_
 have B33c1 := hid n1_
 have B33c2 := hid n2_
 have B33c3 := hid n3_
 clear x n0_ n1_ n2_ n3_
 go_upto_region 17 with (fail)
 refine wp_mono (stW17 hm.out t0.out t1.out) ?_
 rintro e a' v16 ⟨rfl, B35, qZ', rA', rB', rC', rD', rE', rfl, x, n0_, n1_, n2_, n3_⟩
 replace hm := hid (hm.out.ext x)
 replace hv := hid (hv.out.ext x)
 replace t0 := hid (x.cell t0.out)
 replace t1 := hid (x.cell t1.out)
 replace B4c0 := hid (x.cell B4c0.out)
 replace B4c1 := hid (x.cell B4c1.out)
 replace B10c0 := hid (x.cell B10c0.out)
 replace B10c1 := hid (x.cell B10c1.out)
 replace B11c0 := hid (x.cell B11c0.out)
 replace B11c1 := hid (x.cell B11c1.out)
 replace B17c0 := hid (x.cell B17c0.out)
 replace B17c1 := hid (x.cell B17c1.out)
 replace B19c0 := hid (x.cell B19c0.out)
 replace B19c1 := hid (x.cell B19c1.out)
 replace hl := hid (hl.out.ext x)
 replace B25c0 := hid (x.cell B25c0.out)
 replace B25c1 := hid (x.cell B25c1.out)
 replace B29c0 := hid (x.cell B29c0.out)
 replace B29c1 := hid (x.cell B29c1.out)
 replace B29c2 := hid (x.cell B29c2.out)
 replace B29c3 := hid (x.cell B29c3.out)
 replace B33c0 := hid (x.cell B33c0.out)
 replace B33c1 := hid (x.cell B33c1.out)
 replace B33c2 := hid (x.cell B33c2.out)
 replace B33c3 := hid (x.cell B33c3.out)
 replace X := hid (X.out.trans x)
 clear x n0_ n1_ n2_ n3_
 go_upto_region 18 with (fail)
 refine wp_mono (stW18 hm.out t0.out t1.out) ?_
 rintro e a' v17 ⟨rfl, B37, B38, rF', rG', rH', rI', rJ', rK', rL', rfl, x, n0_, n1_, n2_, n3_⟩
 replace hm := hid (hm.out.ext x)
 replace hv := hid (hv.out.ext x)
 replace t0 := hid (x.cell t0.out)
 replace t1 := hid (x.cell t1.out)
 replace B4c0 := hid (x.cell B4c0.out)
 replace B4c1 := hid (x.cell B4c1.out)
 replace B10c0 := hid (x.cell B10c0.out)
 replace B10c1 := hid (x.cell B10c1.out)
 replace B11c0 := hid (x.cell B11c0.out)
 replace B11c1 := hid (x.cell B11c1.out)
 replace B17c0 := hid (x.cell B17c0.out)
 replace B17c1 := hid (x.cell B17c1.out)
 replace B19c0 := hid (x.cell B19c0.out)
 replace B19c1 := hid (x.cell B19c1.out)
 replace hl := hid (hl.out.ext x)
 replace B25c0 := hid (x.cell B25c0.out)
 replace B25c1 := hid (x.cell B25c1.out)
 replace B29c0 := hid (x.cell B29c0.out)
 replace B29c1 := hid (x.cell B29c1.out)
 replace B29c2 := hid (x.cell B29c2.out)
 replace B29c3 := hid (x.cell B29c3.out)
 replace B33c0 := hid (x.cell B33c0.out)
 replace B33c1 := hid (x.cell B33c1.out)
 replace B33c2 := hid (x.cell B33c2.out)
 replace B33c3 := hid (x.cell B33c3.out)
 replace X := hid (X.out.trans x)
 have B37c0 := hid n0_
 have B37c1 := hid n1_
 have B38c0 := hid n2_
 have B38c1 := hid n3_
 clear x n0_ n1_ n2_ n3_
 go_upto_region 19 with (fail)
 refine wp_mono (stW19 hm.out t0.out t1.out) ?_
 rintro e a' v18 ⟨rfl, B40, B41, rM', rN', rO', rP', rQ', rR', rS', rfl, x, n0_, n1_, n2_, n3_⟩
 replace hm := hid (hm.out.ext x)
 replace hv := hid (hv.out.ext x)
 replace t0 := hid (x.cell t0.out)
 replace t1 := hid (x.cell t1.out)
 replace B4c0 := hid (x.cell B4c0.out)
 replace B4c1 := hid (x.cell B4c1.out)
 replace B10c0 := hid (x.cell B10c0.out)
 replace B10c1 := hid (x.cell B10c1.out)
 replace B11c0 := hid (x.cell B11c0.out)
 replace B11c1 := hid (x.cell B11c1.out)
 replace B17c0 := hid (x.cell B17c0.out)
 replace B17c1 := hid (x.cell B17c1.out)
 replace B19c0 := hid (x.cell B19c0.out)
 replace B19c1 := hid (x.cell B19c1.out)
 replace hl := hid (hl.out.ext x)
 replace B25c0 := hid (x.cell B25c0.out)
 replace B25c1 := hid (x.cell B25c1.out)
 replace B29c0 := hid (x.cell B29c0.out)
 replace B29c1 := hid (x.cell B29c1.out)
 replace B29c2 := hid (x.cell B29c2.out)
 replace B29c3 := hid (x.cell B29c3.out)
 replace B33c0 := hid (x.cell B33c0.out)
 replace B33c1 := hid (x.cell B33c1.out)
 replace B33c2 := hid (x.cell B33c2.out)
 replace B33c3 := hid (x.cell B33c3.out)
 replace B37c0 := hid (x.cell B37c0.out)
 replace B37c1 := hid (x.cell B37c1.out)
 replace B38c0 := hid (x.cell B38c0.out)
 replace B38c1 := hid (x.cell B38c1.out)
 replace X := hid (X.out.trans x)
 clear x n0_ n1_ n2_ n3_
 go_upto_region 20 with (fail)
 refine wp_mono (stW20 ) ?_
 rintro e a' v19 ⟨rfl, rT', rU', rV', rW', rX', rY', rZ', jA', jB', jC', jD', jE', jF', jG', jH', jI', jJ', jK', jL', jM', jN', jO', jP', jQ', jR', jS', jT', jU', jV', jW', jX', jY', jZ', nA', nB', nC', nD', nE', nF', nG', nH', nI', nJ', nK', nL', nM', nN', nO', nP', nQ', nR', nS', nT', nU', nV', nW', nX', nY', nZ', gA', gB', gC', gD', gE', gF', gG', gH', gI', gJ', gK', gL', gM', gN', gO', gP', gQ', gR', gS', gT', gU', gV', rfl, x⟩
 replace hm := hid (hm.out.ext x)
 replace hv := hid (hv.out.ext x)
 replace t0 := hid (x.cell t0.out)
 replace t1 := hid (x.cell t1.out)
 replace B4c0 := hid (x.cell B4c0.out)
 replace B4c1 := hid (x.cell B4c1.out)
 replace B10c0 := hid (x.cell B10c0.out)
 replace B10c1 := hid (x.cell B10c1.out)
 replace B11c0 := hid (x.cell B11c0.out)
 replace B11c1 := hid (x.cell B11c1.out)
 replace B17c0 := hid (x.cell B17c0.out)
 replace B17c1 := hid (x.cell B17c1.out)
 replace B19c0 := hid (x.cell B19c0.out)
 replace B19c1 := hid (x.cell B19c1.out)
 replace hl := hid (hl.out.ext x)
 replace B25c0 := hid (x.cell B25c0.out)
 replace B25c1 := hid (x.cell B25c1.out)
 replace B29c0 := hid (x.cell B29c0.out)
 replace B29c1 := hid (x.cell B29c1.out)
 replace B29c2 := hid (x.cell B29c2.out)
 replace B29c3 := hid (x.cell B29c3.out)
 replace B33c0 := hid (x.cell B33c0.out)
 replace B33c1 := hid (x.cell B33c1.out)
 replace B33c2 := hid (x.cell B33c2.out)
 replace B33c3 := hid (x.cell B33c3.out)
 replace B37c0 := hid (x.cell B37c0.out)
 replace B37c1 := hid (x.cell B37c1.out)
 replace B38c0 := hid (x.cell B38c0.out)
 replace B38c1 := hid (x.cell B38c1.out)
 replace X := hid (X.out.trans x)
 clear x
 go_upto_region 22 with (fail)
 refine wp_mono (stW22 hm.out t0.out t1.out B29c0.out B29c1.out B29c2.out B29c3.out) ?_
 rintro e a' v20 ⟨rfl, B43, gX', gY', gZ', fA', fB', fC', fD', rfl, x, n0_, n1_⟩
 replace hm := hid (hm.out.ext x)
 replace hv := hid (hv.out.ext x)
 replace t0 := hid (x.cell t0.out)
 replace t1 := hid (x.cell t1.out)
 replace B4c0 := hid (x.cell B4c0.out)
 replace B4c1 := hid (x.cell B4c1.out)
 replace B10c0 := hid (x.cell B10c0.out)
 replace B10c1 := hid (x.cell B10c1.out)
 replace B11c0 := hid (x.cell B11c0.out)
 replace B11c1 := hid (x.cell B11c1.out)
 replace B17c0 := hid (x.cell B17c0.out)
 replace B17c1 := hid (x.cell B17c1.out)
 replace B19c0 := hid (x.cell B19c0.out)
 replace B19c1 := hid (x.cell B19c1.out)
 replace hl := hid (hl.out.ext x)
 replace B25c0 := hid (x.cell B25c0.out)
 replace B25c1 := hid (x.cell B25c1.out)
 replace B29c0 := hid (x.cell B29c0.out)
 replace B29c1 := hid (x.cell B29c1.out)
 replace B29c2 := hid (x.cell B29c2.out)
 replace B29c3 := hid (x.cell B29c3.out)
 replace B33c0 := hid (x.cell B33c0.out)
 replace B33c1 := hid (x.cell B33c1.out)
 replace B33c2 := hid (x.cell B33c2.out)
 replace B33c3 := hid (x.cell B33c3.out)
 replace B37c0 := hid (x.cell B37c0.out)
 replace B37c1 := hid (x.cell B37c1.out)
 replace B38c0 := hid (x.cell B38c0.out)
 replace B38c1 := hid (x.cell B38c1.out)
 replace X := hid (X.out.trans x)
 have B43c0 := hid n0_
 have B43c1 := hid n1_
 clear x n0_ n1_
 go_upto_region 23 with (fail)
 refine wp_mono (stW23 rfl hm.out hv.out t0.out t1.out B43c0.out B43c1.out B33c0.out B33c1.out B33c2.out B33c3.out hl.out) ?_
 rintro e a' v21 ⟨rfl, rfl, x⟩
 replace hm := hid (hm.out.ext x)
 replace hv := hid (hv.out.ext x)
 replace t0 := hid (x.cell t0.out)
 replace t1 := hid (x.cell t1.out)
 replace B4c0 := hid (x.cell B4c0.out)
 replace B4c1 := hid (x.cell B4c1.out)
 replace B10c0 := hid (x.cell B10c0.out)
 replace B10c1 := hid (x.cell B10c1.out)
 replace B11c0 := hid (x.cell B11c0.out)
 replace B11c1 := hid (x.cell B11c1.out)
 replace B17c0 := hid (x.cell B17c0.out)
 replace B17c1 := hid (x.cell B17c1.out)
 replace B19c0 := hid (x.cell B19c0.out)
 replace B19c1 := hid (x.cell B19c1.out)
 replace hl := hid (hl.out.ext x)
 replace B25c0 := hid (x.cell B25c0.out)
 replace B25c1 := hid (x.cell B25c1.out)
 replace B29c0 := hid (x.cell B29c0.out)
 replace B29c1 := hid (x.cell B29c1.out)
 replace B29c2 := hid (x.cell B29c2.out)
 replace B29c3 := hid (x.cell B29c3.out)
 replace B33c0 := hid (x.cell B33c0.out)
 replace B33c1 := hid (x.cell B33c1.out)
 replace B33c2 := hid (x.cell B33c2.out)
 replace B33c3 := hid (x.cell B33c3.out)
 replace B37c0 := hid (x.cell B37c0.out)
 replace B37c1 := hid (x.cell B37c1.out)
 replace B38c0 := hid (x.cell B38c0.out)
 replace B38c1 := hid (x.cell B38c1.out)
 replace B43c0 := hid (x.cell B43c0.out)
 replace B43c1 := hid (x.cell B43c1.out)
 replace X := hid (X.out.trans x)
 clear x
 go_upto_region 25 with (fail)
 refine wp_mono (stW25 rfl B4c0.out B4c1.out B43c0.out B43c1.out B10c0.out B10c1.out B11c0.out B11c1.out B17c0.out B17c1.out B19c0.out B19c1.out B25c0.out B25c1.out B37c0.out B37c1.out B38c0.out B38c1.out) ?_
 rintro e a' v22 ⟨rfl, rfl, x⟩
 replace hm := hid (hm.out.ext x)
 replace hv := hid (hv.out.ext x)
 replace t0 := hid (x.cell t0.out)
 replace t1 := hid (x.cell t1.out)
 replace B4c0 := hid (x.cell B4c0.out)
 replace B4c1 := hid (x.cell B4c1.out)
 replace B10c0 := hid (x.cell B10c0.out)
 replace B10c1 := hid (x.cell B10c1.out)
 replace B11c0 := hid (x.cell B11c0.out)
 replace B11c1 := hid (x.cell B11c1.out)
 replace B17c0 := hid (x.cell B17c0.out)
 replace B17c1 := hid (x.cell B17c1.out)
 replace B19c0 := hid (x.cell B19c0.out)
 replace B19c1 := hid (x.cell B19c1.out)
 replace hl := hid (hl.out.ext x)
 replace B25c0 := hid (x.cell B25c0.out)
 replace B25c1 := hid (x.cell B25c1.out)
 replace B29c0 := hid (x.cell B29c0.out)
 replace B29c1 := hid (x.cell B29c1.out)
 replace B29c2 := hid (x.cell B29c2.out)
 replace B29c3 := hid (x.cell B29c3.out)
 replace B33c0 := hid (x.cell B33c0.out)
 replace B33c1 := hid (x.cell B33c1.out)
 replace B33c2 := hid (x.cell B33c2.out)
 replace B33c3 := hid (x.cell B33c3.out)
 replace B37c0 := hid (x.cell B37c0.out)
 replace B37c1 := hid (x.cell B37c1.out)
 replace B38c0 := hid (x.cell B38c0.out)
 replace B38c1 := hid (x.cell B38c1.out)
 replace B43c0 := hid (x.cell B43c0.out)
 replace B43c1 := hid (x.cell B43c1.out)
 replace X := hid (X.out.trans x)
 clear x
 go_wp2_with fail
 go_ret
 exact ⟨rfl, X.out⟩
end Go.Proofs.Ytpnfhcnnodolbaa
