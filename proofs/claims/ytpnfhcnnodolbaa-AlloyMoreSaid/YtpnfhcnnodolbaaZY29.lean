/- Texts of one proof, laid together: PvA, Pv. -/
import Derived.Test.YtpnfhcnnodolbaaZY10
import Derived.Test.YtpnfhcnnodolbaaZY28
set_option linter.unusedVariables false
set_option linter.unusedSimpArgs false
set_option linter.unusedSectionVars false
set_option linter.unnecessarySimpa false
set_option maxRecDepth 100000
namespace Go.Proofs.Ytpnfhcnnodolbaa
open Go Go.RowKit Game
set_option maxHeartbeats 40000000 in
theorem stCross {A_ : Act} {yA yB yC yD yE yF yG yI yK yM yN yO yP yQ yR yS yT yU yV yW yX yY yZ zA zB zC zD zE zF zG zH zI zJ zK zL zM zN zO zP zQ zR zS zT zU zV zW zX zY zZ uA uB uC uD uE uF uG uH uI uJ uK uL uM uN uO uP uQ uR uS uT uU uV uW uX uY uZ iA iB iC iD iE iF iG iH iI iJ iK iL iM iN iO iP iQ iR iS iT iU iV iW iX iY iZ oA oB oC oD oE oF oG oH oI oJ oK oL oM oN oO oP oQ oR oS oT oU oV oW oX : Value} {B7 B9 B11 : Nat} {fi fk fj : Nat → Int} {w12 : World} (hA0_ : A_ = { tmps := #[yA, yB, yC, yD, yE, yF, yG, (.pointer (some ⟨B7, 0, none⟩)), yI, (.pointer (some ⟨B9, 0, none⟩)), yK, (.pointer (some ⟨B11, 0, none⟩)), yM, yN, yO, yP, yQ, yR, yS, yT, yU, yV, yW, yX, yY, yZ, zA, zB, zC, zD, zE, zF, zG, zH, zI, zJ, zK, zL, zM, zN, zO, zP, zQ, zR, zS, zT, zU, zV, zW, zX, zY, zZ, uA, uB, uC, uD, uE, uF, uG, uH, uI, uJ, uK, uL, uM, uN, uO, uP, uQ, uR, uS, uT, uU, uV, uW, uX, uY, uZ, iA, iB, iC, iD, iE, iF, iG, iH, iI, iJ, iK, iL, iM, iN, iO, iP, iQ, iR, iS, iT, iU, iV, iW, iX, iY, iZ, oA, oB, oC, oD, oE, oF, oG, oH, oI, oJ, oK, oL, oM, oN, oO, oP, oQ, oR, oS, oT, oU, oV, oW, oX], defers := [] }) (hi : ∀ k, -1000 ≤ fi k ∧ fi k ≤ 1000) (hk : ∀ k, -1000 ≤ fk k ∧ fk k ≤ 1000) (hj : ∀ k, -1000 ≤ fj k ∧ fj k ≤ 1000) (r70 : w12.cell? ⟨B7, 0, none⟩ = some (.int .i64 (fi 0))) (r71 : w12.cell? ⟨B7, 1, none⟩ = some (.int .i64 (fi 1))) (r72 : w12.cell? ⟨B7, 2, none⟩ = some (.int .i64 (fi 2))) (r90 : w12.cell? ⟨B9, 0, none⟩ = some (.int .i64 (fk 0))) (r91 : w12.cell? ⟨B9, 1, none⟩ = some (.int .i64 (fk 1))) (r92 : w12.cell? ⟨B9, 2, none⟩ = some (.int .i64 (fk 2))) (rB0 : w12.cell? ⟨B11, 0, none⟩ = some (.int .i64 (fj 0))) (rB1 : w12.cell? ⟨B11, 1, none⟩ = some (.int .i64 (fj 1))) (rB2 : w12.cell? ⟨B11, 2, none⟩ = some (.int .i64 (fj 2))) :
 Code.wp Try.prog (rgn Try.f78 13) (fun e a' w' => e = .normal ∧ ∃ (b13 : Nat) (b14 : Nat) (b15 : Nat), a' = ({ tmps := #[yA,yB,yC,yD,yE,yF,yG,(.pointer (some ⟨B7, 0, none⟩)),yI,(.pointer (some ⟨B9, 0, none⟩)),yK,(.pointer (some ⟨B11, 0, none⟩)),yM,.pointer (some ⟨b13, 0, none⟩),.pointer (some ⟨b14, 0, none⟩),.pointer (some ⟨b15, 0, none⟩),yQ,yR,yS,yT,yU,yV,yW,yX,yY,yZ,zA,zB,zC,zD,zE,zF,zG,zH,zI,zJ,zK,zL,zM,zN,zO,zP,zQ,zR,zS,zT,zU,zV,zW,zX,zY,zZ,uA,uB,(.agg #[.int .i64 (fk 0), .int .i64 (fk 1), .int .i64 (fk 2)]),(.agg #[.int .i64 (fj 0), .int .i64 (fj 1), .int .i64 (fj 2)]),(.agg #[.int .i64 (crs fk fj 0), .int .i64 (crs fk fj 1), .int .i64 (crs fk fj 2)]),(.agg #[.int .i64 (fj 0), .int .i64 (fj 1), .int .i64 (fj 2)]),(.agg #[.int .i64 (fi 0), .int .i64 (fi 1), .int .i64 (fi 2)]),(.agg #[.int .i64 (crs fj fi 0), .int .i64 (crs fj fi 1), .int .i64 (crs fj fi 2)]),(.agg #[.int .i64 (fi 0), .int .i64 (fi 1), .int .i64 (fi 2)]),(.agg #[.int .i64 (fk 0), .int .i64 (fk 1), .int .i64 (fk 2)]),(.agg #[.int .i64 (crs fi fk 0), .int .i64 (crs fi fk 1), .int .i64 (crs fi fk 2)]),uL,uM,uN,uO,uP,uQ,uR,uS,uT,uU,uV,uW,uX,uY,uZ,iA,iB,iC,iD,iE,iF,iG,iH,iI,iJ,iK,iL,iM,iN,iO,iP,iQ,iR,iS,iT,iU,iV,iW,iX,iY,iZ,oA,oB,oC,oD,oE,oF,oG,oH,oI,oJ,oK,oL,oM,oN,oO,oP,oQ,oR,oS,oT,oU,oV,oW,oX], defers := [] } : Act) ∧ Ext w12 w' ∧ Arr3 w' b13 (crs fk fj) ∧ w12.heap.size ≤ b13 ∧ Arr3 w' b14 (crs fj fi) ∧ w12.heap.size ≤ b14 ∧ b13 ≠ b14 ∧ Arr3 w' b15 (crs fi fk) ∧ w12.heap.size ≤ b15 ∧ b13 ≠ b15 ∧ b14 ≠ b15) A_ w12 := by
 conv => arg 2; whnf
 refine st_intro (fun Q2 hQ2 => ?_)
 have hA_ := hid hA0_
 clear hA0_
 have hpan : ∀ c a a' w w', Q2 (.panic c) a w → Q2 (.panic c) a' w' := by rw [hQ2]; rintro c a a' w w' ⟨h, _⟩; cases h
 replace hQ2 := hid hQ2
 have hRD_ := hid (fun w' (x_ : Ext w12 w') => And.intro (Ext.cell x_ r70) (And.intro (Ext.cell x_ r71) (And.intro (Ext.cell x_ r72) (And.intro (Ext.cell x_ r90) (And.intro (Ext.cell x_ r91) (And.intro (Ext.cell x_ r92) (And.intro (Ext.cell x_ rB0) (And.intro (Ext.cell x_ rB1) (Ext.cell x_ rB2)))))))))
 refine wp_region_held_drew (S := fun w' => Ext w12 w') (by kernel_rfl) exE fun hHeld => ?_
 try simp only [List.append_eq, List.cons_append, List.nil_append]
 refine name_any (fun W0 hW => ?_)
 have s0 : Ext w12 W0 := by rw [hW]; exact hHeld
 clear hW hHeld
 refine wpF_intro 15 (by kernel_rfl) (fun F hF => ?_)
 replace hF := hid hF
 have N1_0 : ∀ (b13 : Nat) (b14 : Nat) (b15 : Nat) (f_ : Nat) (l_ : Array Bool) (W0 : World) (a_ : Act), f_ = 1 → l_ = #[true, true, true, true, true, true, true, true, true, true, true, true, true, true, false] → a_ = ({ tmps := #[yA,yB,yC,yD,yE,yF,yG,(.pointer (some ⟨B7, 0, none⟩)),yI,(.pointer (some ⟨B9, 0, none⟩)),yK,(.pointer (some ⟨B11, 0, none⟩)),yM,.pointer (some ⟨b13, 0, none⟩),.pointer (some ⟨b14, 0, none⟩),.pointer (some ⟨b15, 0, none⟩),yQ,yR,yS,yT,yU,yV,yW,yX,yY,yZ,zA,zB,zC,zD,zE,zF,zG,zH,zI,zJ,zK,zL,zM,zN,zO,zP,zQ,zR,zS,zT,zU,zV,zW,zX,zY,zZ,uA,uB,(.agg #[.int .i64 (fk 0), .int .i64 (fk 1), .int .i64 (fk 2)]),(.agg #[.int .i64 (fj 0), .int .i64 (fj 1), .int .i64 (fj 2)]),(.agg #[.int .i64 (crs fk fj 0), .int .i64 (crs fk fj 1), .int .i64 (crs fk fj 2)]),(.agg #[.int .i64 (fj 0), .int .i64 (fj 1), .int .i64 (fj 2)]),(.agg #[.int .i64 (fi 0), .int .i64 (fi 1), .int .i64 (fi 2)]),(.agg #[.int .i64 (crs fj fi 0), .int .i64 (crs fj fi 1), .int .i64 (crs fj fi 2)]),(.agg #[.int .i64 (fi 0), .int .i64 (fi 1), .int .i64 (fi 2)]),(.agg #[.int .i64 (fk 0), .int .i64 (fk 1), .int .i64 (fk 2)]),(.agg #[.int .i64 (crs fi fk 0), .int .i64 (crs fi fk 1), .int .i64 (crs fi fk 2)]),uL,uM,uN,uO,uP,uQ,uR,uS,uT,uU,uV,uW,uX,uY,uZ,iA,iB,iC,iD,iE,iF,iG,iH,iI,iJ,iK,iL,iM,iN,iO,iP,iQ,iR,iS,iT,iU,iV,iW,iX,iY,iZ,oA,oB,oC,oD,oE,oF,oG,oH,oI,oJ,oK,oL,oM,oN,oO,oP,oQ,oR,oS,oT,oU,oV,oW,oX], defers := [] } : Act) → Ext w12 W0 → Hid (Arr3 W0 b13 (crs fk fj)) → Hid (w12.heap.size ≤ b13) → Hid (Arr3 W0 b14 (crs fj fi)) → Hid (w12.heap.size ≤ b14) → Hid (b13 ≠ b14) → Hid (Arr3 W0 b15 (fun _ => 0)) → Hid (w12.heap.size ≤ b15) → Hid (b13 ≠ b15) → Hid (b14 ≠ b15) → F f_ l_ a_ W0 := by
  intro b13 b14 b15 f_ l_ W0 a_ hf_ hl_ ha_ s0 b9 z9 b10 z10 n9_10 b11 z11 n9_11 n10_11
  subst hf_ hl_ ha_
  refine (hF.out _ _ _ _).2 ?_
  refine wpAnyH_ready (rs := [14]) (by kernel_rfl) (by simp) ?_
  refine AllReadyH.cons (o := _) rfl (fun K hK => ?_) AllReadyH.nil
  have f0 := b11.out.c 0 (by decide); have g0 := b11.out.f 0 (by decide)
  have f1 := b11.out.c 1 (by decide); have g1 := b11.out.f 1 (by decide)
  have f2 := b11.out.c 2 (by decide); have g2 := b11.out.f 2 (by decide)
  have l9_ := b11.out.l
  have l0_ := s0.size
  have z0_ := z11.out
  go_simp
  refine hK.out _ _ exE (fun _ => ?_)
  clear hK K
  try simp only [sxA, sxB, sxC, Act.put, sxD, sxE, sxF]
  refine name_any (fun W1 hW => ?_)
  have s1 : Ext w12 W1 := by rw [hW]; exact exE
  have nb0 := hid (arr3_put (f := crs fi fk) b11.out hW)
  have ob9 := hid (arr3_oth b9.out n9_11.out hW)
  have ob10 := hid (arr3_oth b10.out n10_11.out hW)
  clear hW
  refine wpAnyH_done (by kernel_rfl) ?_ _
  try simp only [sxA, sxB, sxC, Act.put, sxD, sxE, sxF]
  rw [hQ2.out]
  refine ⟨rfl, b13, b14, b15, ?eq1_1, s1, ob9.out, z9.out, ob10.out, z10.out, n9_10.out, nb0.out, z11.out, n9_11.out, n10_11.out⟩
  case eq1_1 => (first | with_reducible rfl | rfl)
 have N1_1 : ∀ (b13 : Nat) (b14 : Nat) (b15 : Nat) (f_ : Nat) (l_ : Array Bool) (W0 : World) (a_ : Act), f_ = 2 → l_ = #[true, true, true, true, true, true, true, true, true, true, true, true, true, false, false] → a_ = ({ tmps := #[yA,yB,yC,yD,yE,yF,yG,(.pointer (some ⟨B7, 0, none⟩)),yI,(.pointer (some ⟨B9, 0, none⟩)),yK,(.pointer (some ⟨B11, 0, none⟩)),yM,.pointer (some ⟨b13, 0, none⟩),.pointer (some ⟨b14, 0, none⟩),.pointer (some ⟨b15, 0, none⟩),yQ,yR,yS,yT,yU,yV,yW,yX,yY,yZ,zA,zB,zC,zD,zE,zF,zG,zH,zI,zJ,zK,zL,zM,zN,zO,zP,zQ,zR,zS,zT,zU,zV,zW,zX,zY,zZ,uA,uB,(.agg #[.int .i64 (fk 0), .int .i64 (fk 1), .int .i64 (fk 2)]),(.agg #[.int .i64 (fj 0), .int .i64 (fj 1), .int .i64 (fj 2)]),(.agg #[.int .i64 (crs fk fj 0), .int .i64 (crs fk fj 1), .int .i64 (crs fk fj 2)]),(.agg #[.int .i64 (fj 0), .int .i64 (fj 1), .int .i64 (fj 2)]),(.agg #[.int .i64 (fi 0), .int .i64 (fi 1), .int .i64 (fi 2)]),(.agg #[.int .i64 (crs fj fi 0), .int .i64 (crs fj fi 1), .int .i64 (crs fj fi 2)]),(.agg #[.int .i64 (fi 0), .int .i64 (fi 1), .int .i64 (fi 2)]),(.agg #[.int .i64 (fk 0), .int .i64 (fk 1), .int .i64 (fk 2)]),(.agg #[.int .i64 (crs fi fk 0), .int .i64 (crs fi fk 1), .int .i64 (crs fi fk 2)]),uL,uM,uN,uO,uP,uQ,uR,uS,uT,uU,uV,uW,uX,uY,uZ,iA,iB,iC,iD,iE,iF,iG,iH,iI,iJ,iK,iL,iM,iN,iO,iP,iQ,iR,iS,iT,iU,iV,iW,iX,iY,iZ,oA,oB,oC,oD,oE,oF,oG,oH,oI,oJ,oK,oL,oM,oN,oO,oP,oQ,oR,oS,oT,oU,oV,oW,oX], defers := [] } : Act) → Ext w12 W0 → Hid (Arr3 W0 b13 (crs fk fj)) → Hid (w12.heap.size ≤ b13) → Hid (Arr3 W0 b14 (fun _ => 0)) → Hid (w12.heap.size ≤ b14) → Hid (b13 ≠ b14) → Hid (Arr3 W0 b15 (fun _ => 0)) → Hid (w12.heap.size ≤ b15) → Hid (b13 ≠ b15) → Hid (b14 ≠ b15) → F f_ l_ a_ W0 := by
  intro b13 b14 b15 f_ l_ W0 a_ hf_ hl_ ha_ s0 b9 z9 b10 z10 n9_10 b11 z11 n9_11 n10_11
  subst hf_ hl_ ha_
  refine (hF.out _ _ _ _).2 ?_
  refine wpAnyH_ready (rs := [13]) (by kernel_rfl) (by simp) ?_
  refine AllReadyH.cons (o := _) rfl (fun K hK => ?_) AllReadyH.nil
  have f0 := b10.out.c 0 (by decide); have g0 := b10.out.f 0 (by decide)
  have f1 := b10.out.c 1 (by decide); have g1 := b10.out.f 1 (by decide)
  have f2 := b10.out.c 2 (by decide); have g2 := b10.out.f 2 (by decide)
  have l9_ := b10.out.l
  have l0_ := s0.size
  have z0_ := z10.out
  go_simp
  refine hK.out _ _ exE (fun _ => ?_)
  clear hK K
  try simp only [sxA, sxB, sxC, Act.put, sxD, sxE, sxF]
  refine name_any (fun W1 hW => ?_)
  have s1 : Ext w12 W1 := by rw [hW]; exact exE
  have nb0 := hid (arr3_put (f := crs fj fi) b10.out hW)
  have ob9 := hid (arr3_oth b9.out n9_10.out hW)
  have ob11 := hid (arr3_oth b11.out (Ne.symm n10_11.out) hW)
  clear hW
  refine (hF.out _ _ _ _).1 ?_
  exact N1_0 b13 b14 b15 _ _ W1 _ (by first | rfl | kernel_rfl) (by first | rfl | kernel_rfl) (by (try simp only [sxA, sxB, sxC, Act.put, sxD, sxE, sxF]); first | done | with_reducible rfl | rfl) s1 ob9 z9 nb0 z10 n9_10 ob11 z11 n9_11 n10_11
 have N1_2 : ∀ (b13 : Nat) (b14 : Nat) (b15 : Nat) (f_ : Nat) (l_ : Array Bool) (W0 : World) (a_ : Act), f_ = 3 → l_ = #[true, true, true, true, true, true, true, true, true, true, true, true, false, false, false] → a_ = ({ tmps := #[yA,yB,yC,yD,yE,yF,yG,(.pointer (some ⟨B7, 0, none⟩)),yI,(.pointer (some ⟨B9, 0, none⟩)),yK,(.pointer (some ⟨B11, 0, none⟩)),yM,.pointer (some ⟨b13, 0, none⟩),.pointer (some ⟨b14, 0, none⟩),.pointer (some ⟨b15, 0, none⟩),yQ,yR,yS,yT,yU,yV,yW,yX,yY,yZ,zA,zB,zC,zD,zE,zF,zG,zH,zI,zJ,zK,zL,zM,zN,zO,zP,zQ,zR,zS,zT,zU,zV,zW,zX,zY,zZ,uA,uB,(.agg #[.int .i64 (fk 0), .int .i64 (fk 1), .int .i64 (fk 2)]),(.agg #[.int .i64 (fj 0), .int .i64 (fj 1), .int .i64 (fj 2)]),(.agg #[.int .i64 (crs fk fj 0), .int .i64 (crs fk fj 1), .int .i64 (crs fk fj 2)]),(.agg #[.int .i64 (fj 0), .int .i64 (fj 1), .int .i64 (fj 2)]),(.agg #[.int .i64 (fi 0), .int .i64 (fi 1), .int .i64 (fi 2)]),(.agg #[.int .i64 (crs fj fi 0), .int .i64 (crs fj fi 1), .int .i64 (crs fj fi 2)]),(.agg #[.int .i64 (fi 0), .int .i64 (fi 1), .int .i64 (fi 2)]),(.agg #[.int .i64 (fk 0), .int .i64 (fk 1), .int .i64 (fk 2)]),(.agg #[.int .i64 (crs fi fk 0), .int .i64 (crs fi fk 1), .int .i64 (crs fi fk 2)]),uL,uM,uN,uO,uP,uQ,uR,uS,uT,uU,uV,uW,uX,uY,uZ,iA,iB,iC,iD,iE,iF,iG,iH,iI,iJ,iK,iL,iM,iN,iO,iP,iQ,iR,iS,iT,iU,iV,iW,iX,iY,iZ,oA,oB,oC,oD,oE,oF,oG,oH,oI,oJ,oK,oL,oM,oN,oO,oP,oQ,oR,oS,oT,oU,oV,oW,oX], defers := [] } : Act) → Ext w12 W0 → Hid (Arr3 W0 b13 (fun _ => 0)) → Hid (w12.heap.size ≤ b13) → Hid (Arr3 W0 b14 (fun _ => 0)) → Hid (w12.heap.size ≤ b14) → Hid (b13 ≠ b14) → Hid (Arr3 W0 b15 (fun _ => 0)) → Hid (w12.heap.size ≤ b15) → Hid (b13 ≠ b15) → Hid (b14 ≠ b15) → F f_ l_ a_ W0 := by
  intro b13 b14 b15 f_ l_ W0 a_ hf_ hl_ ha_ s0 b9 z9 b10 z10 n9_10 b11 z11 n9_11 n10_11
  subst hf_ hl_ ha_
  refine (hF.out _ _ _ _).2 ?_
  clear N1_0
  refine wpAnyH_ready (rs := [12]) (by kernel_rfl) (by simp) ?_
  refine AllReadyH.cons (o := _) rfl (fun K hK => ?_) AllReadyH.nil
  have f0 := b9.out.c 0 (by decide); have g0 := b9.out.f 0 (by decide)
  have f1 := b9.out.c 1 (by decide); have g1 := b9.out.f 1 (by decide)
  have f2 := b9.out.c 2 (by decide); have g2 := b9.out.f 2 (by decide)
  have l9_ := b9.out.l
  have l0_ := s0.size
  have z0_ := z9.out
  go_simp
  refine hK.out _ _ exE (fun _ => ?_)
  clear hK K
  try simp only [sxA, sxB, sxC, Act.put, sxD, sxE, sxF]
  refine name_any (fun W1 hW => ?_)
  have s1 : Ext w12 W1 := by rw [hW]; exact exE
  have nb0 := hid (arr3_put (f := crs fk fj) b9.out hW)
  have ob10 := hid (arr3_oth b10.out (Ne.symm n9_10.out) hW)
  have ob11 := hid (arr3_oth b11.out (Ne.symm n9_11.out) hW)
  clear hW
  refine (hF.out _ _ _ _).1 ?_
  exact N1_1 b13 b14 b15 _ _ W1 _ (by first | rfl | kernel_rfl) (by first | rfl | kernel_rfl) (by (try simp only [sxA, sxB, sxC, Act.put, sxD, sxE, sxF]); first | done | with_reducible rfl | rfl) s1 nb0 z9 ob10 z10 n9_10 ob11 z11 n9_11 n10_11
 have N1_3 : ∀ (b13 : Nat) (b14 : Nat) (f_ : Nat) (l_ : Array Bool) (W0 : World) (a_ : Act), f_ = 4 → l_ = #[true, true, true, true, true, true, true, true, true, true, true, false, false, false, false] → a_ = ({ tmps := #[yA,yB,yC,yD,yE,yF,yG,(.pointer (some ⟨B7, 0, none⟩)),yI,(.pointer (some ⟨B9, 0, none⟩)),yK,(.pointer (some ⟨B11, 0, none⟩)),yM,.pointer (some ⟨b13, 0, none⟩),.pointer (some ⟨b14, 0, none⟩),yP,yQ,yR,yS,yT,yU,yV,yW,yX,yY,yZ,zA,zB,zC,zD,zE,zF,zG,zH,zI,zJ,zK,zL,zM,zN,zO,zP,zQ,zR,zS,zT,zU,zV,zW,zX,zY,zZ,uA,uB,(.agg #[.int .i64 (fk 0), .int .i64 (fk 1), .int .i64 (fk 2)]),(.agg #[.int .i64 (fj 0), .int .i64 (fj 1), .int .i64 (fj 2)]),(.agg #[.int .i64 (crs fk fj 0), .int .i64 (crs fk fj 1), .int .i64 (crs fk fj 2)]),(.agg #[.int .i64 (fj 0), .int .i64 (fj 1), .int .i64 (fj 2)]),(.agg #[.int .i64 (fi 0), .int .i64 (fi 1), .int .i64 (fi 2)]),(.agg #[.int .i64 (crs fj fi 0), .int .i64 (crs fj fi 1), .int .i64 (crs fj fi 2)]),(.agg #[.int .i64 (fi 0), .int .i64 (fi 1), .int .i64 (fi 2)]),(.agg #[.int .i64 (fk 0), .int .i64 (fk 1), .int .i64 (fk 2)]),(.agg #[.int .i64 (crs fi fk 0), .int .i64 (crs fi fk 1), .int .i64 (crs fi fk 2)]),uL,uM,uN,uO,uP,uQ,uR,uS,uT,uU,uV,uW,uX,uY,uZ,iA,iB,iC,iD,iE,iF,iG,iH,iI,iJ,iK,iL,iM,iN,iO,iP,iQ,iR,iS,iT,iU,iV,iW,iX,iY,iZ,oA,oB,oC,oD,oE,oF,oG,oH,oI,oJ,oK,oL,oM,oN,oO,oP,oQ,oR,oS,oT,oU,oV,oW,oX], defers := [] } : Act) → Ext w12 W0 → Hid (Arr3 W0 b13 (fun _ => 0)) → Hid (w12.heap.size ≤ b13) → Hid (Arr3 W0 b14 (fun _ => 0)) → Hid (w12.heap.size ≤ b14) → Hid (b13 ≠ b14) → F f_ l_ a_ W0 := by
  intro b13 b14 f_ l_ W0 a_ hf_ hl_ ha_ s0 b9 z9 b10 z10 n9_10
  subst hf_ hl_ ha_
  refine (hF.out _ _ _ _).2 ?_
  clear N1_0 N1_1
  refine wpAnyH_ready (rs := [11]) (by kernel_rfl) (by simp) ?_
  refine AllReadyH.cons (o := _) rfl (fun K hK => ?_) AllReadyH.nil
  go_simp
  refine hK.out _ _ (Ext.alloc s0 _) (fun _ => ?_)
  clear hK K
  try simp only [sxA, sxB, sxC, Act.put, sxD, sxE, sxF]
  refine name_any (fun W1 hW => ?_)
  have e1 : Ext W0 W1 := by rw [hW]; exact Ext.alloc (Ext.refl _) _
  have s1 := s0.trans e1
  have nb0 := hid (arr3_new hW)
  clear hW
  refine (hF.out _ _ _ _).1 ?_
  exact N1_2 b13 b14 W0.heap.size _ _ W1 _ (by first | rfl | kernel_rfl) (by first | rfl | kernel_rfl) (by (try simp only [sxA, sxB, sxC, Act.put, sxD, sxE, sxF]); first | done | with_reducible rfl | rfl) s1 (hid (b9.out.ext e1)) z9 (hid (b10.out.ext e1)) z10 n9_10 nb0 (hid s0.size) (hid (Nat.ne_of_lt b9.out.l)) (hid (Nat.ne_of_lt b10.out.l))
 have N1_4 : ∀ (b13 : Nat) (b15 : Nat) (f_ : Nat) (l_ : Array Bool) (W0 : World) (a_ : Act), f_ = 4 → l_ = #[true, true, true, true, true, true, true, true, true, true, false, true, false, false, false] → a_ = ({ tmps := #[yA,yB,yC,yD,yE,yF,yG,(.pointer (some ⟨B7, 0, none⟩)),yI,(.pointer (some ⟨B9, 0, none⟩)),yK,(.pointer (some ⟨B11, 0, none⟩)),yM,.pointer (some ⟨b13, 0, none⟩),yO,.pointer (some ⟨b15, 0, none⟩),yQ,yR,yS,yT,yU,yV,yW,yX,yY,yZ,zA,zB,zC,zD,zE,zF,zG,zH,zI,zJ,zK,zL,zM,zN,zO,zP,zQ,zR,zS,zT,zU,zV,zW,zX,zY,zZ,uA,uB,(.agg #[.int .i64 (fk 0), .int .i64 (fk 1), .int .i64 (fk 2)]),(.agg #[.int .i64 (fj 0), .int .i64 (fj 1), .int .i64 (fj 2)]),(.agg #[.int .i64 (crs fk fj 0), .int .i64 (crs fk fj 1), .int .i64 (crs fk fj 2)]),(.agg #[.int .i64 (fj 0), .int .i64 (fj 1), .int .i64 (fj 2)]),(.agg #[.int .i64 (fi 0), .int .i64 (fi 1), .int .i64 (fi 2)]),(.agg #[.int .i64 (crs fj fi 0), .int .i64 (crs fj fi 1), .int .i64 (crs fj fi 2)]),(.agg #[.int .i64 (fi 0), .int .i64 (fi 1), .int .i64 (fi 2)]),(.agg #[.int .i64 (fk 0), .int .i64 (fk 1), .int .i64 (fk 2)]),(.agg #[.int .i64 (crs fi fk 0), .int .i64 (crs fi fk 1), .int .i64 (crs fi fk 2)]),uL,uM,uN,uO,uP,uQ,uR,uS,uT,uU,uV,uW,uX,uY,uZ,iA,iB,iC,iD,iE,iF,iG,iH,iI,iJ,iK,iL,iM,iN,iO,iP,iQ,iR,iS,iT,iU,iV,iW,iX,iY,iZ,oA,oB,oC,oD,oE,oF,oG,oH,oI,oJ,oK,oL,oM,oN,oO,oP,oQ,oR,oS,oT,oU,oV,oW,oX], defers := [] } : Act) → Ext w12 W0 → Hid (Arr3 W0 b13 (fun _ => 0)) → Hid (w12.heap.size ≤ b13) → Hid (Arr3 W0 b15 (fun _ => 0)) → Hid (w12.heap.size ≤ b15) → Hid (b13 ≠ b15) → F f_ l_ a_ W0 := by
  intro b13 b15 f_ l_ W0 a_ hf_ hl_ ha_ s0 b9 z9 b11 z11 n9_11
  subst hf_ hl_ ha_
  refine (hF.out _ _ _ _).2 ?_
  clear N1_0 N1_1 N1_3
  refine wpAnyH_ready (rs := [10]) (by kernel_rfl) (by simp) ?_
  refine AllReadyH.cons (o := _) rfl (fun K hK => ?_) AllReadyH.nil
  go_simp
  refine hK.out _ _ (Ext.alloc s0 _) (fun _ => ?_)
  clear hK K
  try simp only [sxA, sxB, sxC, Act.put, sxD, sxE, sxF]
  refine name_any (fun W1 hW => ?_)
  have e1 : Ext W0 W1 := by rw [hW]; exact Ext.alloc (Ext.refl _) _
  have s1 := s0.trans e1
  have nb0 := hid (arr3_new hW)
  clear hW
  refine (hF.out _ _ _ _).1 ?_
  exact N1_2 b13 W0.heap.size b15 _ _ W1 _ (by first | rfl | kernel_rfl) (by first | rfl | kernel_rfl) (by (try simp only [sxA, sxB, sxC, Act.put, sxD, sxE, sxF]); first | done | with_reducible rfl | rfl) s1 (hid (b9.out.ext e1)) z9 nb0 (hid s0.size) (hid (Nat.ne_of_lt b9.out.l)) (hid (b11.out.ext e1)) z11 n9_11 (hid (Nat.ne_of_gt b11.out.l))
 have N1_5 : ∀ (b14 : Nat) (b15 : Nat) (f_ : Nat) (l_ : Array Bool) (W0 : World) (a_ : Act), f_ = 4 → l_ = #[true, true, true, true, true, true, true, true, true, false, true, true, false, false, false] → a_ = ({ tmps := #[yA,yB,yC,yD,yE,yF,yG,(.pointer (some ⟨B7, 0, none⟩)),yI,(.pointer (some ⟨B9, 0, none⟩)),yK,(.pointer (some ⟨B11, 0, none⟩)),yM,yN,.pointer (some ⟨b14, 0, none⟩),.pointer (some ⟨b15, 0, none⟩),yQ,yR,yS,yT,yU,yV,yW,yX,yY,yZ,zA,zB,zC,zD,zE,zF,zG,zH,zI,zJ,zK,zL,zM,zN,zO,zP,zQ,zR,zS,zT,zU,zV,zW,zX,zY,zZ,uA,uB,(.agg #[.int .i64 (fk 0), .int .i64 (fk 1), .int .i64 (fk 2)]),(.agg #[.int .i64 (fj 0), .int .i64 (fj 1), .int .i64 (fj 2)]),(.agg #[.int .i64 (crs fk fj 0), .int .i64 (crs fk fj 1), .int .i64 (crs fk fj 2)]),(.agg #[.int .i64 (fj 0), .int .i64 (fj 1), .int .i64 (fj 2)]),(.agg #[.int .i64 (fi 0), .int .i64 (fi 1), .int .i64 (fi 2)]),(.agg #[.int .i64 (crs fj fi 0), .int .i64 (crs fj fi 1), .int .i64 (crs fj fi 2)]),(.agg #[.int .i64 (fi 0), .int .i64 (fi 1), .int .i64 (fi 2)]),(.agg #[.int .i64 (fk 0), .int .i64 (fk 1), .int .i64 (fk 2)]),(.agg #[.int .i64 (crs fi fk 0), .int .i64 (crs fi fk 1), .int .i64 (crs fi fk 2)]),uL,uM,uN,uO,uP,uQ,uR,uS,uT,uU,uV,uW,uX,uY,uZ,iA,iB,iC,iD,iE,iF,iG,iH,iI,iJ,iK,iL,iM,iN,iO,iP,iQ,iR,iS,iT,iU,iV,iW,iX,iY,iZ,oA,oB,oC,oD,oE,oF,oG,oH,oI,oJ,oK,oL,oM,oN,oO,oP,oQ,oR,oS,oT,oU,oV,oW,oX], defers := [] } : Act) → Ext w12 W0 → Hid (Arr3 W0 b14 (fun _ => 0)) → Hid (w12.heap.size ≤ b14) → Hid (Arr3 W0 b15 (fun _ => 0)) → Hid (w12.heap.size ≤ b15) → Hid (b14 ≠ b15) → F f_ l_ a_ W0 := by
  intro b14 b15 f_ l_ W0 a_ hf_ hl_ ha_ s0 b10 z10 b11 z11 n10_11
  subst hf_ hl_ ha_
  refine (hF.out _ _ _ _).2 ?_
  clear N1_0 N1_1 N1_3 N1_4
  refine wpAnyH_ready (rs := [9]) (by kernel_rfl) (by simp) ?_
  refine AllReadyH.cons (o := _) rfl (fun K hK => ?_) AllReadyH.nil
  go_simp
  refine hK.out _ _ (Ext.alloc s0 _) (fun _ => ?_)
  clear hK K
  try simp only [sxA, sxB, sxC, Act.put, sxD, sxE, sxF]
  refine name_any (fun W1 hW => ?_)
  have e1 : Ext W0 W1 := by rw [hW]; exact Ext.alloc (Ext.refl _) _
  have s1 := s0.trans e1
  have nb0 := hid (arr3_new hW)
  clear hW
  refine (hF.out _ _ _ _).1 ?_
  exact N1_2 W0.heap.size b14 b15 _ _ W1 _ (by first | rfl | kernel_rfl) (by first | rfl | kernel_rfl) (by (try simp only [sxA, sxB, sxC, Act.put, sxD, sxE, sxF]); first | done | with_reducible rfl | rfl) s1 nb0 (hid s0.size) (hid (b10.out.ext e1)) z10 (hid (Nat.ne_of_gt b10.out.l)) (hid (b11.out.ext e1)) z11 (hid (Nat.ne_of_gt b11.out.l)) n10_11
 have N1_6 : ∀ (b13 : Nat) (b14 : Nat) (b15 : Nat) (f_ : Nat) (l_ : Array Bool) (W0 : World) (a_ : Act), f_ = 4 → l_ = #[true, true, true, true, true, true, true, true, false, true, true, true, false, false, false] → a_ = ({ tmps := #[yA,yB,yC,yD,yE,yF,yG,(.pointer (some ⟨B7, 0, none⟩)),yI,(.pointer (some ⟨B9, 0, none⟩)),yK,(.pointer (some ⟨B11, 0, none⟩)),yM,.pointer (some ⟨b13, 0, none⟩),.pointer (some ⟨b14, 0, none⟩),.pointer (some ⟨b15, 0, none⟩),yQ,yR,yS,yT,yU,yV,yW,yX,yY,yZ,zA,zB,zC,zD,zE,zF,zG,zH,zI,zJ,zK,zL,zM,zN,zO,zP,zQ,zR,zS,zT,zU,zV,zW,zX,zY,zZ,uA,uB,(.agg #[.int .i64 (fk 0), .int .i64 (fk 1), .int .i64 (fk 2)]),(.agg #[.int .i64 (fj 0), .int .i64 (fj 1), .int .i64 (fj 2)]),(.agg #[.int .i64 (crs fk fj 0), .int .i64 (crs fk fj 1), .int .i64 (crs fk fj 2)]),(.agg #[.int .i64 (fj 0), .int .i64 (fj 1), .int .i64 (fj 2)]),(.agg #[.int .i64 (fi 0), .int .i64 (fi 1), .int .i64 (fi 2)]),(.agg #[.int .i64 (crs fj fi 0), .int .i64 (crs fj fi 1), .int .i64 (crs fj fi 2)]),(.agg #[.int .i64 (fi 0), .int .i64 (fi 1), .int .i64 (fi 2)]),(.agg #[.int .i64 (fk 0), .int .i64 (fk 1), .int .i64 (fk 2)]),uK,uL,uM,uN,uO,uP,uQ,uR,uS,uT,uU,uV,uW,uX,uY,uZ,iA,iB,iC,iD,iE,iF,iG,iH,iI,iJ,iK,iL,iM,iN,iO,iP,iQ,iR,iS,iT,iU,iV,iW,iX,iY,iZ,oA,oB,oC,oD,oE,oF,oG,oH,oI,oJ,oK,oL,oM,oN,oO,oP,oQ,oR,oS,oT,oU,oV,oW,oX], defers := [] } : Act) → Ext w12 W0 → Hid (Arr3 W0 b13 (fun _ => 0)) → Hid (w12.heap.size ≤ b13) → Hid (Arr3 W0 b14 (fun _ => 0)) → Hid (w12.heap.size ≤ b14) → Hid (b13 ≠ b14) → Hid (Arr3 W0 b15 (fun _ => 0)) → Hid (w12.heap.size ≤ b15) → Hid (b13 ≠ b15) → Hid (b14 ≠ b15) → F f_ l_ a_ W0 := by
  intro b13 b14 b15 f_ l_ W0 a_ hf_ hl_ ha_ s0 b9 z9 b10 z10 n9_10 b11 z11 n9_11 n10_11
  subst hf_ hl_ ha_
  refine (hF.out _ _ _ _).2 ?_
  clear N1_0 N1_1 N1_3 N1_4 N1_5
  refine wpAnyH_ready (rs := [8]) (by kernel_rfl) (by simp) ?_
  refine AllReadyH.cons (o := _) rfl (fun K hK => ?_) AllReadyH.nil
  refine tk_call (by kernel_rfl) (cross_any fi fk hi hk _) (by kernel_rfl) ?_; rintro e W1 ⟨rfl, e1⟩; refine ⟨_, rfl, ?_⟩
  have s1 := s0.trans e1
  refine hK.out _ _ s1 (fun _ => ?_)
  clear hK K
  try simp only [sxA, sxB, sxC, Act.put, sxD, sxE, sxF]
  refine (hF.out _ _ _ _).1 ?_
  exact N1_2 b13 b14 b15 _ _ W1 _ (by first | rfl | kernel_rfl) (by first | rfl | kernel_rfl) (by (try simp only [sxA, sxB, sxC, Act.put, sxD, sxE, sxF]); first | done | with_reducible rfl | rfl) s1 (hid (b9.out.ext e1)) z9 (hid (b10.out.ext e1)) z10 n9_10 (hid (b11.out.ext e1)) z11 n9_11 n10_11
 have N1_7 : ∀ (b13 : Nat) (f_ : Nat) (l_ : Array Bool) (W0 : World) (a_ : Act), f_ = 5 → l_ = #[true, true, true, true, true, true, true, true, true, true, false, false, false, false, false] → a_ = ({ tmps := #[yA,yB,yC,yD,yE,yF,yG,(.pointer (some ⟨B7, 0, none⟩)),yI,(.pointer (some ⟨B9, 0, none⟩)),yK,(.pointer (some ⟨B11, 0, none⟩)),yM,.pointer (some ⟨b13, 0, none⟩),yO,yP,yQ,yR,yS,yT,yU,yV,yW,yX,yY,yZ,zA,zB,zC,zD,zE,zF,zG,zH,zI,zJ,zK,zL,zM,zN,zO,zP,zQ,zR,zS,zT,zU,zV,zW,zX,zY,zZ,uA,uB,(.agg #[.int .i64 (fk 0), .int .i64 (fk 1), .int .i64 (fk 2)]),(.agg #[.int .i64 (fj 0), .int .i64 (fj 1), .int .i64 (fj 2)]),(.agg #[.int .i64 (crs fk fj 0), .int .i64 (crs fk fj 1), .int .i64 (crs fk fj 2)]),(.agg #[.int .i64 (fj 0), .int .i64 (fj 1), .int .i64 (fj 2)]),(.agg #[.int .i64 (fi 0), .int .i64 (fi 1), .int .i64 (fi 2)]),(.agg #[.int .i64 (crs fj fi 0), .int .i64 (crs fj fi 1), .int .i64 (crs fj fi 2)]),(.agg #[.int .i64 (fi 0), .int .i64 (fi 1), .int .i64 (fi 2)]),(.agg #[.int .i64 (fk 0), .int .i64 (fk 1), .int .i64 (fk 2)]),(.agg #[.int .i64 (crs fi fk 0), .int .i64 (crs fi fk 1), .int .i64 (crs fi fk 2)]),uL,uM,uN,uO,uP,uQ,uR,uS,uT,uU,uV,uW,uX,uY,uZ,iA,iB,iC,iD,iE,iF,iG,iH,iI,iJ,iK,iL,iM,iN,iO,iP,iQ,iR,iS,iT,iU,iV,iW,iX,iY,iZ,oA,oB,oC,oD,oE,oF,oG,oH,oI,oJ,oK,oL,oM,oN,oO,oP,oQ,oR,oS,oT,oU,oV,oW,oX], defers := [] } : Act) → Ext w12 W0 → Hid (Arr3 W0 b13 (fun _ => 0)) → Hid (w12.heap.size ≤ b13) → F f_ l_ a_ W0 := by
  intro b13 f_ l_ W0 a_ hf_ hl_ ha_ s0 b9 z9
  subst hf_ hl_ ha_
  refine (hF.out _ _ _ _).2 ?_
  clear N1_0 N1_1 N1_2 N1_5 N1_6
  refine wpAnyH_ready (rs := [10, 11]) (by kernel_rfl) (by simp) ?_
  refine AllReadyH.cons (o := _) rfl (fun K hK => ?_) ?_
  ·skip
   go_simp
   refine hK.out _ _ (Ext.alloc s0 _) (fun _ => ?_)
   clear hK K
   try simp only [sxA, sxB, sxC, Act.put, sxD, sxE, sxF]
   refine name_any (fun W1 hW => ?_)
   have e1 : Ext W0 W1 := by rw [hW]; exact Ext.alloc (Ext.refl _) _
   have s1 := s0.trans e1
   have nb0 := hid (arr3_new hW)
   clear hW
   refine (hF.out _ _ _ _).1 ?_
   exact N1_3 b13 W0.heap.size _ _ W1 _ (by first | rfl | kernel_rfl) (by first | rfl | kernel_rfl) (by (try simp only [sxA, sxB, sxC, Act.put, sxD, sxE, sxF]); first | done | with_reducible rfl | rfl) s1 (hid (b9.out.ext e1)) z9 nb0 (hid s0.size) (hid (Nat.ne_of_lt b9.out.l))
  refine AllReadyH.cons (o := _) rfl (fun K hK => ?_) ?_
  ·skip
   go_simp
   refine hK.out _ _ (Ext.alloc s0 _) (fun _ => ?_)
   clear hK K
   try simp only [sxA, sxB, sxC, Act.put, sxD, sxE, sxF]
   refine name_any (fun W1 hW => ?_)
   have e1 : Ext W0 W1 := by rw [hW]; exact Ext.alloc (Ext.refl _) _
   have s1 := s0.trans e1
   have nb0 := hid (arr3_new hW)
   clear hW
   refine (hF.out _ _ _ _).1 ?_
   exact N1_4 b13 W0.heap.size _ _ W1 _ (by first | rfl | kernel_rfl) (by first | rfl | kernel_rfl) (by (try simp only [sxA, sxB, sxC, Act.put, sxD, sxE, sxF]); first | done | with_reducible rfl | rfl) s1 (hid (b9.out.ext e1)) z9 nb0 (hid s0.size) (hid (Nat.ne_of_lt b9.out.l))
  exact AllReadyH.nil
 have N1_8 : ∀ (b14 : Nat) (f_ : Nat) (l_ : Array Bool) (W0 : World) (a_ : Act), f_ = 5 → l_ = #[true, true, true, true, true, true, true, true, true, false, true, false, false, false, false] → a_ = ({ tmps := #[yA,yB,yC,yD,yE,yF,yG,(.pointer (some ⟨B7, 0, none⟩)),yI,(.pointer (some ⟨B9, 0, none⟩)),yK,(.pointer (some ⟨B11, 0, none⟩)),yM,yN,.pointer (some ⟨b14, 0, none⟩),yP,yQ,yR,yS,yT,yU,yV,yW,yX,yY,yZ,zA,zB,zC,zD,zE,zF,zG,zH,zI,zJ,zK,zL,zM,zN,zO,zP,zQ,zR,zS,zT,zU,zV,zW,zX,zY,zZ,uA,uB,(.agg #[.int .i64 (fk 0), .int .i64 (fk 1), .int .i64 (fk 2)]),(.agg #[.int .i64 (fj 0), .int .i64 (fj 1), .int .i64 (fj 2)]),(.agg #[.int .i64 (crs fk fj 0), .int .i64 (crs fk fj 1), .int .i64 (crs fk fj 2)]),(.agg #[.int .i64 (fj 0), .int .i64 (fj 1), .int .i64 (fj 2)]),(.agg #[.int .i64 (fi 0), .int .i64 (fi 1), .int .i64 (fi 2)]),(.agg #[.int .i64 (crs fj fi 0), .int .i64 (crs fj fi 1), .int .i64 (crs fj fi 2)]),(.agg #[.int .i64 (fi 0), .int .i64 (fi 1), .int .i64 (fi 2)]),(.agg #[.int .i64 (fk 0), .int .i64 (fk 1), .int .i64 (fk 2)]),(.agg #[.int .i64 (crs fi fk 0), .int .i64 (crs fi fk 1), .int .i64 (crs fi fk 2)]),uL,uM,uN,uO,uP,uQ,uR,uS,uT,uU,uV,uW,uX,uY,uZ,iA,iB,iC,iD,iE,iF,iG,iH,iI,iJ,iK,iL,iM,iN,iO,iP,iQ,iR,iS,iT,iU,iV,iW,iX,iY,iZ,oA,oB,oC,oD,oE,oF,oG,oH,oI,oJ,oK,oL,oM,oN,oO,oP,oQ,oR,oS,oT,oU,oV,oW,oX], defers := [] } : Act) → Ext w12 W0 → Hid (Arr3 W0 b14 (fun _ => 0)) → Hid (w12.heap.size ≤ b14) → F f_ l_ a_ W0 := by
  intro b14 f_ l_ W0 a_ hf_ hl_ ha_ s0 b10 z10
  subst hf_ hl_ ha_
  refine (hF.out _ _ _ _).2 ?_
  clear N1_0 N1_1 N1_2 N1_4 N1_6 N1_7
  refine wpAnyH_ready (rs := [9, 11]) (by kernel_rfl) (by simp) ?_
  refine AllReadyH.cons (o := _) rfl (fun K hK => ?_) ?_
  ·skip
   go_simp
   refine hK.out _ _ (Ext.alloc s0 _) (fun _ => ?_)
   clear hK K
   try simp only [sxA, sxB, sxC, Act.put, sxD, sxE, sxF]
   refine name_any (fun W1 hW => ?_)
   have e1 : Ext W0 W1 := by rw [hW]; exact Ext.alloc (Ext.refl _) _
   have s1 := s0.trans e1
   have nb0 := hid (arr3_new hW)
   clear hW
   refine (hF.out _ _ _ _).1 ?_
   exact N1_3 W0.heap.size b14 _ _ W1 _ (by first | rfl | kernel_rfl) (by first | rfl | kernel_rfl) (by (try simp only [sxA, sxB, sxC, Act.put, sxD, sxE, sxF]); first | done | with_reducible rfl | rfl) s1 nb0 (hid s0.size) (hid (b10.out.ext e1)) z10 (hid (Nat.ne_of_gt b10.out.l))
  refine AllReadyH.cons (o := _) rfl (fun K hK => ?_) ?_
  ·skip
   go_simp
   refine hK.out _ _ (Ext.alloc s0 _) (fun _ => ?_)
   clear hK K
   try simp only [sxA, sxB, sxC, Act.put, sxD, sxE, sxF]
   refine name_any (fun W1 hW => ?_)
   have e1 : Ext W0 W1 := by rw [hW]; exact Ext.alloc (Ext.refl _) _
   have s1 := s0.trans e1
   have nb0 := hid (arr3_new hW)
   clear hW
   refine (hF.out _ _ _ _).1 ?_
   exact N1_5 b14 W0.heap.size _ _ W1 _ (by first | rfl | kernel_rfl) (by first | rfl | kernel_rfl) (by (try simp only [sxA, sxB, sxC, Act.put, sxD, sxE, sxF]); first | done | with_reducible rfl | rfl) s1 (hid (b10.out.ext e1)) z10 nb0 (hid s0.size) (hid (Nat.ne_of_lt b10.out.l))
  exact AllReadyH.nil
 have N1_9 : ∀ (b15 : Nat) (f_ : Nat) (l_ : Array Bool) (W0 : World) (a_ : Act), f_ = 5 → l_ = #[true, true, true, true, true, true, true, true, true, false, false, true, false, false, false] → a_ = ({ tmps := #[yA,yB,yC,yD,yE,yF,yG,(.pointer (some ⟨B7, 0, none⟩)),yI,(.pointer (some ⟨B9, 0, none⟩)),yK,(.pointer (some ⟨B11, 0, none⟩)),yM,yN,yO,.pointer (some ⟨b15, 0, none⟩),yQ,yR,yS,yT,yU,yV,yW,yX,yY,yZ,zA,zB,zC,zD,zE,zF,zG,zH,zI,zJ,zK,zL,zM,zN,zO,zP,zQ,zR,zS,zT,zU,zV,zW,zX,zY,zZ,uA,uB,(.agg #[.int .i64 (fk 0), .int .i64 (fk 1), .int .i64 (fk 2)]),(.agg #[.int .i64 (fj 0), .int .i64 (fj 1), .int .i64 (fj 2)]),(.agg #[.int .i64 (crs fk fj 0), .int .i64 (crs fk fj 1), .int .i64 (crs fk fj 2)]),(.agg #[.int .i64 (fj 0), .int .i64 (fj 1), .int .i64 (fj 2)]),(.agg #[.int .i64 (fi 0), .int .i64 (fi 1), .int .i64 (fi 2)]),(.agg #[.int .i64 (crs fj fi 0), .int .i64 (crs fj fi 1), .int .i64 (crs fj fi 2)]),(.agg #[.int .i64 (fi 0), .int .i64 (fi 1), .int .i64 (fi 2)]),(.agg #[.int .i64 (fk 0), .int .i64 (fk 1), .int .i64 (fk 2)]),(.agg #[.int .i64 (crs fi fk 0), .int .i64 (crs fi fk 1), .int .i64 (crs fi fk 2)]),uL,uM,uN,uO,uP,uQ,uR,uS,uT,uU,uV,uW,uX,uY,uZ,iA,iB,iC,iD,iE,iF,iG,iH,iI,iJ,iK,iL,iM,iN,iO,iP,iQ,iR,iS,iT,iU,iV,iW,iX,iY,iZ,oA,oB,oC,oD,oE,oF,oG,oH,oI,oJ,oK,oL,oM,oN,oO,oP,oQ,oR,oS,oT,oU,oV,oW,oX], defers := [] } : Act) → Ext w12 W0 → Hid (Arr3 W0 b15 (fun _ => 0)) → Hid (w12.heap.size ≤ b15) → F f_ l_ a_ W0 := by
  intro b15 f_ l_ W0 a_ hf_ hl_ ha_ s0 b11 z11
  subst hf_ hl_ ha_
  refine (hF.out _ _ _ _).2 ?_
  clear N1_0 N1_1 N1_2 N1_3 N1_6 N1_7 N1_8
  refine wpAnyH_ready (rs := [9, 10]) (by kernel_rfl) (by simp) ?_
  refine AllReadyH.cons (o := _) rfl (fun K hK => ?_) ?_
  ·skip
   go_simp
   refine hK.out _ _ (Ext.alloc s0 _) (fun _ => ?_)
   clear hK K
   try simp only [sxA, sxB, sxC, Act.put, sxD, sxE, sxF]
   refine name_any (fun W1 hW => ?_)
   have e1 : Ext W0 W1 := by rw [hW]; exact Ext.alloc (Ext.refl _) _
   have s1 := s0.trans e1
   have nb0 := hid (arr3_new hW)
   clear hW
   refine (hF.out _ _ _ _).1 ?_
   exact N1_4 W0.heap.size b15 _ _ W1 _ (by first | rfl | kernel_rfl) (by first | rfl | kernel_rfl) (by (try simp only [sxA, sxB, sxC, Act.put, sxD, sxE, sxF]); first | done | with_reducible rfl | rfl) s1 nb0 (hid s0.size) (hid (b11.out.ext e1)) z11 (hid (Nat.ne_of_gt b11.out.l))
  refine AllReadyH.cons (o := _) rfl (fun K hK => ?_) ?_
  ·skip
   go_simp
   refine hK.out _ _ (Ext.alloc s0 _) (fun _ => ?_)
   clear hK K
   try simp only [sxA, sxB, sxC, Act.put, sxD, sxE, sxF]
   refine name_any (fun W1 hW => ?_)
   have e1 : Ext W0 W1 := by rw [hW]; exact Ext.alloc (Ext.refl _) _
   have s1 := s0.trans e1
   have nb0 := hid (arr3_new hW)
   clear hW
   refine (hF.out _ _ _ _).1 ?_
   exact N1_5 W0.heap.size b15 _ _ W1 _ (by first | rfl | kernel_rfl) (by first | rfl | kernel_rfl) (by (try simp only [sxA, sxB, sxC, Act.put, sxD, sxE, sxF]); first | done | with_reducible rfl | rfl) s1 nb0 (hid s0.size) (hid (b11.out.ext e1)) z11 (hid (Nat.ne_of_gt b11.out.l))
  exact AllReadyH.nil
 have N1_10 : ∀ (b13 : Nat) (b14 : Nat) (f_ : Nat) (l_ : Array Bool) (W0 : World) (a_ : Act), f_ = 5 → l_ = #[true, true, true, true, true, true, true, true, false, true, true, false, false, false, false] → a_ = ({ tmps := #[yA,yB,yC,yD,yE,yF,yG,(.pointer (some ⟨B7, 0, none⟩)),yI,(.pointer (some ⟨B9, 0, none⟩)),yK,(.pointer (some ⟨B11, 0, none⟩)),yM,.pointer (some ⟨b13, 0, none⟩),.pointer (some ⟨b14, 0, none⟩),yP,yQ,yR,yS,yT,yU,yV,yW,yX,yY,yZ,zA,zB,zC,zD,zE,zF,zG,zH,zI,zJ,zK,zL,zM,zN,zO,zP,zQ,zR,zS,zT,zU,zV,zW,zX,zY,zZ,uA,uB,(.agg #[.int .i64 (fk 0), .int .i64 (fk 1), .int .i64 (fk 2)]),(.agg #[.int .i64 (fj 0), .int .i64 (fj 1), .int .i64 (fj 2)]),(.agg #[.int .i64 (crs fk fj 0), .int .i64 (crs fk fj 1), .int .i64 (crs fk fj 2)]),(.agg #[.int .i64 (fj 0), .int .i64 (fj 1), .int .i64 (fj 2)]),(.agg #[.int .i64 (fi 0), .int .i64 (fi 1), .int .i64 (fi 2)]),(.agg #[.int .i64 (crs fj fi 0), .int .i64 (crs fj fi 1), .int .i64 (crs fj fi 2)]),(.agg #[.int .i64 (fi 0), .int .i64 (fi 1), .int .i64 (fi 2)]),(.agg #[.int .i64 (fk 0), .int .i64 (fk 1), .int .i64 (fk 2)]),uK,uL,uM,uN,uO,uP,uQ,uR,uS,uT,uU,uV,uW,uX,uY,uZ,iA,iB,iC,iD,iE,iF,iG,iH,iI,iJ,iK,iL,iM,iN,iO,iP,iQ,iR,iS,iT,iU,iV,iW,iX,iY,iZ,oA,oB,oC,oD,oE,oF,oG,oH,oI,oJ,oK,oL,oM,oN,oO,oP,oQ,oR,oS,oT,oU,oV,oW,oX], defers := [] } : Act) → Ext w12 W0 → Hid (Arr3 W0 b13 (fun _ => 0)) → Hid (w12.heap.size ≤ b13) → Hid (Arr3 W0 b14 (fun _ => 0)) → Hid (w12.heap.size ≤ b14) → Hid (b13 ≠ b14) → F f_ l_ a_ W0 := by
  intro b13 b14 f_ l_ W0 a_ hf_ hl_ ha_ s0 b9 z9 b10 z10 n9_10
  subst hf_ hl_ ha_
  refine (hF.out _ _ _ _).2 ?_
  clear N1_0 N1_1 N1_2 N1_4 N1_5 N1_7 N1_8 N1_9
  refine wpAnyH_ready (rs := [8, 11]) (by kernel_rfl) (by simp) ?_
  refine AllReadyH.cons (o := _) rfl (fun K hK => ?_) ?_
  ·skip
   refine tk_call (by kernel_rfl) (cross_any fi fk hi hk _) (by kernel_rfl) ?_; rintro e W1 ⟨rfl, e1⟩; refine ⟨_, rfl, ?_⟩
   have s1 := s0.trans e1
   refine hK.out _ _ s1 (fun _ => ?_)
   clear hK K
   try simp only [sxA, sxB, sxC, Act.put, sxD, sxE, sxF]
   refine (hF.out _ _ _ _).1 ?_
   exact N1_3 b13 b14 _ _ W1 _ (by first | rfl | kernel_rfl) (by first | rfl | kernel_rfl) (by (try simp only [sxA, sxB, sxC, Act.put, sxD, sxE, sxF]); first | done | with_reducible rfl | rfl) s1 (hid (b9.out.ext e1)) z9 (hid (b10.out.ext e1)) z10 n9_10
  refine AllReadyH.cons (o := _) rfl (fun K hK => ?_) ?_
  ·skip
   go_simp
   refine hK.out _ _ (Ext.alloc s0 _) (fun _ => ?_)
   clear hK K
   try simp only [sxA, sxB, sxC, Act.put, sxD, sxE, sxF]
   refine name_any (fun W1 hW => ?_)
   have e1 : Ext W0 W1 := by rw [hW]; exact Ext.alloc (Ext.refl _) _
   have s1 := s0.trans e1
   have nb0 := hid (arr3_new hW)
   clear hW
   refine (hF.out _ _ _ _).1 ?_
   exact N1_6 b13 b14 W0.heap.size _ _ W1 _ (by first | rfl | kernel_rfl) (by first | rfl | kernel_rfl) (by (try simp only [sxA, sxB, sxC, Act.put, sxD, sxE, sxF]); first | done | with_reducible rfl | rfl) s1 (hid (b9.out.ext e1)) z9 (hid (b10.out.ext e1)) z10 n9_10 nb0 (hid s0.size) (hid (Nat.ne_of_lt b9.out.l)) (hid (Nat.ne_of_lt b10.out.l))
  exact AllReadyH.nil
 have N1_11 : ∀ (b13 : Nat) (b15 : Nat) (f_ : Nat) (l_ : Array Bool) (W0 : World) (a_ : Act), f_ = 5 → l_ = #[true, true, true, true, true, true, true, true, false, true, false, true, false, false, false] → a_ = ({ tmps := #[yA,yB,yC,yD,yE,yF,yG,(.pointer (some ⟨B7, 0, none⟩)),yI,(.pointer (some ⟨B9, 0, none⟩)),yK,(.pointer (some ⟨B11, 0, none⟩)),yM,.pointer (some ⟨b13, 0, none⟩),yO,.pointer (some ⟨b15, 0, none⟩),yQ,yR,yS,yT,yU,yV,yW,yX,yY,yZ,zA,zB,zC,zD,zE,zF,zG,zH,zI,zJ,zK,zL,zM,zN,zO,zP,zQ,zR,zS,zT,zU,zV,zW,zX,zY,zZ,uA,uB,(.agg #[.int .i64 (fk 0), .int .i64 (fk 1), .int .i64 (fk 2)]),(.agg #[.int .i64 (fj 0), .int .i64 (fj 1), .int .i64 (fj 2)]),(.agg #[.int .i64 (crs fk fj 0), .int .i64 (crs fk fj 1), .int .i64 (crs fk fj 2)]),(.agg #[.int .i64 (fj 0), .int .i64 (fj 1), .int .i64 (fj 2)]),(.agg #[.int .i64 (fi 0), .int .i64 (fi 1), .int .i64 (fi 2)]),(.agg #[.int .i64 (crs fj fi 0), .int .i64 (crs fj fi 1), .int .i64 (crs fj fi 2)]),(.agg #[.int .i64 (fi 0), .int .i64 (fi 1), .int .i64 (fi 2)]),(.agg #[.int .i64 (fk 0), .int .i64 (fk 1), .int .i64 (fk 2)]),uK,uL,uM,uN,uO,uP,uQ,uR,uS,uT,uU,uV,uW,uX,uY,uZ,iA,iB,iC,iD,iE,iF,iG,iH,iI,iJ,iK,iL,iM,iN,iO,iP,iQ,iR,iS,iT,iU,iV,iW,iX,iY,iZ,oA,oB,oC,oD,oE,oF,oG,oH,oI,oJ,oK,oL,oM,oN,oO,oP,oQ,oR,oS,oT,oU,oV,oW,oX], defers := [] } : Act) → Ext w12 W0 → Hid (Arr3 W0 b13 (fun _ => 0)) → Hid (w12.heap.size ≤ b13) → Hid (Arr3 W0 b15 (fun _ => 0)) → Hid (w12.heap.size ≤ b15) → Hid (b13 ≠ b15) → F f_ l_ a_ W0 := by
  intro b13 b15 f_ l_ W0 a_ hf_ hl_ ha_ s0 b9 z9 b11 z11 n9_11
  subst hf_ hl_ ha_
  refine (hF.out _ _ _ _).2 ?_
  clear N1_0 N1_1 N1_2 N1_3 N1_5 N1_7 N1_8 N1_9 N1_10
  refine wpAnyH_ready (rs := [8, 10]) (by kernel_rfl) (by simp) ?_
  refine AllReadyH.cons (o := _) rfl (fun K hK => ?_) ?_
  ·skip
   refine tk_call (by kernel_rfl) (cross_any fi fk hi hk _) (by kernel_rfl) ?_; rintro e W1 ⟨rfl, e1⟩; refine ⟨_, rfl, ?_⟩
   have s1 := s0.trans e1
   refine hK.out _ _ s1 (fun _ => ?_)
   clear hK K
   try simp only [sxA, sxB, sxC, Act.put, sxD, sxE, sxF]
   refine (hF.out _ _ _ _).1 ?_
   exact N1_4 b13 b15 _ _ W1 _ (by first | rfl | kernel_rfl) (by first | rfl | kernel_rfl) (by (try simp only [sxA, sxB, sxC, Act.put, sxD, sxE, sxF]); first | done | with_reducible rfl | rfl) s1 (hid (b9.out.ext e1)) z9 (hid (b11.out.ext e1)) z11 n9_11
  refine AllReadyH.cons (o := _) rfl (fun K hK => ?_) ?_
  ·skip
   go_simp
   refine hK.out _ _ (Ext.alloc s0 _) (fun _ => ?_)
   clear hK K
   try simp only [sxA, sxB, sxC, Act.put, sxD, sxE, sxF]
   refine name_any (fun W1 hW => ?_)
   have e1 : Ext W0 W1 := by rw [hW]; exact Ext.alloc (Ext.refl _) _
   have s1 := s0.trans e1
   have nb0 := hid (arr3_new hW)
   clear hW
   refine (hF.out _ _ _ _).1 ?_
   exact N1_6 b13 W0.heap.size b15 _ _ W1 _ (by first | rfl | kernel_rfl) (by first | rfl | kernel_rfl) (by (try simp only [sxA, sxB, sxC, Act.put, sxD, sxE, sxF]); first | done | with_reducible rfl | rfl) s1 (hid (b9.out.ext e1)) z9 nb0 (hid s0.size) (hid (Nat.ne_of_lt b9.out.l)) (hid (b11.out.ext e1)) z11 n9_11 (hid (Nat.ne_of_gt b11.out.l))
  exact AllReadyH.nil
 have N1_12 : ∀ (b14 : Nat) (b15 : Nat) (f_ : Nat) (l_ : Array Bool) (W0 : World) (a_ : Act), f_ = 5 → l_ = #[true, true, true, true, true, true, true, true, false, false, true, true, false, false, false] → a_ = ({ tmps := #[yA,yB,yC,yD,yE,yF,yG,(.pointer (some ⟨B7, 0, none⟩)),yI,(.pointer (some ⟨B9, 0, none⟩)),yK,(.pointer (some ⟨B11, 0, none⟩)),yM,yN,.pointer (some ⟨b14, 0, none⟩),.pointer (some ⟨b15, 0, none⟩),yQ,yR,yS,yT,yU,yV,yW,yX,yY,yZ,zA,zB,zC,zD,zE,zF,zG,zH,zI,zJ,zK,zL,zM,zN,zO,zP,zQ,zR,zS,zT,zU,zV,zW,zX,zY,zZ,uA,uB,(.agg #[.int .i64 (fk 0), .int .i64 (fk 1), .int .i64 (fk 2)]),(.agg #[.int .i64 (fj 0), .int .i64 (fj 1), .int .i64 (fj 2)]),(.agg #[.int .i64 (crs fk fj 0), .int .i64 (crs fk fj 1), .int .i64 (crs fk fj 2)]),(.agg #[.int .i64 (fj 0), .int .i64 (fj 1), .int .i64 (fj 2)]),(.agg #[.int .i64 (fi 0), .int .i64 (fi 1), .int .i64 (fi 2)]),(.agg #[.int .i64 (crs fj fi 0), .int .i64 (crs fj fi 1), .int .i64 (crs fj fi 2)]),(.agg #[.int .i64 (fi 0), .int .i64 (fi 1), .int .i64 (fi 2)]),(.agg #[.int .i64 (fk 0), .int .i64 (fk 1), .int .i64 (fk 2)]),uK,uL,uM,uN,uO,uP,uQ,uR,uS,uT,uU,uV,uW,uX,uY,uZ,iA,iB,iC,iD,iE,iF,iG,iH,iI,iJ,iK,iL,iM,iN,iO,iP,iQ,iR,iS,iT,iU,iV,iW,iX,iY,iZ,oA,oB,oC,oD,oE,oF,oG,oH,oI,oJ,oK,oL,oM,oN,oO,oP,oQ,oR,oS,oT,oU,oV,oW,oX], defers := [] } : Act) → Ext w12 W0 → Hid (Arr3 W0 b14 (fun _ => 0)) → Hid (w12.heap.size ≤ b14) → Hid (Arr3 W0 b15 (fun _ => 0)) → Hid (w12.heap.size ≤ b15) → Hid (b14 ≠ b15) → F f_ l_ a_ W0 := by
  intro b14 b15 f_ l_ W0 a_ hf_ hl_ ha_ s0 b10 z10 b11 z11 n10_11
  subst hf_ hl_ ha_
  refine (hF.out _ _ _ _).2 ?_
  clear N1_0 N1_1 N1_2 N1_3 N1_4 N1_7 N1_8 N1_9 N1_10 N1_11
  refine wpAnyH_ready (rs := [8, 9]) (by kernel_rfl) (by simp) ?_
  refine AllReadyH.cons (o := _) rfl (fun K hK => ?_) ?_
  ·skip
   refine tk_call (by kernel_rfl) (cross_any fi fk hi hk _) (by kernel_rfl) ?_; rintro e W1 ⟨rfl, e1⟩; refine ⟨_, rfl, ?_⟩
   have s1 := s0.trans e1
   refine hK.out _ _ s1 (fun _ => ?_)
   clear hK K
   try simp only [sxA, sxB, sxC, Act.put, sxD, sxE, sxF]
   refine (hF.out _ _ _ _).1 ?_
   exact N1_5 b14 b15 _ _ W1 _ (by first | rfl | kernel_rfl) (by first | rfl | kernel_rfl) (by (try simp only [sxA, sxB, sxC, Act.put, sxD, sxE, sxF]); first | done | with_reducible rfl | rfl) s1 (hid (b10.out.ext e1)) z10 (hid (b11.out.ext e1)) z11 n10_11
  refine AllReadyH.cons (o := _) rfl (fun K hK => ?_) ?_
  ·skip
   go_simp
   refine hK.out _ _ (Ext.alloc s0 _) (fun _ => ?_)
   clear hK K
   try simp only [sxA, sxB, sxC, Act.put, sxD, sxE, sxF]
   refine name_any (fun W1 hW => ?_)
   have e1 : Ext W0 W1 := by rw [hW]; exact Ext.alloc (Ext.refl _) _
   have s1 := s0.trans e1
   have nb0 := hid (arr3_new hW)
   clear hW
   refine (hF.out _ _ _ _).1 ?_
   exact N1_6 W0.heap.size b14 b15 _ _ W1 _ (by first | rfl | kernel_rfl) (by first | rfl | kernel_rfl) (by (try simp only [sxA, sxB, sxC, Act.put, sxD, sxE, sxF]); first | done | with_reducible rfl | rfl) s1 nb0 (hid s0.size) (hid (b10.out.ext e1)) z10 (hid (Nat.ne_of_gt b10.out.l)) (hid (b11.out.ext e1)) z11 (hid (Nat.ne_of_gt b11.out.l)) n10_11
  exact AllReadyH.nil
 have N1_13 : ∀ (b13 : Nat) (b14 : Nat) (b15 : Nat) (f_ : Nat) (l_ : Array Bool) (W0 : World) (a_ : Act), f_ = 5 → l_ = #[true, true, true, true, true, false, true, true, false, true, true, true, false, false, false] → a_ = ({ tmps := #[yA,yB,yC,yD,yE,yF,yG,(.pointer (some ⟨B7, 0, none⟩)),yI,(.pointer (some ⟨B9, 0, none⟩)),yK,(.pointer (some ⟨B11, 0, none⟩)),yM,.pointer (some ⟨b13, 0, none⟩),.pointer (some ⟨b14, 0, none⟩),.pointer (some ⟨b15, 0, none⟩),yQ,yR,yS,yT,yU,yV,yW,yX,yY,yZ,zA,zB,zC,zD,zE,zF,zG,zH,zI,zJ,zK,zL,zM,zN,zO,zP,zQ,zR,zS,zT,zU,zV,zW,zX,zY,zZ,uA,uB,(.agg #[.int .i64 (fk 0), .int .i64 (fk 1), .int .i64 (fk 2)]),(.agg #[.int .i64 (fj 0), .int .i64 (fj 1), .int .i64 (fj 2)]),(.agg #[.int .i64 (crs fk fj 0), .int .i64 (crs fk fj 1), .int .i64 (crs fk fj 2)]),(.agg #[.int .i64 (fj 0), .int .i64 (fj 1), .int .i64 (fj 2)]),(.agg #[.int .i64 (fi 0), .int .i64 (fi 1), .int .i64 (fi 2)]),uH,(.agg #[.int .i64 (fi 0), .int .i64 (fi 1), .int .i64 (fi 2)]),(.agg #[.int .i64 (fk 0), .int .i64 (fk 1), .int .i64 (fk 2)]),uK,uL,uM,uN,uO,uP,uQ,uR,uS,uT,uU,uV,uW,uX,uY,uZ,iA,iB,iC,iD,iE,iF,iG,iH,iI,iJ,iK,iL,iM,iN,iO,iP,iQ,iR,iS,iT,iU,iV,iW,iX,iY,iZ,oA,oB,oC,oD,oE,oF,oG,oH,oI,oJ,oK,oL,oM,oN,oO,oP,oQ,oR,oS,oT,oU,oV,oW,oX], defers := [] } : Act) → Ext w12 W0 → Hid (Arr3 W0 b13 (fun _ => 0)) → Hid (w12.heap.size ≤ b13) → Hid (Arr3 W0 b14 (fun _ => 0)) → Hid (w12.heap.size ≤ b14) → Hid (b13 ≠ b14) → Hid (Arr3 W0 b15 (fun _ => 0)) → Hid (w12.heap.size ≤ b15) → Hid (b13 ≠ b15) → Hid (b14 ≠ b15) → F f_ l_ a_ W0 := by
  intro b13 b14 b15 f_ l_ W0 a_ hf_ hl_ ha_ s0 b9 z9 b10 z10 n9_10 b11 z11 n9_11 n10_11
  subst hf_ hl_ ha_
  refine (hF.out _ _ _ _).2 ?_
  clear N1_0 N1_1 N1_2 N1_3 N1_4 N1_5 N1_7 N1_8 N1_9 N1_10 N1_11 N1_12
  refine wpAnyH_ready (rs := [5]) (by kernel_rfl) (by simp) ?_
  refine AllReadyH.cons (o := _) rfl (fun K hK => ?_) AllReadyH.nil
  refine tk_call (by kernel_rfl) (cross_any fj fi hj hi _) (by kernel_rfl) ?_; rintro e W1 ⟨rfl, e1⟩; refine ⟨_, rfl, ?_⟩
  have s1 := s0.trans e1
  refine hK.out _ _ s1 (fun _ => ?_)
  clear hK K
  try simp only [sxA, sxB, sxC, Act.put, sxD, sxE, sxF]
  refine (hF.out _ _ _ _).1 ?_
  exact N1_6 b13 b14 b15 _ _ W1 _ (by first | rfl | kernel_rfl) (by first | rfl | kernel_rfl) (by (try simp only [sxA, sxB, sxC, Act.put, sxD, sxE, sxF]); first | done | with_reducible rfl | rfl) s1 (hid (b9.out.ext e1)) z9 (hid (b10.out.ext e1)) z10 n9_10 (hid (b11.out.ext e1)) z11 n9_11 n10_11
 have N1_14 : ∀ (f_ : Nat) (l_ : Array Bool) (W0 : World) (a_ : Act), f_ = 6 → l_ = #[true, true, true, true, true, true, true, true, true, false, false, false, false, false, false] → a_ = ({ tmps := #[yA,yB,yC,yD,yE,yF,yG,(.pointer (some ⟨B7, 0, none⟩)),yI,(.pointer (some ⟨B9, 0, none⟩)),yK,(.pointer (some ⟨B11, 0, none⟩)),yM,yN,yO,yP,yQ,yR,yS,yT,yU,yV,yW,yX,yY,yZ,zA,zB,zC,zD,zE,zF,zG,zH,zI,zJ,zK,zL,zM,zN,zO,zP,zQ,zR,zS,zT,zU,zV,zW,zX,zY,zZ,uA,uB,(.agg #[.int .i64 (fk 0), .int .i64 (fk 1), .int .i64 (fk 2)]),(.agg #[.int .i64 (fj 0), .int .i64 (fj 1), .int .i64 (fj 2)]),(.agg #[.int .i64 (crs fk fj 0), .int .i64 (crs fk fj 1), .int .i64 (crs fk fj 2)]),(.agg #[.int .i64 (fj 0), .int .i64 (fj 1), .int .i64 (fj 2)]),(.agg #[.int .i64 (fi 0), .int .i64 (fi 1), .int .i64 (fi 2)]),(.agg #[.int .i64 (crs fj fi 0), .int .i64 (crs fj fi 1), .int .i64 (crs fj fi 2)]),(.agg #[.int .i64 (fi 0), .int .i64 (fi 1), .int .i64 (fi 2)]),(.agg #[.int .i64 (fk 0), .int .i64 (fk 1), .int .i64 (fk 2)]),(.agg #[.int .i64 (crs fi fk 0), .int .i64 (crs fi fk 1), .int .i64 (crs fi fk 2)]),uL,uM,uN,uO,uP,uQ,uR,uS,uT,uU,uV,uW,uX,uY,uZ,iA,iB,iC,iD,iE,iF,iG,iH,iI,iJ,iK,iL,iM,iN,iO,iP,iQ,iR,iS,iT,iU,iV,iW,iX,iY,iZ,oA,oB,oC,oD,oE,oF,oG,oH,oI,oJ,oK,oL,oM,oN,oO,oP,oQ,oR,oS,oT,oU,oV,oW,oX], defers := [] } : Act) → Ext w12 W0 → F f_ l_ a_ W0 := by
  intro  f_ l_ W0 a_ hf_ hl_ ha_ s0
  subst hf_ hl_ ha_
  refine (hF.out _ _ _ _).2 ?_
  clear N1_0 N1_1 N1_2 N1_3 N1_4 N1_5 N1_6 N1_10 N1_11 N1_12 N1_13
  refine wpAnyH_ready (rs := [9, 10, 11]) (by kernel_rfl) (by simp) ?_
  refine AllReadyH.cons (o := _) rfl (fun K hK => ?_) ?_
  ·skip
   go_simp
   refine hK.out _ _ (Ext.alloc s0 _) (fun _ => ?_)
   clear hK K
   try simp only [sxA, sxB, sxC, Act.put, sxD, sxE, sxF]
   refine name_any (fun W1 hW => ?_)
   have e1 : Ext W0 W1 := by rw [hW]; exact Ext.alloc (Ext.refl _) _
   have s1 := s0.trans e1
   have nb0 := hid (arr3_new hW)
   clear hW
   refine (hF.out _ _ _ _).1 ?_
   exact N1_7 W0.heap.size _ _ W1 _ (by first | rfl | kernel_rfl) (by first | rfl | kernel_rfl) (by (try simp only [sxA, sxB, sxC, Act.put, sxD, sxE, sxF]); first | done | with_reducible rfl | rfl) s1 nb0 (hid s0.size)
  refine AllReadyH.cons (o := _) rfl (fun K hK => ?_) ?_
  ·skip
   go_simp
   refine hK.out _ _ (Ext.alloc s0 _) (fun _ => ?_)
   clear hK K
   try simp only [sxA, sxB, sxC, Act.put, sxD, sxE, sxF]
   refine name_any (fun W1 hW => ?_)
   have e1 : Ext W0 W1 := by rw [hW]; exact Ext.alloc (Ext.refl _) _
   have s1 := s0.trans e1
   have nb0 := hid (arr3_new hW)
   clear hW
   refine (hF.out _ _ _ _).1 ?_
   exact N1_8 W0.heap.size _ _ W1 _ (by first | rfl | kernel_rfl) (by first | rfl | kernel_rfl) (by (try simp only [sxA, sxB, sxC, Act.put, sxD, sxE, sxF]); first | done | with_reducible rfl | rfl) s1 nb0 (hid s0.size)
  refine AllReadyH.cons (o := _) rfl (fun K hK => ?_) ?_
  ·skip
   go_simp
   refine hK.out _ _ (Ext.alloc s0 _) (fun _ => ?_)
   clear hK K
   try simp only [sxA, sxB, sxC, Act.put, sxD, sxE, sxF]
   refine name_any (fun W1 hW => ?_)
   have e1 : Ext W0 W1 := by rw [hW]; exact Ext.alloc (Ext.refl _) _
   have s1 := s0.trans e1
   have nb0 := hid (arr3_new hW)
   clear hW
   refine (hF.out _ _ _ _).1 ?_
   exact N1_9 W0.heap.size _ _ W1 _ (by first | rfl | kernel_rfl) (by first | rfl | kernel_rfl) (by (try simp only [sxA, sxB, sxC, Act.put, sxD, sxE, sxF]); first | done | with_reducible rfl | rfl) s1 nb0 (hid s0.size)
  exact AllReadyH.nil
 have N1_15 : ∀ (b13 : Nat) (f_ : Nat) (l_ : Array Bool) (W0 : World) (a_ : Act), f_ = 6 → l_ = #[true, true, true, true, true, true, true, true, false, true, false, false, false, false, false] → a_ = ({ tmps := #[yA,yB,yC,yD,yE,yF,yG,(.pointer (some ⟨B7, 0, none⟩)),yI,(.pointer (some ⟨B9, 0, none⟩)),yK,(.pointer (some ⟨B11, 0, none⟩)),yM,.pointer (some ⟨b13, 0, none⟩),yO,yP,yQ,yR,yS,yT,yU,yV,yW,yX,yY,yZ,zA,zB,zC,zD,zE,zF,zG,zH,zI,zJ,zK,zL,zM,zN,zO,zP,zQ,zR,zS,zT,zU,zV,zW,zX,zY,zZ,uA,uB,(.agg #[.int .i64 (fk 0), .int .i64 (fk 1), .int .i64 (fk 2)]),(.agg #[.int .i64 (fj 0), .int .i64 (fj 1), .int .i64 (fj 2)]),(.agg #[.int .i64 (crs fk fj 0), .int .i64 (crs fk fj 1), .int .i64 (crs fk fj 2)]),(.agg #[.int .i64 (fj 0), .int .i64 (fj 1), .int .i64 (fj 2)]),(.agg #[.int .i64 (fi 0), .int .i64 (fi 1), .int .i64 (fi 2)]),(.agg #[.int .i64 (crs fj fi 0), .int .i64 (crs fj fi 1), .int .i64 (crs fj fi 2)]),(.agg #[.int .i64 (fi 0), .int .i64 (fi 1), .int .i64 (fi 2)]),(.agg #[.int .i64 (fk 0), .int .i64 (fk 1), .int .i64 (fk 2)]),uK,uL,uM,uN,uO,uP,uQ,uR,uS,uT,uU,uV,uW,uX,uY,uZ,iA,iB,iC,iD,iE,iF,iG,iH,iI,iJ,iK,iL,iM,iN,iO,iP,iQ,iR,iS,iT,iU,iV,iW,iX,iY,iZ,oA,oB,oC,oD,oE,oF,oG,oH,oI,oJ,oK,oL,oM,oN,oO,oP,oQ,oR,oS,oT,oU,oV,oW,oX], defers := [] } : Act) → Ext w12 W0 → Hid (Arr3 W0 b13 (fun _ => 0)) → Hid (w12.heap.size ≤ b13) → F f_ l_ a_ W0 := by
  intro b13 f_ l_ W0 a_ hf_ hl_ ha_ s0 b9 z9
  subst hf_ hl_ ha_
  refine (hF.out _ _ _ _).2 ?_
  clear N1_0 N1_1 N1_2 N1_3 N1_4 N1_5 N1_6 N1_8 N1_9 N1_12 N1_13 N1_14
  refine wpAnyH_ready (rs := [8, 10, 11]) (by kernel_rfl) (by simp) ?_
  refine AllReadyH.cons (o := _) rfl (fun K hK => ?_) ?_
  ·skip
   refine tk_call (by kernel_rfl) (cross_any fi fk hi hk _) (by kernel_rfl) ?_; rintro e W1 ⟨rfl, e1⟩; refine ⟨_, rfl, ?_⟩
   have s1 := s0.trans e1
   refine hK.out _ _ s1 (fun _ => ?_)
   clear hK K
   try simp only [sxA, sxB, sxC, Act.put, sxD, sxE, sxF]
   refine (hF.out _ _ _ _).1 ?_
   exact N1_7 b13 _ _ W1 _ (by first | rfl | kernel_rfl) (by first | rfl | kernel_rfl) (by (try simp only [sxA, sxB, sxC, Act.put, sxD, sxE, sxF]); first | done | with_reducible rfl | rfl) s1 (hid (b9.out.ext e1)) z9
  refine AllReadyH.cons (o := _) rfl (fun K hK => ?_) ?_
  ·skip
   go_simp
   refine hK.out _ _ (Ext.alloc s0 _) (fun _ => ?_)
   clear hK K
   try simp only [sxA, sxB, sxC, Act.put, sxD, sxE, sxF]
   refine name_any (fun W1 hW => ?_)
   have e1 : Ext W0 W1 := by rw [hW]; exact Ext.alloc (Ext.refl _) _
   have s1 := s0.trans e1
   have nb0 := hid (arr3_new hW)
   clear hW
   refine (hF.out _ _ _ _).1 ?_
   exact N1_10 b13 W0.heap.size _ _ W1 _ (by first | rfl | kernel_rfl) (by first | rfl | kernel_rfl) (by (try simp only [sxA, sxB, sxC, Act.put, sxD, sxE, sxF]); first | done | with_reducible rfl | rfl) s1 (hid (b9.out.ext e1)) z9 nb0 (hid s0.size) (hid (Nat.ne_of_lt b9.out.l))
  refine AllReadyH.cons (o := _) rfl (fun K hK => ?_) ?_
  ·skip
   go_simp
   refine hK.out _ _ (Ext.alloc s0 _) (fun _ => ?_)
   clear hK K
   try simp only [sxA, sxB, sxC, Act.put, sxD, sxE, sxF]
   refine name_any (fun W1 hW => ?_)
   have e1 : Ext W0 W1 := by rw [hW]; exact Ext.alloc (Ext.refl _) _
   have s1 := s0.trans e1
   have nb0 := hid (arr3_new hW)
   clear hW
   refine (hF.out _ _ _ _).1 ?_
   exact N1_11 b13 W0.heap.size _ _ W1 _ (by first | rfl | kernel_rfl) (by first | rfl | kernel_rfl) (by (try simp only [sxA, sxB, sxC, Act.put, sxD, sxE, sxF]); first | done | with_reducible rfl | rfl) s1 (hid (b9.out.ext e1)) z9 nb0 (hid s0.size) (hid (Nat.ne_of_lt b9.out.l))
  exact AllReadyH.nil
 have N1_16 : ∀ (b14 : Nat) (f_ : Nat) (l_ : Array Bool) (W0 : World) (a_ : Act), f_ = 6 → l_ = #[true, true, true, true, true, true, true, true, false, false, true, false, false, false, false] → a_ = ({ tmps := #[yA,yB,yC,yD,yE,yF,yG,(.pointer (some ⟨B7, 0, none⟩)),yI,(.pointer (some ⟨B9, 0, none⟩)),yK,(.pointer (some ⟨B11, 0, none⟩)),yM,yN,.pointer (some ⟨b14, 0, none⟩),yP,yQ,yR,yS,yT,yU,yV,yW,yX,yY,yZ,zA,zB,zC,zD,zE,zF,zG,zH,zI,zJ,zK,zL,zM,zN,zO,zP,zQ,zR,zS,zT,zU,zV,zW,zX,zY,zZ,uA,uB,(.agg #[.int .i64 (fk 0), .int .i64 (fk 1), .int .i64 (fk 2)]),(.agg #[.int .i64 (fj 0), .int .i64 (fj 1), .int .i64 (fj 2)]),(.agg #[.int .i64 (crs fk fj 0), .int .i64 (crs fk fj 1), .int .i64 (crs fk fj 2)]),(.agg #[.int .i64 (fj 0), .int .i64 (fj 1), .int .i64 (fj 2)]),(.agg #[.int .i64 (fi 0), .int .i64 (fi 1), .int .i64 (fi 2)]),(.agg #[.int .i64 (crs fj fi 0), .int .i64 (crs fj fi 1), .int .i64 (crs fj fi 2)]),(.agg #[.int .i64 (fi 0), .int .i64 (fi 1), .int .i64 (fi 2)]),(.agg #[.int .i64 (fk 0), .int .i64 (fk 1), .int .i64 (fk 2)]),uK,uL,uM,uN,uO,uP,uQ,uR,uS,uT,uU,uV,uW,uX,uY,uZ,iA,iB,iC,iD,iE,iF,iG,iH,iI,iJ,iK,iL,iM,iN,iO,iP,iQ,iR,iS,iT,iU,iV,iW,iX,iY,iZ,oA,oB,oC,oD,oE,oF,oG,oH,oI,oJ,oK,oL,oM,oN,oO,oP,oQ,oR,oS,oT,oU,oV,oW,oX], defers := [] } : Act) → Ext w12 W0 → Hid (Arr3 W0 b14 (fun _ => 0)) → Hid (w12.heap.size ≤ b14) → F f_ l_ a_ W0 := by
  intro b14 f_ l_ W0 a_ hf_ hl_ ha_ s0 b10 z10
  subst hf_ hl_ ha_
  refine (hF.out _ _ _ _).2 ?_
  clear N1_0 N1_1 N1_2 N1_3 N1_4 N1_5 N1_6 N1_7 N1_9 N1_11 N1_13 N1_14 N1_15
  refine wpAnyH_ready (rs := [8, 9, 11]) (by kernel_rfl) (by simp) ?_
  refine AllReadyH.cons (o := _) rfl (fun K hK => ?_) ?_
  ·skip
   refine tk_call (by kernel_rfl) (cross_any fi fk hi hk _) (by kernel_rfl) ?_; rintro e W1 ⟨rfl, e1⟩; refine ⟨_, rfl, ?_⟩
   have s1 := s0.trans e1
   refine hK.out _ _ s1 (fun _ => ?_)
   clear hK K
   try simp only [sxA, sxB, sxC, Act.put, sxD, sxE, sxF]
   refine (hF.out _ _ _ _).1 ?_
   exact N1_8 b14 _ _ W1 _ (by first | rfl | kernel_rfl) (by first | rfl | kernel_rfl) (by (try simp only [sxA, sxB, sxC, Act.put, sxD, sxE, sxF]); first | done | with_reducible rfl | rfl) s1 (hid (b10.out.ext e1)) z10
  refine AllReadyH.cons (o := _) rfl (fun K hK => ?_) ?_
  ·skip
   go_simp
   refine hK.out _ _ (Ext.alloc s0 _) (fun _ => ?_)
   clear hK K
   try simp only [sxA, sxB, sxC, Act.put, sxD, sxE, sxF]
   refine name_any (fun W1 hW => ?_)
   have e1 : Ext W0 W1 := by rw [hW]; exact Ext.alloc (Ext.refl _) _
   have s1 := s0.trans e1
   have nb0 := hid (arr3_new hW)
   clear hW
   refine (hF.out _ _ _ _).1 ?_
   exact N1_10 W0.heap.size b14 _ _ W1 _ (by first | rfl | kernel_rfl) (by first | rfl | kernel_rfl) (by (try simp only [sxA, sxB, sxC, Act.put, sxD, sxE, sxF]); first | done | with_reducible rfl | rfl) s1 nb0 (hid s0.size) (hid (b10.out.ext e1)) z10 (hid (Nat.ne_of_gt b10.out.l))
  refine AllReadyH.cons (o := _) rfl (fun K hK => ?_) ?_
  ·skip
   go_simp
   refine hK.out _ _ (Ext.alloc s0 _) (fun _ => ?_)
   clear hK K
   try simp only [sxA, sxB, sxC, Act.put, sxD, sxE, sxF]
   refine name_any (fun W1 hW => ?_)
   have e1 : Ext W0 W1 := by rw [hW]; exact Ext.alloc (Ext.refl _) _
   have s1 := s0.trans e1
   have nb0 := hid (arr3_new hW)
   clear hW
   refine (hF.out _ _ _ _).1 ?_
   exact N1_12 b14 W0.heap.size _ _ W1 _ (by first | rfl | kernel_rfl) (by first | rfl | kernel_rfl) (by (try simp only [sxA, sxB, sxC, Act.put, sxD, sxE, sxF]); first | done | with_reducible rfl | rfl) s1 (hid (b10.out.ext e1)) z10 nb0 (hid s0.size) (hid (Nat.ne_of_lt b10.out.l))
  exact AllReadyH.nil
 have N1_17 : ∀ (b15 : Nat) (f_ : Nat) (l_ : Array Bool) (W0 : World) (a_ : Act), f_ = 6 → l_ = #[true, true, true, true, true, true, true, true, false, false, false, true, false, false, false] → a_ = ({ tmps := #[yA,yB,yC,yD,yE,yF,yG,(.pointer (some ⟨B7, 0, none⟩)),yI,(.pointer (some ⟨B9, 0, none⟩)),yK,(.pointer (some ⟨B11, 0, none⟩)),yM,yN,yO,.pointer (some ⟨b15, 0, none⟩),yQ,yR,yS,yT,yU,yV,yW,yX,yY,yZ,zA,zB,zC,zD,zE,zF,zG,zH,zI,zJ,zK,zL,zM,zN,zO,zP,zQ,zR,zS,zT,zU,zV,zW,zX,zY,zZ,uA,uB,(.agg #[.int .i64 (fk 0), .int .i64 (fk 1), .int .i64 (fk 2)]),(.agg #[.int .i64 (fj 0), .int .i64 (fj 1), .int .i64 (fj 2)]),(.agg #[.int .i64 (crs fk fj 0), .int .i64 (crs fk fj 1), .int .i64 (crs fk fj 2)]),(.agg #[.int .i64 (fj 0), .int .i64 (fj 1), .int .i64 (fj 2)]),(.agg #[.int .i64 (fi 0), .int .i64 (fi 1), .int .i64 (fi 2)]),(.agg #[.int .i64 (crs fj fi 0), .int .i64 (crs fj fi 1), .int .i64 (crs fj fi 2)]),(.agg #[.int .i64 (fi 0), .int .i64 (fi 1), .int .i64 (fi 2)]),(.agg #[.int .i64 (fk 0), .int .i64 (fk 1), .int .i64 (fk 2)]),uK,uL,uM,uN,uO,uP,uQ,uR,uS,uT,uU,uV,uW,uX,uY,uZ,iA,iB,iC,iD,iE,iF,iG,iH,iI,iJ,iK,iL,iM,iN,iO,iP,iQ,iR,iS,iT,iU,iV,iW,iX,iY,iZ,oA,oB,oC,oD,oE,oF,oG,oH,oI,oJ,oK,oL,oM,oN,oO,oP,oQ,oR,oS,oT,oU,oV,oW,oX], defers := [] } : Act) → Ext w12 W0 → Hid (Arr3 W0 b15 (fun _ => 0)) → Hid (w12.heap.size ≤ b15) → F f_ l_ a_ W0 := by
  intro b15 f_ l_ W0 a_ hf_ hl_ ha_ s0 b11 z11
  subst hf_ hl_ ha_
  refine (hF.out _ _ _ _).2 ?_
  clear N1_0 N1_1 N1_2 N1_3 N1_4 N1_5 N1_6 N1_7 N1_8 N1_10 N1_13 N1_14 N1_15 N1_16
  refine wpAnyH_ready (rs := [8, 9, 10]) (by kernel_rfl) (by simp) ?_
  refine AllReadyH.cons (o := _) rfl (fun K hK => ?_) ?_
  ·skip
   refine tk_call (by kernel_rfl) (cross_any fi fk hi hk _) (by kernel_rfl) ?_; rintro e W1 ⟨rfl, e1⟩; refine ⟨_, rfl, ?_⟩
   have s1 := s0.trans e1
   refine hK.out _ _ s1 (fun _ => ?_)
   clear hK K
   try simp only [sxA, sxB, sxC, Act.put, sxD, sxE, sxF]
   refine (hF.out _ _ _ _).1 ?_
   exact N1_9 b15 _ _ W1 _ (by first | rfl | kernel_rfl) (by first | rfl | kernel_rfl) (by (try simp only [sxA, sxB, sxC, Act.put, sxD, sxE, sxF]); first | done | with_reducible rfl | rfl) s1 (hid (b11.out.ext e1)) z11
  refine AllReadyH.cons (o := _) rfl (fun K hK => ?_) ?_
  ·skip
   go_simp
   refine hK.out _ _ (Ext.alloc s0 _) (fun _ => ?_)
   clear hK K
   try simp only [sxA, sxB, sxC, Act.put, sxD, sxE, sxF]
   refine name_any (fun W1 hW => ?_)
   have e1 : Ext W0 W1 := by rw [hW]; exact Ext.alloc (Ext.refl _) _
   have s1 := s0.trans e1
   have nb0 := hid (arr3_new hW)
   clear hW
   refine (hF.out _ _ _ _).1 ?_
   exact N1_11 W0.heap.size b15 _ _ W1 _ (by first | rfl | kernel_rfl) (by first | rfl | kernel_rfl) (by (try simp only [sxA, sxB, sxC, Act.put, sxD, sxE, sxF]); first | done | with_reducible rfl | rfl) s1 nb0 (hid s0.size) (hid (b11.out.ext e1)) z11 (hid (Nat.ne_of_gt b11.out.l))
  refine AllReadyH.cons (o := _) rfl (fun K hK => ?_) ?_
  ·skip
   go_simp
   refine hK.out _ _ (Ext.alloc s0 _) (fun _ => ?_)
   clear hK K
   try simp only [sxA, sxB, sxC, Act.put, sxD, sxE, sxF]
   refine name_any (fun W1 hW => ?_)
   have e1 : Ext W0 W1 := by rw [hW]; exact Ext.alloc (Ext.refl _) _
   have s1 := s0.trans e1
   have nb0 := hid (arr3_new hW)
   clear hW
   refine (hF.out _ _ _ _).1 ?_
   exact N1_12 W0.heap.size b15 _ _ W1 _ (by first | rfl | kernel_rfl) (by first | rfl | kernel_rfl) (by (try simp only [sxA, sxB, sxC, Act.put, sxD, sxE, sxF]); first | done | with_reducible rfl | rfl) s1 nb0 (hid s0.size) (hid (b11.out.ext e1)) z11 (hid (Nat.ne_of_gt b11.out.l))
  exact AllReadyH.nil
 have N1_18 : ∀ (b13 : Nat) (b14 : Nat) (f_ : Nat) (l_ : Array Bool) (W0 : World) (a_ : Act), f_ = 6 → l_ = #[true, true, true, true, true, false, true, true, false, true, true, false, false, false, false] → a_ = ({ tmps := #[yA,yB,yC,yD,yE,yF,yG,(.pointer (some ⟨B7, 0, none⟩)),yI,(.pointer (some ⟨B9, 0, none⟩)),yK,(.pointer (some ⟨B11, 0, none⟩)),yM,.pointer (some ⟨b13, 0, none⟩),.pointer (some ⟨b14, 0, none⟩),yP,yQ,yR,yS,yT,yU,yV,yW,yX,yY,yZ,zA,zB,zC,zD,zE,zF,zG,zH,zI,zJ,zK,zL,zM,zN,zO,zP,zQ,zR,zS,zT,zU,zV,zW,zX,zY,zZ,uA,uB,(.agg #[.int .i64 (fk 0), .int .i64 (fk 1), .int .i64 (fk 2)]),(.agg #[.int .i64 (fj 0), .int .i64 (fj 1), .int .i64 (fj 2)]),(.agg #[.int .i64 (crs fk fj 0), .int .i64 (crs fk fj 1), .int .i64 (crs fk fj 2)]),(.agg #[.int .i64 (fj 0), .int .i64 (fj 1), .int .i64 (fj 2)]),(.agg #[.int .i64 (fi 0), .int .i64 (fi 1), .int .i64 (fi 2)]),uH,(.agg #[.int .i64 (fi 0), .int .i64 (fi 1), .int .i64 (fi 2)]),(.agg #[.int .i64 (fk 0), .int .i64 (fk 1), .int .i64 (fk 2)]),uK,uL,uM,uN,uO,uP,uQ,uR,uS,uT,uU,uV,uW,uX,uY,uZ,iA,iB,iC,iD,iE,iF,iG,iH,iI,iJ,iK,iL,iM,iN,iO,iP,iQ,iR,iS,iT,iU,iV,iW,iX,iY,iZ,oA,oB,oC,oD,oE,oF,oG,oH,oI,oJ,oK,oL,oM,oN,oO,oP,oQ,oR,oS,oT,oU,oV,oW,oX], defers := [] } : Act) → Ext w12 W0 → Hid (Arr3 W0 b13 (fun _ => 0)) → Hid (w12.heap.size ≤ b13) → Hid (Arr3 W0 b14 (fun _ => 0)) → Hid (w12.heap.size ≤ b14) → Hid (b13 ≠ b14) → F f_ l_ a_ W0 := by
  intro b13 b14 f_ l_ W0 a_ hf_ hl_ ha_ s0 b9 z9 b10 z10 n9_10
  subst hf_ hl_ ha_
  refine (hF.out _ _ _ _).2 ?_
  clear N1_0 N1_1 N1_2 N1_3 N1_4 N1_5 N1_6 N1_7 N1_8 N1_9 N1_11 N1_12 N1_14 N1_15 N1_16 N1_17
  refine wpAnyH_ready (rs := [5, 11]) (by kernel_rfl) (by simp) ?_
  refine AllReadyH.cons (o := _) rfl (fun K hK => ?_) ?_
  ·skip
   refine tk_call (by kernel_rfl) (cross_any fj fi hj hi _) (by kernel_rfl) ?_; rintro e W1 ⟨rfl, e1⟩; refine ⟨_, rfl, ?_⟩
   have s1 := s0.trans e1
   refine hK.out _ _ s1 (fun _ => ?_)
   clear hK K
   try simp only [sxA, sxB, sxC, Act.put, sxD, sxE, sxF]
   refine (hF.out _ _ _ _).1 ?_
   exact N1_10 b13 b14 _ _ W1 _ (by first | rfl | kernel_rfl) (by first | rfl | kernel_rfl) (by (try simp only [sxA, sxB, sxC, Act.put, sxD, sxE, sxF]); first | done | with_reducible rfl | rfl) s1 (hid (b9.out.ext e1)) z9 (hid (b10.out.ext e1)) z10 n9_10
  refine AllReadyH.cons (o := _) rfl (fun K hK => ?_) ?_
  ·skip
   go_simp
   refine hK.out _ _ (Ext.alloc s0 _) (fun _ => ?_)
   clear hK K
   try simp only [sxA, sxB, sxC, Act.put, sxD, sxE, sxF]
   refine name_any (fun W1 hW => ?_)
   have e1 : Ext W0 W1 := by rw [hW]; exact Ext.alloc (Ext.refl _) _
   have s1 := s0.trans e1
   have nb0 := hid (arr3_new hW)
   clear hW
   refine (hF.out _ _ _ _).1 ?_
   exact N1_13 b13 b14 W0.heap.size _ _ W1 _ (by first | rfl | kernel_rfl) (by first | rfl | kernel_rfl) (by (try simp only [sxA, sxB, sxC, Act.put, sxD, sxE, sxF]); first | done | with_reducible rfl | rfl) s1 (hid (b9.out.ext e1)) z9 (hid (b10.out.ext e1)) z10 n9_10 nb0 (hid s0.size) (hid (Nat.ne_of_lt b9.out.l)) (hid (Nat.ne_of_lt b10.out.l))
  exact AllReadyH.nil
 have N1_19 : ∀ (b13 : Nat) (b15 : Nat) (f_ : Nat) (l_ : Array Bool) (W0 : World) (a_ : Act), f_ = 6 → l_ = #[true, true, true, true, true, false, true, true, false, true, false, true, false, false, false] → a_ = ({ tmps := #[yA,yB,yC,yD,yE,yF,yG,(.pointer (some ⟨B7, 0, none⟩)),yI,(.pointer (some ⟨B9, 0, none⟩)),yK,(.pointer (some ⟨B11, 0, none⟩)),yM,.pointer (some ⟨b13, 0, none⟩),yO,.pointer (some ⟨b15, 0, none⟩),yQ,yR,yS,yT,yU,yV,yW,yX,yY,yZ,zA,zB,zC,zD,zE,zF,zG,zH,zI,zJ,zK,zL,zM,zN,zO,zP,zQ,zR,zS,zT,zU,zV,zW,zX,zY,zZ,uA,uB,(.agg #[.int .i64 (fk 0), .int .i64 (fk 1), .int .i64 (fk 2)]),(.agg #[.int .i64 (fj 0), .int .i64 (fj 1), .int .i64 (fj 2)]),(.agg #[.int .i64 (crs fk fj 0), .int .i64 (crs fk fj 1), .int .i64 (crs fk fj 2)]),(.agg #[.int .i64 (fj 0), .int .i64 (fj 1), .int .i64 (fj 2)]),(.agg #[.int .i64 (fi 0), .int .i64 (fi 1), .int .i64 (fi 2)]),uH,(.agg #[.int .i64 (fi 0), .int .i64 (fi 1), .int .i64 (fi 2)]),(.agg #[.int .i64 (fk 0), .int .i64 (fk 1), .int .i64 (fk 2)]),uK,uL,uM,uN,uO,uP,uQ,uR,uS,uT,uU,uV,uW,uX,uY,uZ,iA,iB,iC,iD,iE,iF,iG,iH,iI,iJ,iK,iL,iM,iN,iO,iP,iQ,iR,iS,iT,iU,iV,iW,iX,iY,iZ,oA,oB,oC,oD,oE,oF,oG,oH,oI,oJ,oK,oL,oM,oN,oO,oP,oQ,oR,oS,oT,oU,oV,oW,oX], defers := [] } : Act) → Ext w12 W0 → Hid (Arr3 W0 b13 (fun _ => 0)) → Hid (w12.heap.size ≤ b13) → Hid (Arr3 W0 b15 (fun _ => 0)) → Hid (w12.heap.size ≤ b15) → Hid (b13 ≠ b15) → F f_ l_ a_ W0 := by
  intro b13 b15 f_ l_ W0 a_ hf_ hl_ ha_ s0 b9 z9 b11 z11 n9_11
  subst hf_ hl_ ha_
  refine (hF.out _ _ _ _).2 ?_
  clear N1_0 N1_1 N1_2 N1_3 N1_4 N1_5 N1_6 N1_7 N1_8 N1_9 N1_10 N1_12 N1_14 N1_15 N1_16 N1_17 N1_18
  refine wpAnyH_ready (rs := [5, 10]) (by kernel_rfl) (by simp) ?_
  refine AllReadyH.cons (o := _) rfl (fun K hK => ?_) ?_
  ·skip
   refine tk_call (by kernel_rfl) (cross_any fj fi hj hi _) (by kernel_rfl) ?_; rintro e W1 ⟨rfl, e1⟩; refine ⟨_, rfl, ?_⟩
   have s1 := s0.trans e1
   refine hK.out _ _ s1 (fun _ => ?_)
   clear hK K
   try simp only [sxA, sxB, sxC, Act.put, sxD, sxE, sxF]
   refine (hF.out _ _ _ _).1 ?_
   exact N1_11 b13 b15 _ _ W1 _ (by first | rfl | kernel_rfl) (by first | rfl | kernel_rfl) (by (try simp only [sxA, sxB, sxC, Act.put, sxD, sxE, sxF]); first | done | with_reducible rfl | rfl) s1 (hid (b9.out.ext e1)) z9 (hid (b11.out.ext e1)) z11 n9_11
  refine AllReadyH.cons (o := _) rfl (fun K hK => ?_) ?_
  ·skip
   go_simp
   refine hK.out _ _ (Ext.alloc s0 _) (fun _ => ?_)
   clear hK K
   try simp only [sxA, sxB, sxC, Act.put, sxD, sxE, sxF]
   refine name_any (fun W1 hW => ?_)
   have e1 : Ext W0 W1 := by rw [hW]; exact Ext.alloc (Ext.refl _) _
   have s1 := s0.trans e1
   have nb0 := hid (arr3_new hW)
   clear hW
   refine (hF.out _ _ _ _).1 ?_
   exact N1_13 b13 W0.heap.size b15 _ _ W1 _ (by first | rfl | kernel_rfl) (by first | rfl | kernel_rfl) (by (try simp only [sxA, sxB, sxC, Act.put, sxD, sxE, sxF]); first | done | with_reducible rfl | rfl) s1 (hid (b9.out.ext e1)) z9 nb0 (hid s0.size) (hid (Nat.ne_of_lt b9.out.l)) (hid (b11.out.ext e1)) z11 n9_11 (hid (Nat.ne_of_gt b11.out.l))
  exact AllReadyH.nil
 have N1_20 : ∀ (b14 : Nat) (b15 : Nat) (f_ : Nat) (l_ : Array Bool) (W0 : World) (a_ : Act), f_ = 6 → l_ = #[true, true, true, true, true, false, true, true, false, false, true, true, false, false, false] → a_ = ({ tmps := #[yA,yB,yC,yD,yE,yF,yG,(.pointer (some ⟨B7, 0, none⟩)),yI,(.pointer (some ⟨B9, 0, none⟩)),yK,(.pointer (some ⟨B11, 0, none⟩)),yM,yN,.pointer (some ⟨b14, 0, none⟩),.pointer (some ⟨b15, 0, none⟩),yQ,yR,yS,yT,yU,yV,yW,yX,yY,yZ,zA,zB,zC,zD,zE,zF,zG,zH,zI,zJ,zK,zL,zM,zN,zO,zP,zQ,zR,zS,zT,zU,zV,zW,zX,zY,zZ,uA,uB,(.agg #[.int .i64 (fk 0), .int .i64 (fk 1), .int .i64 (fk 2)]),(.agg #[.int .i64 (fj 0), .int .i64 (fj 1), .int .i64 (fj 2)]),(.agg #[.int .i64 (crs fk fj 0), .int .i64 (crs fk fj 1), .int .i64 (crs fk fj 2)]),(.agg #[.int .i64 (fj 0), .int .i64 (fj 1), .int .i64 (fj 2)]),(.agg #[.int .i64 (fi 0), .int .i64 (fi 1), .int .i64 (fi 2)]),uH,(.agg #[.int .i64 (fi 0), .int .i64 (fi 1), .int .i64 (fi 2)]),(.agg #[.int .i64 (fk 0), .int .i64 (fk 1), .int .i64 (fk 2)]),uK,uL,uM,uN,uO,uP,uQ,uR,uS,uT,uU,uV,uW,uX,uY,uZ,iA,iB,iC,iD,iE,iF,iG,iH,iI,iJ,iK,iL,iM,iN,iO,iP,iQ,iR,iS,iT,iU,iV,iW,iX,iY,iZ,oA,oB,oC,oD,oE,oF,oG,oH,oI,oJ,oK,oL,oM,oN,oO,oP,oQ,oR,oS,oT,oU,oV,oW,oX], defers := [] } : Act) → Ext w12 W0 → Hid (Arr3 W0 b14 (fun _ => 0)) → Hid (w12.heap.size ≤ b14) → Hid (Arr3 W0 b15 (fun _ => 0)) → Hid (w12.heap.size ≤ b15) → Hid (b14 ≠ b15) → F f_ l_ a_ W0 := by
  intro b14 b15 f_ l_ W0 a_ hf_ hl_ ha_ s0 b10 z10 b11 z11 n10_11
  subst hf_ hl_ ha_
  refine (hF.out _ _ _ _).2 ?_
  clear N1_0 N1_1 N1_2 N1_3 N1_4 N1_5 N1_6 N1_7 N1_8 N1_9 N1_10 N1_11 N1_14 N1_15 N1_16 N1_17 N1_18 N1_19
  refine wpAnyH_ready (rs := [5, 9]) (by kernel_rfl) (by simp) ?_
  refine AllReadyH.cons (o := _) rfl (fun K hK => ?_) ?_
  ·skip
   refine tk_call (by kernel_rfl) (cross_any fj fi hj hi _) (by kernel_rfl) ?_; rintro e W1 ⟨rfl, e1⟩; refine ⟨_, rfl, ?_⟩
   have s1 := s0.trans e1
   refine hK.out _ _ s1 (fun _ => ?_)
   clear hK K
   try simp only [sxA, sxB, sxC, Act.put, sxD, sxE, sxF]
   refine (hF.out _ _ _ _).1 ?_
   exact N1_12 b14 b15 _ _ W1 _ (by first | rfl | kernel_rfl) (by first | rfl | kernel_rfl) (by (try simp only [sxA, sxB, sxC, Act.put, sxD, sxE, sxF]); first | done | with_reducible rfl | rfl) s1 (hid (b10.out.ext e1)) z10 (hid (b11.out.ext e1)) z11 n10_11
  refine AllReadyH.cons (o := _) rfl (fun K hK => ?_) ?_
  ·skip
   go_simp
   refine hK.out _ _ (Ext.alloc s0 _) (fun _ => ?_)
   clear hK K
   try simp only [sxA, sxB, sxC, Act.put, sxD, sxE, sxF]
   refine name_any (fun W1 hW => ?_)
   have e1 : Ext W0 W1 := by rw [hW]; exact Ext.alloc (Ext.refl _) _
   have s1 := s0.trans e1
   have nb0 := hid (arr3_new hW)
   clear hW
   refine (hF.out _ _ _ _).1 ?_
   exact N1_13 W0.heap.size b14 b15 _ _ W1 _ (by first | rfl | kernel_rfl) (by first | rfl | kernel_rfl) (by (try simp only [sxA, sxB, sxC, Act.put, sxD, sxE, sxF]); first | done | with_reducible rfl | rfl) s1 nb0 (hid s0.size) (hid (b10.out.ext e1)) z10 (hid (Nat.ne_of_gt b10.out.l)) (hid (b11.out.ext e1)) z11 (hid (Nat.ne_of_gt b11.out.l)) n10_11
  exact AllReadyH.nil
 have N1_21 : ∀ (b13 : Nat) (b14 : Nat) (b15 : Nat) (f_ : Nat) (l_ : Array Bool) (W0 : World) (a_ : Act), f_ = 6 → l_ = #[true, true, false, true, true, false, true, true, false, true, true, true, false, false, false] → a_ = ({ tmps := #[yA,yB,yC,yD,yE,yF,yG,(.pointer (some ⟨B7, 0, none⟩)),yI,(.pointer (some ⟨B9, 0, none⟩)),yK,(.pointer (some ⟨B11, 0, none⟩)),yM,.pointer (some ⟨b13, 0, none⟩),.pointer (some ⟨b14, 0, none⟩),.pointer (some ⟨b15, 0, none⟩),yQ,yR,yS,yT,yU,yV,yW,yX,yY,yZ,zA,zB,zC,zD,zE,zF,zG,zH,zI,zJ,zK,zL,zM,zN,zO,zP,zQ,zR,zS,zT,zU,zV,zW,zX,zY,zZ,uA,uB,(.agg #[.int .i64 (fk 0), .int .i64 (fk 1), .int .i64 (fk 2)]),(.agg #[.int .i64 (fj 0), .int .i64 (fj 1), .int .i64 (fj 2)]),uE,(.agg #[.int .i64 (fj 0), .int .i64 (fj 1), .int .i64 (fj 2)]),(.agg #[.int .i64 (fi 0), .int .i64 (fi 1), .int .i64 (fi 2)]),uH,(.agg #[.int .i64 (fi 0), .int .i64 (fi 1), .int .i64 (fi 2)]),(.agg #[.int .i64 (fk 0), .int .i64 (fk 1), .int .i64 (fk 2)]),uK,uL,uM,uN,uO,uP,uQ,uR,uS,uT,uU,uV,uW,uX,uY,uZ,iA,iB,iC,iD,iE,iF,iG,iH,iI,iJ,iK,iL,iM,iN,iO,iP,iQ,iR,iS,iT,iU,iV,iW,iX,iY,iZ,oA,oB,oC,oD,oE,oF,oG,oH,oI,oJ,oK,oL,oM,oN,oO,oP,oQ,oR,oS,oT,oU,oV,oW,oX], defers := [] } : Act) → Ext w12 W0 → Hid (Arr3 W0 b13 (fun _ => 0)) → Hid (w12.heap.size ≤ b13) → Hid (Arr3 W0 b14 (fun _ => 0)) → Hid (w12.heap.size ≤ b14) → Hid (b13 ≠ b14) → Hid (Arr3 W0 b15 (fun _ => 0)) → Hid (w12.heap.size ≤ b15) → Hid (b13 ≠ b15) → Hid (b14 ≠ b15) → F f_ l_ a_ W0 := by
  intro b13 b14 b15 f_ l_ W0 a_ hf_ hl_ ha_ s0 b9 z9 b10 z10 n9_10 b11 z11 n9_11 n10_11
  subst hf_ hl_ ha_
  refine (hF.out _ _ _ _).2 ?_
  clear N1_0 N1_1 N1_2 N1_3 N1_4 N1_5 N1_6 N1_7 N1_8 N1_9 N1_10 N1_11 N1_12 N1_14 N1_15 N1_16 N1_17 N1_18 N1_19 N1_20
  refine wpAnyH_ready (rs := [2]) (by kernel_rfl) (by simp) ?_
  refine AllReadyH.cons (o := _) rfl (fun K hK => ?_) AllReadyH.nil
  refine tk_call (by kernel_rfl) (cross_any fk fj hk hj _) (by kernel_rfl) ?_; rintro e W1 ⟨rfl, e1⟩; refine ⟨_, rfl, ?_⟩
  have s1 := s0.trans e1
  refine hK.out _ _ s1 (fun _ => ?_)
  clear hK K
  try simp only [sxA, sxB, sxC, Act.put, sxD, sxE, sxF]
  refine (hF.out _ _ _ _).1 ?_
  exact N1_13 b13 b14 b15 _ _ W1 _ (by first | rfl | kernel_rfl) (by first | rfl | kernel_rfl) (by (try simp only [sxA, sxB, sxC, Act.put, sxD, sxE, sxF]); first | done | with_reducible rfl | rfl) s1 (hid (b9.out.ext e1)) z9 (hid (b10.out.ext e1)) z10 n9_10 (hid (b11.out.ext e1)) z11 n9_11 n10_11
 have N1_22 : ∀ (f_ : Nat) (l_ : Array Bool) (W0 : World) (a_ : Act), f_ = 7 → l_ = #[true, true, true, true, true, true, true, true, false, false, false, false, false, false, false] → a_ = ({ tmps := #[yA,yB,yC,yD,yE,yF,yG,(.pointer (some ⟨B7, 0, none⟩)),yI,(.pointer (some ⟨B9, 0, none⟩)),yK,(.pointer (some ⟨B11, 0, none⟩)),yM,yN,yO,yP,yQ,yR,yS,yT,yU,yV,yW,yX,yY,yZ,zA,zB,zC,zD,zE,zF,zG,zH,zI,zJ,zK,zL,zM,zN,zO,zP,zQ,zR,zS,zT,zU,zV,zW,zX,zY,zZ,uA,uB,(.agg #[.int .i64 (fk 0), .int .i64 (fk 1), .int .i64 (fk 2)]),(.agg #[.int .i64 (fj 0), .int .i64 (fj 1), .int .i64 (fj 2)]),(.agg #[.int .i64 (crs fk fj 0), .int .i64 (crs fk fj 1), .int .i64 (crs fk fj 2)]),(.agg #[.int .i64 (fj 0), .int .i64 (fj 1), .int .i64 (fj 2)]),(.agg #[.int .i64 (fi 0), .int .i64 (fi 1), .int .i64 (fi 2)]),(.agg #[.int .i64 (crs fj fi 0), .int .i64 (crs fj fi 1), .int .i64 (crs fj fi 2)]),(.agg #[.int .i64 (fi 0), .int .i64 (fi 1), .int .i64 (fi 2)]),(.agg #[.int .i64 (fk 0), .int .i64 (fk 1), .int .i64 (fk 2)]),uK,uL,uM,uN,uO,uP,uQ,uR,uS,uT,uU,uV,uW,uX,uY,uZ,iA,iB,iC,iD,iE,iF,iG,iH,iI,iJ,iK,iL,iM,iN,iO,iP,iQ,iR,iS,iT,iU,iV,iW,iX,iY,iZ,oA,oB,oC,oD,oE,oF,oG,oH,oI,oJ,oK,oL,oM,oN,oO,oP,oQ,oR,oS,oT,oU,oV,oW,oX], defers := [] } : Act) → Ext w12 W0 → F f_ l_ a_ W0 := by
  intro  f_ l_ W0 a_ hf_ hl_ ha_ s0
  subst hf_ hl_ ha_
  refine (hF.out _ _ _ _).2 ?_
  clear N1_0 N1_1 N1_2 N1_3 N1_4 N1_5 N1_6 N1_7 N1_8 N1_9 N1_10 N1_11 N1_12 N1_13 N1_18 N1_19 N1_20 N1_21
  refine wpAnyH_ready (rs := [8, 9, 10, 11]) (by kernel_rfl) (by simp) ?_
  refine AllReadyH.cons (o := _) rfl (fun K hK => ?_) ?_
  ·skip
   refine tk_call (by kernel_rfl) (cross_any fi fk hi hk _) (by kernel_rfl) ?_; rintro e W1 ⟨rfl, e1⟩; refine ⟨_, rfl, ?_⟩
   have s1 := s0.trans e1
   refine hK.out _ _ s1 (fun _ => ?_)
   clear hK K
   try simp only [sxA, sxB, sxC, Act.put, sxD, sxE, sxF]
   refine (hF.out _ _ _ _).1 ?_
   exact N1_14 _ _ W1 _ (by first | rfl | kernel_rfl) (by first | rfl | kernel_rfl) (by (try simp only [sxA, sxB, sxC, Act.put, sxD, sxE, sxF]); first | done | with_reducible rfl | rfl) s1
  refine AllReadyH.cons (o := _) rfl (fun K hK => ?_) ?_
  ·skip
   go_simp
   refine hK.out _ _ (Ext.alloc s0 _) (fun _ => ?_)
   clear hK K
   try simp only [sxA, sxB, sxC, Act.put, sxD, sxE, sxF]
   refine name_any (fun W1 hW => ?_)
   have e1 : Ext W0 W1 := by rw [hW]; exact Ext.alloc (Ext.refl _) _
   have s1 := s0.trans e1
   have nb0 := hid (arr3_new hW)
   clear hW
   refine (hF.out _ _ _ _).1 ?_
   exact N1_15 W0.heap.size _ _ W1 _ (by first | rfl | kernel_rfl) (by first | rfl | kernel_rfl) (by (try simp only [sxA, sxB, sxC, Act.put, sxD, sxE, sxF]); first | done | with_reducible rfl | rfl) s1 nb0 (hid s0.size)
  refine AllReadyH.cons (o := _) rfl (fun K hK => ?_) ?_
  ·skip
   go_simp
   refine hK.out _ _ (Ext.alloc s0 _) (fun _ => ?_)
   clear hK K
   try simp only [sxA, sxB, sxC, Act.put, sxD, sxE, sxF]
   refine name_any (fun W1 hW => ?_)
   have e1 : Ext W0 W1 := by rw [hW]; exact Ext.alloc (Ext.refl _) _
   have s1 := s0.trans e1
   have nb0 := hid (arr3_new hW)
   clear hW
   refine (hF.out _ _ _ _).1 ?_
   exact N1_16 W0.heap.size _ _ W1 _ (by first | rfl | kernel_rfl) (by first | rfl | kernel_rfl) (by (try simp only [sxA, sxB, sxC, Act.put, sxD, sxE, sxF]); first | done | with_reducible rfl | rfl) s1 nb0 (hid s0.size)
  refine AllReadyH.cons (o := _) rfl (fun K hK => ?_) ?_
  ·skip
   go_simp
   refine hK.out _ _ (Ext.alloc s0 _) (fun _ => ?_)
   clear hK K
   try simp only [sxA, sxB, sxC, Act.put, sxD, sxE, sxF]
   refine name_any (fun W1 hW => ?_)
   have e1 : Ext W0 W1 := by rw [hW]; exact Ext.alloc (Ext.refl _) _
   have s1 := s0.trans e1
   have nb0 := hid (arr3_new hW)
   clear hW
   refine (hF.out _ _ _ _).1 ?_
   exact N1_17 W0.heap.size _ _ W1 _ (by first | rfl | kernel_rfl) (by first | rfl | kernel_rfl) (by (try simp only [sxA, sxB, sxC, Act.put, sxD, sxE, sxF]); first | done | with_reducible rfl | rfl) s1 nb0 (hid s0.size)
  exact AllReadyH.nil
 have N1_23 : ∀ (b13 : Nat) (f_ : Nat) (l_ : Array Bool) (W0 : World) (a_ : Act), f_ = 7 → l_ = #[true, true, true, true, true, false, true, true, false, true, false, false, false, false, false] → a_ = ({ tmps := #[yA,yB,yC,yD,yE,yF,yG,(.pointer (some ⟨B7, 0, none⟩)),yI,(.pointer (some ⟨B9, 0, none⟩)),yK,(.pointer (some ⟨B11, 0, none⟩)),yM,.pointer (some ⟨b13, 0, none⟩),yO,yP,yQ,yR,yS,yT,yU,yV,yW,yX,yY,yZ,zA,zB,zC,zD,zE,zF,zG,zH,zI,zJ,zK,zL,zM,zN,zO,zP,zQ,zR,zS,zT,zU,zV,zW,zX,zY,zZ,uA,uB,(.agg #[.int .i64 (fk 0), .int .i64 (fk 1), .int .i64 (fk 2)]),(.agg #[.int .i64 (fj 0), .int .i64 (fj 1), .int .i64 (fj 2)]),(.agg #[.int .i64 (crs fk fj 0), .int .i64 (crs fk fj 1), .int .i64 (crs fk fj 2)]),(.agg #[.int .i64 (fj 0), .int .i64 (fj 1), .int .i64 (fj 2)]),(.agg #[.int .i64 (fi 0), .int .i64 (fi 1), .int .i64 (fi 2)]),uH,(.agg #[.int .i64 (fi 0), .int .i64 (fi 1), .int .i64 (fi 2)]),(.agg #[.int .i64 (fk 0), .int .i64 (fk 1), .int .i64 (fk 2)]),uK,uL,uM,uN,uO,uP,uQ,uR,uS,uT,uU,uV,uW,uX,uY,uZ,iA,iB,iC,iD,iE,iF,iG,iH,iI,iJ,iK,iL,iM,iN,iO,iP,iQ,iR,iS,iT,iU,iV,iW,iX,iY,iZ,oA,oB,oC,oD,oE,oF,oG,oH,oI,oJ,oK,oL,oM,oN,oO,oP,oQ,oR,oS,oT,oU,oV,oW,oX], defers := [] } : Act) → Ext w12 W0 → Hid (Arr3 W0 b13 (fun _ => 0)) → Hid (w12.heap.size ≤ b13) → F f_ l_ a_ W0 := by
  intro b13 f_ l_ W0 a_ hf_ hl_ ha_ s0 b9 z9
  subst hf_ hl_ ha_
  refine (hF.out _ _ _ _).2 ?_
  clear N1_0 N1_1 N1_2 N1_3 N1_4 N1_5 N1_6 N1_7 N1_8 N1_9 N1_10 N1_11 N1_12 N1_13 N1_14 N1_16 N1_17 N1_20 N1_21 N1_22
  refine wpAnyH_ready (rs := [5, 10, 11]) (by kernel_rfl) (by simp) ?_
  refine AllReadyH.cons (o := _) rfl (fun K hK => ?_) ?_
  ·skip
   refine tk_call (by kernel_rfl) (cross_any fj fi hj hi _) (by kernel_rfl) ?_; rintro e W1 ⟨rfl, e1⟩; refine ⟨_, rfl, ?_⟩
   have s1 := s0.trans e1
   refine hK.out _ _ s1 (fun _ => ?_)
   clear hK K
   try simp only [sxA, sxB, sxC, Act.put, sxD, sxE, sxF]
   refine (hF.out _ _ _ _).1 ?_
   exact N1_15 b13 _ _ W1 _ (by first | rfl | kernel_rfl) (by first | rfl | kernel_rfl) (by (try simp only [sxA, sxB, sxC, Act.put, sxD, sxE, sxF]); first | done | with_reducible rfl | rfl) s1 (hid (b9.out.ext e1)) z9
  refine AllReadyH.cons (o := _) rfl (fun K hK => ?_) ?_
  ·skip
   go_simp
   refine hK.out _ _ (Ext.alloc s0 _) (fun _ => ?_)
   clear hK K
   try simp only [sxA, sxB, sxC, Act.put, sxD, sxE, sxF]
   refine name_any (fun W1 hW => ?_)
   have e1 : Ext W0 W1 := by rw [hW]; exact Ext.alloc (Ext.refl _) _
   have s1 := s0.trans e1
   have nb0 := hid (arr3_new hW)
   clear hW
   refine (hF.out _ _ _ _).1 ?_
   exact N1_18 b13 W0.heap.size _ _ W1 _ (by first | rfl | kernel_rfl) (by first | rfl | kernel_rfl) (by (try simp only [sxA, sxB, sxC, Act.put, sxD, sxE, sxF]); first | done | with_reducible rfl | rfl) s1 (hid (b9.out.ext e1)) z9 nb0 (hid s0.size) (hid (Nat.ne_of_lt b9.out.l))
  refine AllReadyH.cons (o := _) rfl (fun K hK => ?_) ?_
  ·skip
   go_simp
   refine hK.out _ _ (Ext.alloc s0 _) (fun _ => ?_)
   clear hK K
   try simp only [sxA, sxB, sxC, Act.put, sxD, sxE, sxF]
   refine name_any (fun W1 hW => ?_)
   have e1 : Ext W0 W1 := by rw [hW]; exact Ext.alloc (Ext.refl _) _
   have s1 := s0.trans e1
   have nb0 := hid (arr3_new hW)
   clear hW
   refine (hF.out _ _ _ _).1 ?_
   exact N1_19 b13 W0.heap.size _ _ W1 _ (by first | rfl | kernel_rfl) (by first | rfl | kernel_rfl) (by (try simp only [sxA, sxB, sxC, Act.put, sxD, sxE, sxF]); first | done | with_reducible rfl | rfl) s1 (hid (b9.out.ext e1)) z9 nb0 (hid s0.size) (hid (Nat.ne_of_lt b9.out.l))
  exact AllReadyH.nil
 have N1_24 : ∀ (b14 : Nat) (f_ : Nat) (l_ : Array Bool) (W0 : World) (a_ : Act), f_ = 7 → l_ = #[true, true, true, true, true, false, true, true, false, false, true, false, false, false, false] → a_ = ({ tmps := #[yA,yB,yC,yD,yE,yF,yG,(.pointer (some ⟨B7, 0, none⟩)),yI,(.pointer (some ⟨B9, 0, none⟩)),yK,(.pointer (some ⟨B11, 0, none⟩)),yM,yN,.pointer (some ⟨b14, 0, none⟩),yP,yQ,yR,yS,yT,yU,yV,yW,yX,yY,yZ,zA,zB,zC,zD,zE,zF,zG,zH,zI,zJ,zK,zL,zM,zN,zO,zP,zQ,zR,zS,zT,zU,zV,zW,zX,zY,zZ,uA,uB,(.agg #[.int .i64 (fk 0), .int .i64 (fk 1), .int .i64 (fk 2)]),(.agg #[.int .i64 (fj 0), .int .i64 (fj 1), .int .i64 (fj 2)]),(.agg #[.int .i64 (crs fk fj 0), .int .i64 (crs fk fj 1), .int .i64 (crs fk fj 2)]),(.agg #[.int .i64 (fj 0), .int .i64 (fj 1), .int .i64 (fj 2)]),(.agg #[.int .i64 (fi 0), .int .i64 (fi 1), .int .i64 (fi 2)]),uH,(.agg #[.int .i64 (fi 0), .int .i64 (fi 1), .int .i64 (fi 2)]),(.agg #[.int .i64 (fk 0), .int .i64 (fk 1), .int .i64 (fk 2)]),uK,uL,uM,uN,uO,uP,uQ,uR,uS,uT,uU,uV,uW,uX,uY,uZ,iA,iB,iC,iD,iE,iF,iG,iH,iI,iJ,iK,iL,iM,iN,iO,iP,iQ,iR,iS,iT,iU,iV,iW,iX,iY,iZ,oA,oB,oC,oD,oE,oF,oG,oH,oI,oJ,oK,oL,oM,oN,oO,oP,oQ,oR,oS,oT,oU,oV,oW,oX], defers := [] } : Act) → Ext w12 W0 → Hid (Arr3 W0 b14 (fun _ => 0)) → Hid (w12.heap.size ≤ b14) → F f_ l_ a_ W0 := by
  intro b14 f_ l_ W0 a_ hf_ hl_ ha_ s0 b10 z10
  subst hf_ hl_ ha_
  refine (hF.out _ _ _ _).2 ?_
  clear N1_0 N1_1 N1_2 N1_3 N1_4 N1_5 N1_6 N1_7 N1_8 N1_9 N1_10 N1_11 N1_12 N1_13 N1_14 N1_15 N1_17 N1_19 N1_21 N1_22 N1_23
  refine wpAnyH_ready (rs := [5, 9, 11]) (by kernel_rfl) (by simp) ?_
  refine AllReadyH.cons (o := _) rfl (fun K hK => ?_) ?_
  ·skip
   refine tk_call (by kernel_rfl) (cross_any fj fi hj hi _) (by kernel_rfl) ?_; rintro e W1 ⟨rfl, e1⟩; refine ⟨_, rfl, ?_⟩
   have s1 := s0.trans e1
   refine hK.out _ _ s1 (fun _ => ?_)
   clear hK K
   try simp only [sxA, sxB, sxC, Act.put, sxD, sxE, sxF]
   refine (hF.out _ _ _ _).1 ?_
   exact N1_16 b14 _ _ W1 _ (by first | rfl | kernel_rfl) (by first | rfl | kernel_rfl) (by (try simp only [sxA, sxB, sxC, Act.put, sxD, sxE, sxF]); first | done | with_reducible rfl | rfl) s1 (hid (b10.out.ext e1)) z10
  refine AllReadyH.cons (o := _) rfl (fun K hK => ?_) ?_
  ·skip
   go_simp
   refine hK.out _ _ (Ext.alloc s0 _) (fun _ => ?_)
   clear hK K
   try simp only [sxA, sxB, sxC, Act.put, sxD, sxE, sxF]
   refine name_any (fun W1 hW => ?_)
   have e1 : Ext W0 W1 := by rw [hW]; exact Ext.alloc (Ext.refl _) _
   have s1 := s0.trans e1
   have nb0 := hid (arr3_new hW)
   clear hW
   refine (hF.out _ _ _ _).1 ?_
   exact N1_18 W0.heap.size b14 _ _ W1 _ (by first | rfl | kernel_rfl) (by first | rfl | kernel_rfl) (by (try simp only [sxA, sxB, sxC, Act.put, sxD, sxE, sxF]); first | done | with_reducible rfl | rfl) s1 nb0 (hid s0.size) (hid (b10.out.ext e1)) z10 (hid (Nat.ne_of_gt b10.out.l))
  refine AllReadyH.cons (o := _) rfl (fun K hK => ?_) ?_
  ·skip
   go_simp
   refine hK.out _ _ (Ext.alloc s0 _) (fun _ => ?_)
   clear hK K
   try simp only [sxA, sxB, sxC, Act.put, sxD, sxE, sxF]
   refine name_any (fun W1 hW => ?_)
   have e1 : Ext W0 W1 := by rw [hW]; exact Ext.alloc (Ext.refl _) _
   have s1 := s0.trans e1
   have nb0 := hid (arr3_new hW)
   clear hW
   refine (hF.out _ _ _ _).1 ?_
   exact N1_20 b14 W0.heap.size _ _ W1 _ (by first | rfl | kernel_rfl) (by first | rfl | kernel_rfl) (by (try simp only [sxA, sxB, sxC, Act.put, sxD, sxE, sxF]); first | done | with_reducible rfl | rfl) s1 (hid (b10.out.ext e1)) z10 nb0 (hid s0.size) (hid (Nat.ne_of_lt b10.out.l))
  exact AllReadyH.nil
 have N1_25 : ∀ (b15 : Nat) (f_ : Nat) (l_ : Array Bool) (W0 : World) (a_ : Act), f_ = 7 → l_ = #[true, true, true, true, true, false, true, true, false, false, false, true, false, false, false] → a_ = ({ tmps := #[yA,yB,yC,yD,yE,yF,yG,(.pointer (some ⟨B7, 0, none⟩)),yI,(.pointer (some ⟨B9, 0, none⟩)),yK,(.pointer (some ⟨B11, 0, none⟩)),yM,yN,yO,.pointer (some ⟨b15, 0, none⟩),yQ,yR,yS,yT,yU,yV,yW,yX,yY,yZ,zA,zB,zC,zD,zE,zF,zG,zH,zI,zJ,zK,zL,zM,zN,zO,zP,zQ,zR,zS,zT,zU,zV,zW,zX,zY,zZ,uA,uB,(.agg #[.int .i64 (fk 0), .int .i64 (fk 1), .int .i64 (fk 2)]),(.agg #[.int .i64 (fj 0), .int .i64 (fj 1), .int .i64 (fj 2)]),(.agg #[.int .i64 (crs fk fj 0), .int .i64 (crs fk fj 1), .int .i64 (crs fk fj 2)]),(.agg #[.int .i64 (fj 0), .int .i64 (fj 1), .int .i64 (fj 2)]),(.agg #[.int .i64 (fi 0), .int .i64 (fi 1), .int .i64 (fi 2)]),uH,(.agg #[.int .i64 (fi 0), .int .i64 (fi 1), .int .i64 (fi 2)]),(.agg #[.int .i64 (fk 0), .int .i64 (fk 1), .int .i64 (fk 2)]),uK,uL,uM,uN,uO,uP,uQ,uR,uS,uT,uU,uV,uW,uX,uY,uZ,iA,iB,iC,iD,iE,iF,iG,iH,iI,iJ,iK,iL,iM,iN,iO,iP,iQ,iR,iS,iT,iU,iV,iW,iX,iY,iZ,oA,oB,oC,oD,oE,oF,oG,oH,oI,oJ,oK,oL,oM,oN,oO,oP,oQ,oR,oS,oT,oU,oV,oW,oX], defers := [] } : Act) → Ext w12 W0 → Hid (Arr3 W0 b15 (fun _ => 0)) → Hid (w12.heap.size ≤ b15) → F f_ l_ a_ W0 := by
  intro b15 f_ l_ W0 a_ hf_ hl_ ha_ s0 b11 z11
  subst hf_ hl_ ha_
  refine (hF.out _ _ _ _).2 ?_
  clear N1_0 N1_1 N1_2 N1_3 N1_4 N1_5 N1_6 N1_7 N1_8 N1_9 N1_10 N1_11 N1_12 N1_13 N1_14 N1_15 N1_16 N1_18 N1_21 N1_22 N1_23 N1_24
  refine wpAnyH_ready (rs := [5, 9, 10]) (by kernel_rfl) (by simp) ?_
  refine AllReadyH.cons (o := _) rfl (fun K hK => ?_) ?_
  ·skip
   refine tk_call (by kernel_rfl) (cross_any fj fi hj hi _) (by kernel_rfl) ?_; rintro e W1 ⟨rfl, e1⟩; refine ⟨_, rfl, ?_⟩
   have s1 := s0.trans e1
   refine hK.out _ _ s1 (fun _ => ?_)
   clear hK K
   try simp only [sxA, sxB, sxC, Act.put, sxD, sxE, sxF]
   refine (hF.out _ _ _ _).1 ?_
   exact N1_17 b15 _ _ W1 _ (by first | rfl | kernel_rfl) (by first | rfl | kernel_rfl) (by (try simp only [sxA, sxB, sxC, Act.put, sxD, sxE, sxF]); first | done | with_reducible rfl | rfl) s1 (hid (b11.out.ext e1)) z11
  refine AllReadyH.cons (o := _) rfl (fun K hK => ?_) ?_
  ·skip
   go_simp
   refine hK.out _ _ (Ext.alloc s0 _) (fun _ => ?_)
   clear hK K
   try simp only [sxA, sxB, sxC, Act.put, sxD, sxE, sxF]
   refine name_any (fun W1 hW => ?_)
   have e1 : Ext W0 W1 := by rw [hW]; exact Ext.alloc (Ext.refl _) _
   have s1 := s0.trans e1
   have nb0 := hid (arr3_new hW)
   clear hW
   refine (hF.out _ _ _ _).1 ?_
   exact N1_19 W0.heap.size b15 _ _ W1 _ (by first | rfl | kernel_rfl) (by first | rfl | kernel_rfl) (by (try simp only [sxA, sxB, sxC, Act.put, sxD, sxE, sxF]); first | done | with_reducible rfl | rfl) s1 nb0 (hid s0.size) (hid (b11.out.ext e1)) z11 (hid (Nat.ne_of_gt b11.out.l))
  refine AllReadyH.cons (o := _) rfl (fun K hK => ?_) ?_
  ·skip
   go_simp
   refine hK.out _ _ (Ext.alloc s0 _) (fun _ => ?_)
   clear hK K
   try simp only [sxA, sxB, sxC, Act.put, sxD, sxE, sxF]
   refine name_any (fun W1 hW => ?_)
   have e1 : Ext W0 W1 := by rw [hW]; exact Ext.alloc (Ext.refl _) _
   have s1 := s0.trans e1
   have nb0 := hid (arr3_new hW)
   clear hW
   refine (hF.out _ _ _ _).1 ?_
   exact N1_20 W0.heap.size b15 _ _ W1 _ (by first | rfl | kernel_rfl) (by first | rfl | kernel_rfl) (by (try simp only [sxA, sxB, sxC, Act.put, sxD, sxE, sxF]); first | done | with_reducible rfl | rfl) s1 nb0 (hid s0.size) (hid (b11.out.ext e1)) z11 (hid (Nat.ne_of_gt b11.out.l))
  exact AllReadyH.nil
 have N1_26 : ∀ (b13 : Nat) (b14 : Nat) (f_ : Nat) (l_ : Array Bool) (W0 : World) (a_ : Act), f_ = 7 → l_ = #[true, true, false, true, true, false, true, true, false, true, true, false, false, false, false] → a_ = ({ tmps := #[yA,yB,yC,yD,yE,yF,yG,(.pointer (some ⟨B7, 0, none⟩)),yI,(.pointer (some ⟨B9, 0, none⟩)),yK,(.pointer (some ⟨B11, 0, none⟩)),yM,.pointer (some ⟨b13, 0, none⟩),.pointer (some ⟨b14, 0, none⟩),yP,yQ,yR,yS,yT,yU,yV,yW,yX,yY,yZ,zA,zB,zC,zD,zE,zF,zG,zH,zI,zJ,zK,zL,zM,zN,zO,zP,zQ,zR,zS,zT,zU,zV,zW,zX,zY,zZ,uA,uB,(.agg #[.int .i64 (fk 0), .int .i64 (fk 1), .int .i64 (fk 2)]),(.agg #[.int .i64 (fj 0), .int .i64 (fj 1), .int .i64 (fj 2)]),uE,(.agg #[.int .i64 (fj 0), .int .i64 (fj 1), .int .i64 (fj 2)]),(.agg #[.int .i64 (fi 0), .int .i64 (fi 1), .int .i64 (fi 2)]),uH,(.agg #[.int .i64 (fi 0), .int .i64 (fi 1), .int .i64 (fi 2)]),(.agg #[.int .i64 (fk 0), .int .i64 (fk 1), .int .i64 (fk 2)]),uK,uL,uM,uN,uO,uP,uQ,uR,uS,uT,uU,uV,uW,uX,uY,uZ,iA,iB,iC,iD,iE,iF,iG,iH,iI,iJ,iK,iL,iM,iN,iO,iP,iQ,iR,iS,iT,iU,iV,iW,iX,iY,iZ,oA,oB,oC,oD,oE,oF,oG,oH,oI,oJ,oK,oL,oM,oN,oO,oP,oQ,oR,oS,oT,oU,oV,oW,oX], defers := [] } : Act) → Ext w12 W0 → Hid (Arr3 W0 b13 (fun _ => 0)) → Hid (w12.heap.size ≤ b13) → Hid (Arr3 W0 b14 (fun _ => 0)) → Hid (w12.heap.size ≤ b14) → Hid (b13 ≠ b14) → F f_ l_ a_ W0 := by
  intro b13 b14 f_ l_ W0 a_ hf_ hl_ ha_ s0 b9 z9 b10 z10 n9_10
  subst hf_ hl_ ha_
  refine (hF.out _ _ _ _).2 ?_
  clear N1_0 N1_1 N1_2 N1_3 N1_4 N1_5 N1_6 N1_7 N1_8 N1_9 N1_10 N1_11 N1_12 N1_13 N1_14 N1_15 N1_16 N1_17 N1_19 N1_20 N1_22 N1_23 N1_24 N1_25
  refine wpAnyH_ready (rs := [2, 11]) (by kernel_rfl) (by simp) ?_
  refine AllReadyH.cons (o := _) rfl (fun K hK => ?_) ?_
  ·skip
   refine tk_call (by kernel_rfl) (cross_any fk fj hk hj _) (by kernel_rfl) ?_; rintro e W1 ⟨rfl, e1⟩; refine ⟨_, rfl, ?_⟩
   have s1 := s0.trans e1
   refine hK.out _ _ s1 (fun _ => ?_)
   clear hK K
   try simp only [sxA, sxB, sxC, Act.put, sxD, sxE, sxF]
   refine (hF.out _ _ _ _).1 ?_
   exact N1_18 b13 b14 _ _ W1 _ (by first | rfl | kernel_rfl) (by first | rfl | kernel_rfl) (by (try simp only [sxA, sxB, sxC, Act.put, sxD, sxE, sxF]); first | done | with_reducible rfl | rfl) s1 (hid (b9.out.ext e1)) z9 (hid (b10.out.ext e1)) z10 n9_10
  refine AllReadyH.cons (o := _) rfl (fun K hK => ?_) ?_
  ·skip
   go_simp
   refine hK.out _ _ (Ext.alloc s0 _) (fun _ => ?_)
   clear hK K
   try simp only [sxA, sxB, sxC, Act.put, sxD, sxE, sxF]
   refine name_any (fun W1 hW => ?_)
   have e1 : Ext W0 W1 := by rw [hW]; exact Ext.alloc (Ext.refl _) _
   have s1 := s0.trans e1
   have nb0 := hid (arr3_new hW)
   clear hW
   refine (hF.out _ _ _ _).1 ?_
   exact N1_21 b13 b14 W0.heap.size _ _ W1 _ (by first | rfl | kernel_rfl) (by first | rfl | kernel_rfl) (by (try simp only [sxA, sxB, sxC, Act.put, sxD, sxE, sxF]); first | done | with_reducible rfl | rfl) s1 (hid (b9.out.ext e1)) z9 (hid (b10.out.ext e1)) z10 n9_10 nb0 (hid s0.size) (hid (Nat.ne_of_lt b9.out.l)) (hid (Nat.ne_of_lt b10.out.l))
  exact AllReadyH.nil
 have N1_27 : ∀ (b13 : Nat) (b15 : Nat) (f_ : Nat) (l_ : Array Bool) (W0 : World) (a_ : Act), f_ = 7 → l_ = #[true, true, false, true, true, false, true, true, false, true, false, true, false, false, false] → a_ = ({ tmps := #[yA,yB,yC,yD,yE,yF,yG,(.pointer (some ⟨B7, 0, none⟩)),yI,(.pointer (some ⟨B9, 0, none⟩)),yK,(.pointer (some ⟨B11, 0, none⟩)),yM,.pointer (some ⟨b13, 0, none⟩),yO,.pointer (some ⟨b15, 0, none⟩),yQ,yR,yS,yT,yU,yV,yW,yX,yY,yZ,zA,zB,zC,zD,zE,zF,zG,zH,zI,zJ,zK,zL,zM,zN,zO,zP,zQ,zR,zS,zT,zU,zV,zW,zX,zY,zZ,uA,uB,(.agg #[.int .i64 (fk 0), .int .i64 (fk 1), .int .i64 (fk 2)]),(.agg #[.int .i64 (fj 0), .int .i64 (fj 1), .int .i64 (fj 2)]),uE,(.agg #[.int .i64 (fj 0), .int .i64 (fj 1), .int .i64 (fj 2)]),(.agg #[.int .i64 (fi 0), .int .i64 (fi 1), .int .i64 (fi 2)]),uH,(.agg #[.int .i64 (fi 0), .int .i64 (fi 1), .int .i64 (fi 2)]),(.agg #[.int .i64 (fk 0), .int .i64 (fk 1), .int .i64 (fk 2)]),uK,uL,uM,uN,uO,uP,uQ,uR,uS,uT,uU,uV,uW,uX,uY,uZ,iA,iB,iC,iD,iE,iF,iG,iH,iI,iJ,iK,iL,iM,iN,iO,iP,iQ,iR,iS,iT,iU,iV,iW,iX,iY,iZ,oA,oB,oC,oD,oE,oF,oG,oH,oI,oJ,oK,oL,oM,oN,oO,oP,oQ,oR,oS,oT,oU,oV,oW,oX], defers := [] } : Act) → Ext w12 W0 → Hid (Arr3 W0 b13 (fun _ => 0)) → Hid (w12.heap.size ≤ b13) → Hid (Arr3 W0 b15 (fun _ => 0)) → Hid (w12.heap.size ≤ b15) → Hid (b13 ≠ b15) → F f_ l_ a_ W0 := by
  intro b13 b15 f_ l_ W0 a_ hf_ hl_ ha_ s0 b9 z9 b11 z11 n9_11
  subst hf_ hl_ ha_
  refine (hF.out _ _ _ _).2 ?_
  clear N1_0 N1_1 N1_2 N1_3 N1_4 N1_5 N1_6 N1_7 N1_8 N1_9 N1_10 N1_11 N1_12 N1_13 N1_14 N1_15 N1_16 N1_17 N1_18 N1_20 N1_22 N1_23 N1_24 N1_25 N1_26
  refine wpAnyH_ready (rs := [2, 10]) (by kernel_rfl) (by simp) ?_
  refine AllReadyH.cons (o := _) rfl (fun K hK => ?_) ?_
  ·skip
   refine tk_call (by kernel_rfl) (cross_any fk fj hk hj _) (by kernel_rfl) ?_; rintro e W1 ⟨rfl, e1⟩; refine ⟨_, rfl, ?_⟩
   have s1 := s0.trans e1
   refine hK.out _ _ s1 (fun _ => ?_)
   clear hK K
   try simp only [sxA, sxB, sxC, Act.put, sxD, sxE, sxF]
   refine (hF.out _ _ _ _).1 ?_
   exact N1_19 b13 b15 _ _ W1 _ (by first | rfl | kernel_rfl) (by first | rfl | kernel_rfl) (by (try simp only [sxA, sxB, sxC, Act.put, sxD, sxE, sxF]); first | done | with_reducible rfl | rfl) s1 (hid (b9.out.ext e1)) z9 (hid (b11.out.ext e1)) z11 n9_11
  refine AllReadyH.cons (o := _) rfl (fun K hK => ?_) ?_
  ·skip
   go_simp
   refine hK.out _ _ (Ext.alloc s0 _) (fun _ => ?_)
   clear hK K
   try simp only [sxA, sxB, sxC, Act.put, sxD, sxE, sxF]
   refine name_any (fun W1 hW => ?_)
   have e1 : Ext W0 W1 := by rw [hW]; exact Ext.alloc (Ext.refl _) _
   have s1 := s0.trans e1
   have nb0 := hid (arr3_new hW)
   clear hW
   refine (hF.out _ _ _ _).1 ?_
   exact N1_21 b13 W0.heap.size b15 _ _ W1 _ (by first | rfl | kernel_rfl) (by first | rfl | kernel_rfl) (by (try simp only [sxA, sxB, sxC, Act.put, sxD, sxE, sxF]); first | done | with_reducible rfl | rfl) s1 (hid (b9.out.ext e1)) z9 nb0 (hid s0.size) (hid (Nat.ne_of_lt b9.out.l)) (hid (b11.out.ext e1)) z11 n9_11 (hid (Nat.ne_of_gt b11.out.l))
  exact AllReadyH.nil
 have N1_28 : ∀ (b14 : Nat) (b15 : Nat) (f_ : Nat) (l_ : Array Bool) (W0 : World) (a_ : Act), f_ = 7 → l_ = #[true, true, false, true, true, false, true, true, false, false, true, true, false, false, false] → a_ = ({ tmps := #[yA,yB,yC,yD,yE,yF,yG,(.pointer (some ⟨B7, 0, none⟩)),yI,(.pointer (some ⟨B9, 0, none⟩)),yK,(.pointer (some ⟨B11, 0, none⟩)),yM,yN,.pointer (some ⟨b14, 0, none⟩),.pointer (some ⟨b15, 0, none⟩),yQ,yR,yS,yT,yU,yV,yW,yX,yY,yZ,zA,zB,zC,zD,zE,zF,zG,zH,zI,zJ,zK,zL,zM,zN,zO,zP,zQ,zR,zS,zT,zU,zV,zW,zX,zY,zZ,uA,uB,(.agg #[.int .i64 (fk 0), .int .i64 (fk 1), .int .i64 (fk 2)]),(.agg #[.int .i64 (fj 0), .int .i64 (fj 1), .int .i64 (fj 2)]),uE,(.agg #[.int .i64 (fj 0), .int .i64 (fj 1), .int .i64 (fj 2)]),(.agg #[.int .i64 (fi 0), .int .i64 (fi 1), .int .i64 (fi 2)]),uH,(.agg #[.int .i64 (fi 0), .int .i64 (fi 1), .int .i64 (fi 2)]),(.agg #[.int .i64 (fk 0), .int .i64 (fk 1), .int .i64 (fk 2)]),uK,uL,uM,uN,uO,uP,uQ,uR,uS,uT,uU,uV,uW,uX,uY,uZ,iA,iB,iC,iD,iE,iF,iG,iH,iI,iJ,iK,iL,iM,iN,iO,iP,iQ,iR,iS,iT,iU,iV,iW,iX,iY,iZ,oA,oB,oC,oD,oE,oF,oG,oH,oI,oJ,oK,oL,oM,oN,oO,oP,oQ,oR,oS,oT,oU,oV,oW,oX], defers := [] } : Act) → Ext w12 W0 → Hid (Arr3 W0 b14 (fun _ => 0)) → Hid (w12.heap.size ≤ b14) → Hid (Arr3 W0 b15 (fun _ => 0)) → Hid (w12.heap.size ≤ b15) → Hid (b14 ≠ b15) → F f_ l_ a_ W0 := by
  intro b14 b15 f_ l_ W0 a_ hf_ hl_ ha_ s0 b10 z10 b11 z11 n10_11
  subst hf_ hl_ ha_
  refine (hF.out _ _ _ _).2 ?_
  clear N1_0 N1_1 N1_2 N1_3 N1_4 N1_5 N1_6 N1_7 N1_8 N1_9 N1_10 N1_11 N1_12 N1_13 N1_14 N1_15 N1_16 N1_17 N1_18 N1_19 N1_22 N1_23 N1_24 N1_25 N1_26 N1_27
  refine wpAnyH_ready (rs := [2, 9]) (by kernel_rfl) (by simp) ?_
  refine AllReadyH.cons (o := _) rfl (fun K hK => ?_) ?_
  ·skip
   refine tk_call (by kernel_rfl) (cross_any fk fj hk hj _) (by kernel_rfl) ?_; rintro e W1 ⟨rfl, e1⟩; refine ⟨_, rfl, ?_⟩
   have s1 := s0.trans e1
   refine hK.out _ _ s1 (fun _ => ?_)
   clear hK K
   try simp only [sxA, sxB, sxC, Act.put, sxD, sxE, sxF]
   refine (hF.out _ _ _ _).1 ?_
   exact N1_20 b14 b15 _ _ W1 _ (by first | rfl | kernel_rfl) (by first | rfl | kernel_rfl) (by (try simp only [sxA, sxB, sxC, Act.put, sxD, sxE, sxF]); first | done | with_reducible rfl | rfl) s1 (hid (b10.out.ext e1)) z10 (hid (b11.out.ext e1)) z11 n10_11
  refine AllReadyH.cons (o := _) rfl (fun K hK => ?_) ?_
  ·skip
   go_simp
   refine hK.out _ _ (Ext.alloc s0 _) (fun _ => ?_)
   clear hK K
   try simp only [sxA, sxB, sxC, Act.put, sxD, sxE, sxF]
   refine name_any (fun W1 hW => ?_)
   have e1 : Ext W0 W1 := by rw [hW]; exact Ext.alloc (Ext.refl _) _
   have s1 := s0.trans e1
   have nb0 := hid (arr3_new hW)
   clear hW
   refine (hF.out _ _ _ _).1 ?_
   exact N1_21 W0.heap.size b14 b15 _ _ W1 _ (by first | rfl | kernel_rfl) (by first | rfl | kernel_rfl) (by (try simp only [sxA, sxB, sxC, Act.put, sxD, sxE, sxF]); first | done | with_reducible rfl | rfl) s1 nb0 (hid s0.size) (hid (b10.out.ext e1)) z10 (hid (Nat.ne_of_gt b10.out.l)) (hid (b11.out.ext e1)) z11 (hid (Nat.ne_of_gt b11.out.l)) n10_11
  exact AllReadyH.nil
 have N1_29 : ∀ (f_ : Nat) (l_ : Array Bool) (W0 : World) (a_ : Act), f_ = 8 → l_ = #[true, true, true, true, true, false, true, true, false, false, false, false, false, false, false] → a_ = ({ tmps := #[yA,yB,yC,yD,yE,yF,yG,(.pointer (some ⟨B7, 0, none⟩)),yI,(.pointer (some ⟨B9, 0, none⟩)),yK,(.pointer (some ⟨B11, 0, none⟩)),yM,yN,yO,yP,yQ,yR,yS,yT,yU,yV,yW,yX,yY,yZ,zA,zB,zC,zD,zE,zF,zG,zH,zI,zJ,zK,zL,zM,zN,zO,zP,zQ,zR,zS,zT,zU,zV,zW,zX,zY,zZ,uA,uB,(.agg #[.int .i64 (fk 0), .int .i64 (fk 1), .int .i64 (fk 2)]),(.agg #[.int .i64 (fj 0), .int .i64 (fj 1), .int .i64 (fj 2)]),(.agg #[.int .i64 (crs fk fj 0), .int .i64 (crs fk fj 1), .int .i64 (crs fk fj 2)]),(.agg #[.int .i64 (fj 0), .int .i64 (fj 1), .int .i64 (fj 2)]),(.agg #[.int .i64 (fi 0), .int .i64 (fi 1), .int .i64 (fi 2)]),uH,(.agg #[.int .i64 (fi 0), .int .i64 (fi 1), .int .i64 (fi 2)]),(.agg #[.int .i64 (fk 0), .int .i64 (fk 1), .int .i64 (fk 2)]),uK,uL,uM,uN,uO,uP,uQ,uR,uS,uT,uU,uV,uW,uX,uY,uZ,iA,iB,iC,iD,iE,iF,iG,iH,iI,iJ,iK,iL,iM,iN,iO,iP,iQ,iR,iS,iT,iU,iV,iW,iX,iY,iZ,oA,oB,oC,oD,oE,oF,oG,oH,oI,oJ,oK,oL,oM,oN,oO,oP,oQ,oR,oS,oT,oU,oV,oW,oX], defers := [] } : Act) → Ext w12 W0 → F f_ l_ a_ W0 := by
  intro  f_ l_ W0 a_ hf_ hl_ ha_ s0
  subst hf_ hl_ ha_
  refine (hF.out _ _ _ _).2 ?_
  clear N1_0 N1_1 N1_2 N1_3 N1_4 N1_5 N1_6 N1_7 N1_8 N1_9 N1_10 N1_11 N1_12 N1_13 N1_14 N1_15 N1_16 N1_17 N1_18 N1_19 N1_20 N1_21 N1_26 N1_27 N1_28
  refine wpAnyH_ready (rs := [5, 9, 10, 11]) (by kernel_rfl) (by simp) ?_
  refine AllReadyH.cons (o := _) rfl (fun K hK => ?_) ?_
  ·skip
   refine tk_call (by kernel_rfl) (cross_any fj fi hj hi _) (by kernel_rfl) ?_; rintro e W1 ⟨rfl, e1⟩; refine ⟨_, rfl, ?_⟩
   have s1 := s0.trans e1
   refine hK.out _ _ s1 (fun _ => ?_)
   clear hK K
   try simp only [sxA, sxB, sxC, Act.put, sxD, sxE, sxF]
   refine (hF.out _ _ _ _).1 ?_
   exact N1_22 _ _ W1 _ (by first | rfl | kernel_rfl) (by first | rfl | kernel_rfl) (by (try simp only [sxA, sxB, sxC, Act.put, sxD, sxE, sxF]); first | done | with_reducible rfl | rfl) s1
  refine AllReadyH.cons (o := _) rfl (fun K hK => ?_) ?_
  ·skip
   go_simp
   refine hK.out _ _ (Ext.alloc s0 _) (fun _ => ?_)
   clear hK K
   try simp only [sxA, sxB, sxC, Act.put, sxD, sxE, sxF]
   refine name_any (fun W1 hW => ?_)
   have e1 : Ext W0 W1 := by rw [hW]; exact Ext.alloc (Ext.refl _) _
   have s1 := s0.trans e1
   have nb0 := hid (arr3_new hW)
   clear hW
   refine (hF.out _ _ _ _).1 ?_
   exact N1_23 W0.heap.size _ _ W1 _ (by first | rfl | kernel_rfl) (by first | rfl | kernel_rfl) (by (try simp only [sxA, sxB, sxC, Act.put, sxD, sxE, sxF]); first | done | with_reducible rfl | rfl) s1 nb0 (hid s0.size)
  refine AllReadyH.cons (o := _) rfl (fun K hK => ?_) ?_
  ·skip
   go_simp
   refine hK.out _ _ (Ext.alloc s0 _) (fun _ => ?_)
   clear hK K
   try simp only [sxA, sxB, sxC, Act.put, sxD, sxE, sxF]
   refine name_any (fun W1 hW => ?_)
   have e1 : Ext W0 W1 := by rw [hW]; exact Ext.alloc (Ext.refl _) _
   have s1 := s0.trans e1
   have nb0 := hid (arr3_new hW)
   clear hW
   refine (hF.out _ _ _ _).1 ?_
   exact N1_24 W0.heap.size _ _ W1 _ (by first | rfl | kernel_rfl) (by first | rfl | kernel_rfl) (by (try simp only [sxA, sxB, sxC, Act.put, sxD, sxE, sxF]); first | done | with_reducible rfl | rfl) s1 nb0 (hid s0.size)
  refine AllReadyH.cons (o := _) rfl (fun K hK => ?_) ?_
  ·skip
   go_simp
   refine hK.out _ _ (Ext.alloc s0 _) (fun _ => ?_)
   clear hK K
   try simp only [sxA, sxB, sxC, Act.put, sxD, sxE, sxF]
   refine name_any (fun W1 hW => ?_)
   have e1 : Ext W0 W1 := by rw [hW]; exact Ext.alloc (Ext.refl _) _
   have s1 := s0.trans e1
   have nb0 := hid (arr3_new hW)
   clear hW
   refine (hF.out _ _ _ _).1 ?_
   exact N1_25 W0.heap.size _ _ W1 _ (by first | rfl | kernel_rfl) (by first | rfl | kernel_rfl) (by (try simp only [sxA, sxB, sxC, Act.put, sxD, sxE, sxF]); first | done | with_reducible rfl | rfl) s1 nb0 (hid s0.size)
  exact AllReadyH.nil
 have N1_30 : ∀ (b13 : Nat) (f_ : Nat) (l_ : Array Bool) (W0 : World) (a_ : Act), f_ = 8 → l_ = #[true, true, false, true, true, false, true, true, false, true, false, false, false, false, false] → a_ = ({ tmps := #[yA,yB,yC,yD,yE,yF,yG,(.pointer (some ⟨B7, 0, none⟩)),yI,(.pointer (some ⟨B9, 0, none⟩)),yK,(.pointer (some ⟨B11, 0, none⟩)),yM,.pointer (some ⟨b13, 0, none⟩),yO,yP,yQ,yR,yS,yT,yU,yV,yW,yX,yY,yZ,zA,zB,zC,zD,zE,zF,zG,zH,zI,zJ,zK,zL,zM,zN,zO,zP,zQ,zR,zS,zT,zU,zV,zW,zX,zY,zZ,uA,uB,(.agg #[.int .i64 (fk 0), .int .i64 (fk 1), .int .i64 (fk 2)]),(.agg #[.int .i64 (fj 0), .int .i64 (fj 1), .int .i64 (fj 2)]),uE,(.agg #[.int .i64 (fj 0), .int .i64 (fj 1), .int .i64 (fj 2)]),(.agg #[.int .i64 (fi 0), .int .i64 (fi 1), .int .i64 (fi 2)]),uH,(.agg #[.int .i64 (fi 0), .int .i64 (fi 1), .int .i64 (fi 2)]),(.agg #[.int .i64 (fk 0), .int .i64 (fk 1), .int .i64 (fk 2)]),uK,uL,uM,uN,uO,uP,uQ,uR,uS,uT,uU,uV,uW,uX,uY,uZ,iA,iB,iC,iD,iE,iF,iG,iH,iI,iJ,iK,iL,iM,iN,iO,iP,iQ,iR,iS,iT,iU,iV,iW,iX,iY,iZ,oA,oB,oC,oD,oE,oF,oG,oH,oI,oJ,oK,oL,oM,oN,oO,oP,oQ,oR,oS,oT,oU,oV,oW,oX], defers := [] } : Act) → Ext w12 W0 → Hid (Arr3 W0 b13 (fun _ => 0)) → Hid (w12.heap.size ≤ b13) → F f_ l_ a_ W0 := by
  intro b13 f_ l_ W0 a_ hf_ hl_ ha_ s0 b9 z9
  subst hf_ hl_ ha_
  refine (hF.out _ _ _ _).2 ?_
  clear N1_0 N1_1 N1_2 N1_3 N1_4 N1_5 N1_6 N1_7 N1_8 N1_9 N1_10 N1_11 N1_12 N1_13 N1_14 N1_15 N1_16 N1_17 N1_18 N1_19 N1_20 N1_21 N1_22 N1_24 N1_25 N1_28 N1_29
  refine wpAnyH_ready (rs := [2, 10, 11]) (by kernel_rfl) (by simp) ?_
  refine AllReadyH.cons (o := _) rfl (fun K hK => ?_) ?_
  ·skip
   refine tk_call (by kernel_rfl) (cross_any fk fj hk hj _) (by kernel_rfl) ?_; rintro e W1 ⟨rfl, e1⟩; refine ⟨_, rfl, ?_⟩
   have s1 := s0.trans e1
   refine hK.out _ _ s1 (fun _ => ?_)
   clear hK K
   try simp only [sxA, sxB, sxC, Act.put, sxD, sxE, sxF]
   refine (hF.out _ _ _ _).1 ?_
   exact N1_23 b13 _ _ W1 _ (by first | rfl | kernel_rfl) (by first | rfl | kernel_rfl) (by (try simp only [sxA, sxB, sxC, Act.put, sxD, sxE, sxF]); first | done | with_reducible rfl | rfl) s1 (hid (b9.out.ext e1)) z9
  refine AllReadyH.cons (o := _) rfl (fun K hK => ?_) ?_
  ·skip
   go_simp
   refine hK.out _ _ (Ext.alloc s0 _) (fun _ => ?_)
   clear hK K
   try simp only [sxA, sxB, sxC, Act.put, sxD, sxE, sxF]
   refine name_any (fun W1 hW => ?_)
   have e1 : Ext W0 W1 := by rw [hW]; exact Ext.alloc (Ext.refl _) _
   have s1 := s0.trans e1
   have nb0 := hid (arr3_new hW)
   clear hW
   refine (hF.out _ _ _ _).1 ?_
   exact N1_26 b13 W0.heap.size _ _ W1 _ (by first | rfl | kernel_rfl) (by first | rfl | kernel_rfl) (by (try simp only [sxA, sxB, sxC, Act.put, sxD, sxE, sxF]); first | done | with_reducible rfl | rfl) s1 (hid (b9.out.ext e1)) z9 nb0 (hid s0.size) (hid (Nat.ne_of_lt b9.out.l))
  refine AllReadyH.cons (o := _) rfl (fun K hK => ?_) ?_
  ·skip
   go_simp
   refine hK.out _ _ (Ext.alloc s0 _) (fun _ => ?_)
   clear hK K
   try simp only [sxA, sxB, sxC, Act.put, sxD, sxE, sxF]
   refine name_any (fun W1 hW => ?_)
   have e1 : Ext W0 W1 := by rw [hW]; exact Ext.alloc (Ext.refl _) _
   have s1 := s0.trans e1
   have nb0 := hid (arr3_new hW)
   clear hW
   refine (hF.out _ _ _ _).1 ?_
   exact N1_27 b13 W0.heap.size _ _ W1 _ (by first | rfl | kernel_rfl) (by first | rfl | kernel_rfl) (by (try simp only [sxA, sxB, sxC, Act.put, sxD, sxE, sxF]); first | done | with_reducible rfl | rfl) s1 (hid (b9.out.ext e1)) z9 nb0 (hid s0.size) (hid (Nat.ne_of_lt b9.out.l))
  exact AllReadyH.nil
 have N1_31 : ∀ (b14 : Nat) (f_ : Nat) (l_ : Array Bool) (W0 : World) (a_ : Act), f_ = 8 → l_ = #[true, true, false, true, true, false, true, true, false, false, true, false, false, false, false] → a_ = ({ tmps := #[yA,yB,yC,yD,yE,yF,yG,(.pointer (some ⟨B7, 0, none⟩)),yI,(.pointer (some ⟨B9, 0, none⟩)),yK,(.pointer (some ⟨B11, 0, none⟩)),yM,yN,.pointer (some ⟨b14, 0, none⟩),yP,yQ,yR,yS,yT,yU,yV,yW,yX,yY,yZ,zA,zB,zC,zD,zE,zF,zG,zH,zI,zJ,zK,zL,zM,zN,zO,zP,zQ,zR,zS,zT,zU,zV,zW,zX,zY,zZ,uA,uB,(.agg #[.int .i64 (fk 0), .int .i64 (fk 1), .int .i64 (fk 2)]),(.agg #[.int .i64 (fj 0), .int .i64 (fj 1), .int .i64 (fj 2)]),uE,(.agg #[.int .i64 (fj 0), .int .i64 (fj 1), .int .i64 (fj 2)]),(.agg #[.int .i64 (fi 0), .int .i64 (fi 1), .int .i64 (fi 2)]),uH,(.agg #[.int .i64 (fi 0), .int .i64 (fi 1), .int .i64 (fi 2)]),(.agg #[.int .i64 (fk 0), .int .i64 (fk 1), .int .i64 (fk 2)]),uK,uL,uM,uN,uO,uP,uQ,uR,uS,uT,uU,uV,uW,uX,uY,uZ,iA,iB,iC,iD,iE,iF,iG,iH,iI,iJ,iK,iL,iM,iN,iO,iP,iQ,iR,iS,iT,iU,iV,iW,iX,iY,iZ,oA,oB,oC,oD,oE,oF,oG,oH,oI,oJ,oK,oL,oM,oN,oO,oP,oQ,oR,oS,oT,oU,oV,oW,oX], defers := [] } : Act) → Ext w12 W0 → Hid (Arr3 W0 b14 (fun _ => 0)) → Hid (w12.heap.size ≤ b14) → F f_ l_ a_ W0 := by
  intro b14 f_ l_ W0 a_ hf_ hl_ ha_ s0 b10 z10
  subst hf_ hl_ ha_
  refine (hF.out _ _ _ _).2 ?_
  clear N1_0 N1_1 N1_2 N1_3 N1_4 N1_5 N1_6 N1_7 N1_8 N1_9 N1_10 N1_11 N1_12 N1_13 N1_14 N1_15 N1_16 N1_17 N1_18 N1_19 N1_20 N1_21 N1_22 N1_23 N1_25 N1_27 N1_29 N1_30
  refine wpAnyH_ready (rs := [2, 9, 11]) (by kernel_rfl) (by simp) ?_
  refine AllReadyH.cons (o := _) rfl (fun K hK => ?_) ?_
  ·skip
   refine tk_call (by kernel_rfl) (cross_any fk fj hk hj _) (by kernel_rfl) ?_; rintro e W1 ⟨rfl, e1⟩; refine ⟨_, rfl, ?_⟩
   have s1 := s0.trans e1
   refine hK.out _ _ s1 (fun _ => ?_)
   clear hK K
   try simp only [sxA, sxB, sxC, Act.put, sxD, sxE, sxF]
   refine (hF.out _ _ _ _).1 ?_
   exact N1_24 b14 _ _ W1 _ (by first | rfl | kernel_rfl) (by first | rfl | kernel_rfl) (by (try simp only [sxA, sxB, sxC, Act.put, sxD, sxE, sxF]); first | done | with_reducible rfl | rfl) s1 (hid (b10.out.ext e1)) z10
  refine AllReadyH.cons (o := _) rfl (fun K hK => ?_) ?_
  ·skip
   go_simp
   refine hK.out _ _ (Ext.alloc s0 _) (fun _ => ?_)
   clear hK K
   try simp only [sxA, sxB, sxC, Act.put, sxD, sxE, sxF]
   refine name_any (fun W1 hW => ?_)
   have e1 : Ext W0 W1 := by rw [hW]; exact Ext.alloc (Ext.refl _) _
   have s1 := s0.trans e1
   have nb0 := hid (arr3_new hW)
   clear hW
   refine (hF.out _ _ _ _).1 ?_
   exact N1_26 W0.heap.size b14 _ _ W1 _ (by first | rfl | kernel_rfl) (by first | rfl | kernel_rfl) (by (try simp only [sxA, sxB, sxC, Act.put, sxD, sxE, sxF]); first | done | with_reducible rfl | rfl) s1 nb0 (hid s0.size) (hid (b10.out.ext e1)) z10 (hid (Nat.ne_of_gt b10.out.l))
  refine AllReadyH.cons (o := _) rfl (fun K hK => ?_) ?_
  ·skip
   go_simp
   refine hK.out _ _ (Ext.alloc s0 _) (fun _ => ?_)
   clear hK K
   try simp only [sxA, sxB, sxC, Act.put, sxD, sxE, sxF]
   refine name_any (fun W1 hW => ?_)
   have e1 : Ext W0 W1 := by rw [hW]; exact Ext.alloc (Ext.refl _) _
   have s1 := s0.trans e1
   have nb0 := hid (arr3_new hW)
   clear hW
   refine (hF.out _ _ _ _).1 ?_
   exact N1_28 b14 W0.heap.size _ _ W1 _ (by first | rfl | kernel_rfl) (by first | rfl | kernel_rfl) (by (try simp only [sxA, sxB, sxC, Act.put, sxD, sxE, sxF]); first | done | with_reducible rfl | rfl) s1 (hid (b10.out.ext e1)) z10 nb0 (hid s0.size) (hid (Nat.ne_of_lt b10.out.l))
  exact AllReadyH.nil
 have N1_32 : ∀ (b15 : Nat) (f_ : Nat) (l_ : Array Bool) (W0 : World) (a_ : Act), f_ = 8 → l_ = #[true, true, false, true, true, false, true, true, false, false, false, true, false, false, false] → a_ = ({ tmps := #[yA,yB,yC,yD,yE,yF,yG,(.pointer (some ⟨B7, 0, none⟩)),yI,(.pointer (some ⟨B9, 0, none⟩)),yK,(.pointer (some ⟨B11, 0, none⟩)),yM,yN,yO,.pointer (some ⟨b15, 0, none⟩),yQ,yR,yS,yT,yU,yV,yW,yX,yY,yZ,zA,zB,zC,zD,zE,zF,zG,zH,zI,zJ,zK,zL,zM,zN,zO,zP,zQ,zR,zS,zT,zU,zV,zW,zX,zY,zZ,uA,uB,(.agg #[.int .i64 (fk 0), .int .i64 (fk 1), .int .i64 (fk 2)]),(.agg #[.int .i64 (fj 0), .int .i64 (fj 1), .int .i64 (fj 2)]),uE,(.agg #[.int .i64 (fj 0), .int .i64 (fj 1), .int .i64 (fj 2)]),(.agg #[.int .i64 (fi 0), .int .i64 (fi 1), .int .i64 (fi 2)]),uH,(.agg #[.int .i64 (fi 0), .int .i64 (fi 1), .int .i64 (fi 2)]),(.agg #[.int .i64 (fk 0), .int .i64 (fk 1), .int .i64 (fk 2)]),uK,uL,uM,uN,uO,uP,uQ,uR,uS,uT,uU,uV,uW,uX,uY,uZ,iA,iB,iC,iD,iE,iF,iG,iH,iI,iJ,iK,iL,iM,iN,iO,iP,iQ,iR,iS,iT,iU,iV,iW,iX,iY,iZ,oA,oB,oC,oD,oE,oF,oG,oH,oI,oJ,oK,oL,oM,oN,oO,oP,oQ,oR,oS,oT,oU,oV,oW,oX], defers := [] } : Act) → Ext w12 W0 → Hid (Arr3 W0 b15 (fun _ => 0)) → Hid (w12.heap.size ≤ b15) → F f_ l_ a_ W0 := by
  intro b15 f_ l_ W0 a_ hf_ hl_ ha_ s0 b11 z11
  subst hf_ hl_ ha_
  refine (hF.out _ _ _ _).2 ?_
  clear N1_0 N1_1 N1_2 N1_3 N1_4 N1_5 N1_6 N1_7 N1_8 N1_9 N1_10 N1_11 N1_12 N1_13 N1_14 N1_15 N1_16 N1_17 N1_18 N1_19 N1_20 N1_21 N1_22 N1_23 N1_24 N1_26 N1_29 N1_30 N1_31
  refine wpAnyH_ready (rs := [2, 9, 10]) (by kernel_rfl) (by simp) ?_
  refine AllReadyH.cons (o := _) rfl (fun K hK => ?_) ?_
  ·skip
   refine tk_call (by kernel_rfl) (cross_any fk fj hk hj _) (by kernel_rfl) ?_; rintro e W1 ⟨rfl, e1⟩; refine ⟨_, rfl, ?_⟩
   have s1 := s0.trans e1
   refine hK.out _ _ s1 (fun _ => ?_)
   clear hK K
   try simp only [sxA, sxB, sxC, Act.put, sxD, sxE, sxF]
   refine (hF.out _ _ _ _).1 ?_
   exact N1_25 b15 _ _ W1 _ (by first | rfl | kernel_rfl) (by first | rfl | kernel_rfl) (by (try simp only [sxA, sxB, sxC, Act.put, sxD, sxE, sxF]); first | done | with_reducible rfl | rfl) s1 (hid (b11.out.ext e1)) z11
  refine AllReadyH.cons (o := _) rfl (fun K hK => ?_) ?_
  ·skip
   go_simp
   refine hK.out _ _ (Ext.alloc s0 _) (fun _ => ?_)
   clear hK K
   try simp only [sxA, sxB, sxC, Act.put, sxD, sxE, sxF]
   refine name_any (fun W1 hW => ?_)
   have e1 : Ext W0 W1 := by rw [hW]; exact Ext.alloc (Ext.refl _) _
   have s1 := s0.trans e1
   have nb0 := hid (arr3_new hW)
   clear hW
   refine (hF.out _ _ _ _).1 ?_
   exact N1_27 W0.heap.size b15 _ _ W1 _ (by first | rfl | kernel_rfl) (by first | rfl | kernel_rfl) (by (try simp only [sxA, sxB, sxC, Act.put, sxD, sxE, sxF]); first | done | with_reducible rfl | rfl) s1 nb0 (hid s0.size) (hid (b11.out.ext e1)) z11 (hid (Nat.ne_of_gt b11.out.l))
  refine AllReadyH.cons (o := _) rfl (fun K hK => ?_) ?_
  ·skip
   go_simp
   refine hK.out _ _ (Ext.alloc s0 _) (fun _ => ?_)
   clear hK K
   try simp only [sxA, sxB, sxC, Act.put, sxD, sxE, sxF]
   refine name_any (fun W1 hW => ?_)
   have e1 : Ext W0 W1 := by rw [hW]; exact Ext.alloc (Ext.refl _) _
   have s1 := s0.trans e1
   have nb0 := hid (arr3_new hW)
   clear hW
   refine (hF.out _ _ _ _).1 ?_
   exact N1_28 W0.heap.size b15 _ _ W1 _ (by first | rfl | kernel_rfl) (by first | rfl | kernel_rfl) (by (try simp only [sxA, sxB, sxC, Act.put, sxD, sxE, sxF]); first | done | with_reducible rfl | rfl) s1 nb0 (hid s0.size) (hid (b11.out.ext e1)) z11 (hid (Nat.ne_of_gt b11.out.l))
  exact AllReadyH.nil
 have N1_33 : ∀ (f_ : Nat) (l_ : Array Bool) (W0 : World) (a_ : Act), f_ = 9 → l_ = #[true, true, false, true, true, false, true, true, false, false, false, false, false, false, false] → a_ = ({ tmps := #[yA,yB,yC,yD,yE,yF,yG,(.pointer (some ⟨B7, 0, none⟩)),yI,(.pointer (some ⟨B9, 0, none⟩)),yK,(.pointer (some ⟨B11, 0, none⟩)),yM,yN,yO,yP,yQ,yR,yS,yT,yU,yV,yW,yX,yY,yZ,zA,zB,zC,zD,zE,zF,zG,zH,zI,zJ,zK,zL,zM,zN,zO,zP,zQ,zR,zS,zT,zU,zV,zW,zX,zY,zZ,uA,uB,(.agg #[.int .i64 (fk 0), .int .i64 (fk 1), .int .i64 (fk 2)]),(.agg #[.int .i64 (fj 0), .int .i64 (fj 1), .int .i64 (fj 2)]),uE,(.agg #[.int .i64 (fj 0), .int .i64 (fj 1), .int .i64 (fj 2)]),(.agg #[.int .i64 (fi 0), .int .i64 (fi 1), .int .i64 (fi 2)]),uH,(.agg #[.int .i64 (fi 0), .int .i64 (fi 1), .int .i64 (fi 2)]),(.agg #[.int .i64 (fk 0), .int .i64 (fk 1), .int .i64 (fk 2)]),uK,uL,uM,uN,uO,uP,uQ,uR,uS,uT,uU,uV,uW,uX,uY,uZ,iA,iB,iC,iD,iE,iF,iG,iH,iI,iJ,iK,iL,iM,iN,iO,iP,iQ,iR,iS,iT,iU,iV,iW,iX,iY,iZ,oA,oB,oC,oD,oE,oF,oG,oH,oI,oJ,oK,oL,oM,oN,oO,oP,oQ,oR,oS,oT,oU,oV,oW,oX], defers := [] } : Act) → Ext w12 W0 → F f_ l_ a_ W0 := by
  intro  f_ l_ W0 a_ hf_ hl_ ha_ s0
  subst hf_ hl_ ha_
  refine (hF.out _ _ _ _).2 ?_
  clear N1_0 N1_1 N1_2 N1_3 N1_4 N1_5 N1_6 N1_7 N1_8 N1_9 N1_10 N1_11 N1_12 N1_13 N1_14 N1_15 N1_16 N1_17 N1_18 N1_19 N1_20 N1_21 N1_22 N1_23 N1_24 N1_25 N1_26 N1_27 N1_28
  refine wpAnyH_ready (rs := [2, 9, 10, 11]) (by kernel_rfl) (by simp) ?_
  refine AllReadyH.cons (o := _) rfl (fun K hK => ?_) ?_
  ·skip
   refine tk_call (by kernel_rfl) (cross_any fk fj hk hj _) (by kernel_rfl) ?_; rintro e W1 ⟨rfl, e1⟩; refine ⟨_, rfl, ?_⟩
   have s1 := s0.trans e1
   refine hK.out _ _ s1 (fun _ => ?_)
   clear hK K
   try simp only [sxA, sxB, sxC, Act.put, sxD, sxE, sxF]
   refine (hF.out _ _ _ _).1 ?_
   exact N1_29 _ _ W1 _ (by first | rfl | kernel_rfl) (by first | rfl | kernel_rfl) (by (try simp only [sxA, sxB, sxC, Act.put, sxD, sxE, sxF]); first | done | with_reducible rfl | rfl) s1
  refine AllReadyH.cons (o := _) rfl (fun K hK => ?_) ?_
  ·skip
   go_simp
   refine hK.out _ _ (Ext.alloc s0 _) (fun _ => ?_)
   clear hK K
   try simp only [sxA, sxB, sxC, Act.put, sxD, sxE, sxF]
   refine name_any (fun W1 hW => ?_)
   have e1 : Ext W0 W1 := by rw [hW]; exact Ext.alloc (Ext.refl _) _
   have s1 := s0.trans e1
   have nb0 := hid (arr3_new hW)
   clear hW
   refine (hF.out _ _ _ _).1 ?_
   exact N1_30 W0.heap.size _ _ W1 _ (by first | rfl | kernel_rfl) (by first | rfl | kernel_rfl) (by (try simp only [sxA, sxB, sxC, Act.put, sxD, sxE, sxF]); first | done | with_reducible rfl | rfl) s1 nb0 (hid s0.size)
  refine AllReadyH.cons (o := _) rfl (fun K hK => ?_) ?_
  ·skip
   go_simp
   refine hK.out _ _ (Ext.alloc s0 _) (fun _ => ?_)
   clear hK K
   try simp only [sxA, sxB, sxC, Act.put, sxD, sxE, sxF]
   refine name_any (fun W1 hW => ?_)
   have e1 : Ext W0 W1 := by rw [hW]; exact Ext.alloc (Ext.refl _) _
   have s1 := s0.trans e1
   have nb0 := hid (arr3_new hW)
   clear hW
   refine (hF.out _ _ _ _).1 ?_
   exact N1_31 W0.heap.size _ _ W1 _ (by first | rfl | kernel_rfl) (by first | rfl | kernel_rfl) (by (try simp only [sxA, sxB, sxC, Act.put, sxD, sxE, sxF]); first | done | with_reducible rfl | rfl) s1 nb0 (hid s0.size)
  refine AllReadyH.cons (o := _) rfl (fun K hK => ?_) ?_
  ·skip
   go_simp
   refine hK.out _ _ (Ext.alloc s0 _) (fun _ => ?_)
   clear hK K
   try simp only [sxA, sxB, sxC, Act.put, sxD, sxE, sxF]
   refine name_any (fun W1 hW => ?_)
   have e1 : Ext W0 W1 := by rw [hW]; exact Ext.alloc (Ext.refl _) _
   have s1 := s0.trans e1
   have nb0 := hid (arr3_new hW)
   clear hW
   refine (hF.out _ _ _ _).1 ?_
   exact N1_32 W0.heap.size _ _ W1 _ (by first | rfl | kernel_rfl) (by first | rfl | kernel_rfl) (by (try simp only [sxA, sxB, sxC, Act.put, sxD, sxE, sxF]); first | done | with_reducible rfl | rfl) s1 nb0 (hid s0.size)
  exact AllReadyH.nil
 rw [hA_.out]
 refine (hF.out _ _ _ _).2 ?_
 refine tkB (i := 0) (v := ?_) rfl hpan ?yl ?_
 case yl => (intro w hSw; have k_ := hRD_.out w hSw; go_simp); with_reducible rfl
 try simp only [sxA, sxB, sxC, Act.put, sxD, sxE, sxF]
 refine tkB (i := 1) (v := ?_) rfl hpan ?yl ?_
 case yl => (intro w hSw; have k_ := hRD_.out w hSw; go_simp); with_reducible rfl
 try simp only [sxA, sxB, sxC, Act.put, sxD, sxE, sxF]
 refine tkB (i := 3) (v := ?_) rfl hpan ?yl ?_
 case yl => (intro w hSw; have k_ := hRD_.out w hSw; go_simp); with_reducible rfl
 try simp only [sxA, sxB, sxC, Act.put, sxD, sxE, sxF]
 refine tkB (i := 4) (v := ?_) rfl hpan ?yl ?_
 case yl => (intro w hSw; have k_ := hRD_.out w hSw; go_simp); with_reducible rfl
 try simp only [sxA, sxB, sxC, Act.put, sxD, sxE, sxF]
 refine tkB (i := 6) (v := ?_) rfl hpan ?yl ?_
 case yl => (intro w hSw; have k_ := hRD_.out w hSw; go_simp); with_reducible rfl
 try simp only [sxA, sxB, sxC, Act.put, sxD, sxE, sxF]
 refine tkB (i := 7) (v := ?_) rfl hpan ?yl ?_
 case yl => (intro w hSw; have k_ := hRD_.out w hSw; go_simp); with_reducible rfl
 try simp only [sxA, sxB, sxC, Act.put, sxD, sxE, sxF]
 refine (hF.out _ _ _ _).1 ?_
 exact N1_33 _ _ W0 _ (by first | rfl | kernel_rfl) (by first | rfl | kernel_rfl) (by (try simp only [sxA, sxB, sxC, Act.put, sxD, sxE, sxF]); first | done | with_reducible rfl | rfl) s0
set_option maxHeartbeats 40000000 in
theorem proofs_any (l : List Met) (v : VldM l) (u c : Int) (s : Bool) (D : Nat) (w : World) (hP : Pot w D l u c s) :
 Calls Try.prog 78 #[(.pointer (some ⟨D, 0, none⟩))] w (RetMap ((P1 l s (l.length + 2)).filter fun p => gdP l s p.1) w) := by
 have n1 := v.n1; have n6 := v.n6
 have hV := hid v
 replace hP := hid hP
 have hsd := hid (sides_any l v u c s D w hP.out)
 clear v
 go_enter Try.func78, Try.ntmps78
 go_wp2_with fail
 refine hsd.out.mono ?_; rintro e wB ⟨a, c1, a2, c2, rfl, hc1, hA, hA2, hE⟩
 have hdl := hP.out.lt
 obtain ⟨_, _, e', _, hR⟩ := hA.at (by omega) (by decide)
 cases e'
 obtain ⟨_, _, e', _, hQ⟩ := hA2.at (by omega) (by decide)
 cases e'
 replace hR : Hid (∀ i, i < l.length + 2 → ∀ k, k < 3 → wB.cell? ⟨a, i * 3 + k, none⟩ = some (.int .i64 (rwN l s i k))) := hid fun i hi k hk => by have := hR i hi k hk; rw [Nat.zero_add] at this; exact this
 replace hQ : Hid (∀ i, i < l.length + 2 → wB.cell? ⟨a2, i, none⟩ = some (.int .i64 (mtl l i).p)) := hid fun i hi => by have := hQ i hi 0 (by decide); rw [Nat.zero_add, Nat.mul_one, Nat.add_zero] at this; exact this
 have xB := hid hE
 have hzB := hE.size
 clear hA hA2 hE hsd
 have hmm := @run_makeMap Try.prog
 go_wp2_with fail
 clear hmm
 obtain ⟨w0, hw0⟩ : ∃ w0, wB.alloc (.map #[] 0) = w0 := ⟨_, rfl⟩
 have hTM := TM.made wB 4
 have xB0 : Ext wB w0 := by rw [← hw0]; exact exE
 rw [hw0] at hTM ⊢
 have hI0 := hid (show MapI w0 wB.heap.size [] 0 w0 from ⟨⟨0, hTM, Nat.le_refl _, Nat.le_refl _⟩, (Ext.refl w0).grows.but _⟩)
 replace xB0 := hid xB0
 obtain ⟨b, hb⟩ : ∃ b, wB.heap.size = b := ⟨_, rfl⟩
 rw [hb] at hI0 ⊢
 have hbl := hI0.out.m.elim fun c h => h.1.lt
 replace hb := hid hb
 replace hw0 := hid hw0
 clear hTM
 go_loopw [26] (fun i wr => ∃ j : Nat, j ≤ l.length + 2 ∧ i = .int .i64 j ∧ Hid (MapI w0 b (P1 l s j) (j * 64) wr)) (fun i _ => (l.length + 2 - intOf i).toNat)
 case atStart => exact ⟨0, by omega, rfl, hI0⟩
 case round =>
  obtain ⟨i, hi, rfl, hI⟩ := hrel
  have xr := hid (hI.out.from xB0.out (Nat.le_of_eq hb.out))
  by_cases hil : i < l.length + 2
  ·have q0 := xr.out.cell (hR.out i hil 0 (by decide))
   have q1 := xr.out.cell (hR.out i hil 1 (by decide))
   have q2 := xr.out.cell (hR.out i hil 2 (by decide))
   rw [Nat.add_zero] at q0
   have hilI : (i : Int) < (l.length : Int) + 2 := by omega
   have ti := Go.IntWalk.i64_in ((i : Int) + 1) (by omega)
   have hic : i ≤ c1 := by have := hc1.1; omega
   have hbr := xr.out.size
   have hir := hid hI.out
   go_wp2_with fail
   refine name_wp (fun wo hwo => ?_)
   have xo : Ext wr wo := by rw [hwo]; exact exE
   have h7 : Arr3 wo wr.heap.size (rwN l s i) := by
    refine ⟨fun k hk => ?_, fun k hk => ?_, by rw [hwo]; simp⟩
    ·rw [hwo]; rcases k with _ | _ | _ | k <;> first | (simp [go_sem]; done) | omega
    ·rw [hwo]; simp [go_sem]
   have hb7r : b < wr.heap.size := by have := xr.out.size; have := hb.out; have h := hI.out.m.elim fun c h => h.1.lt; omega
   have hIo := hI.out.at.ext xo
   have hxo := hid xo
   have xo := hid (xr.out.trans xo)
   replace h7 := hid h7
   replace hIo := hid (hIo.at)
   obtain ⟨B7, hB7⟩ : ∃ B, wr.heap.size = B := ⟨_, rfl⟩
   rw [hB7] at h7 hb7r ⊢
   replace hB7 := hid hB7
   clear q0 q1 q2 hwo hbr hir
   go_loopw [35] (fun i' wv => ∃ k : Nat, k ≤ i ∧ i' = .int .i64 k ∧ Hid (MapI wo b (P2 l s i k (P1 l s i)) (i * 64 + k * 8) wv)) (fun i' _ => (i - intOf i').toNat)
   case atStart => exact ⟨0, by omega, rfl, hIo⟩
   case round =>
    obtain ⟨k, hk, rfl, hI2⟩ := hrel
    have xr := hid (hI2.out.from xo.out (Nat.le_of_eq hb.out))
    by_cases hkl : k < i
    ·have q0 := xr.out.cell (hR.out k (by omega) 0 (by decide))
     have q1 := xr.out.cell (hR.out k (by omega) 1 (by decide))
     have q2 := xr.out.cell (hR.out k (by omega) 2 (by decide))
     rw [Nat.add_zero] at q0
     have hklI : (k : Int) < (i : Int) := by omega
     have tk := Go.IntWalk.i64_in ((k : Int) + 1) (by omega)
     have hkc : k ≤ c1 := by omega
     go_wp2_with fail
     refine name_wp (fun wp hwp => ?_)
     have xp : Ext wr wp := by rw [hwp]; exact exE
     have h9 : Arr3 wp wr.heap.size (rwN l s k) := by
      refine ⟨fun k hk => ?_, fun k hk => ?_, by rw [hwp]; simp⟩
      ·rw [hwp]; rcases k with _ | _ | _ | k <;> first | (simp [go_sem]; done) | omega
      ·rw [hwp]; simp [go_sem]
     have hb9r : b < wr.heap.size := hI2.out.m.elim fun c h => h.1.lt
     have h7p := hid ((h7.out.grown hI2.out.g (by omega)).ext xp)
     have hIp := hid ((hI2.out.at.ext xp).at)
     have xp2 := hid (xr.out.trans xp)
     replace h9 := hid h9
     have hgp := hid (hI2.out.ext xp)
     obtain ⟨B9, hB9⟩ : ∃ B, wr.heap.size = B := ⟨_, rfl⟩
     rw [hB9] at h9 hb9r ⊢
     replace hB9 := hid hB9
     clear q0 q1 q2 hwp xp
     go_loopw [44] (fun i' wv => ∃ j : Nat, j ≤ k ∧ i' = .int .i64 j ∧ Hid (MapI wp b (P3 l s i k j (P2 l s i k (P1 l s i))) (i * 64 + k * 8 + j) wv)) (fun i' _ => (k - intOf i').toNat)
     case atStart => exact ⟨0, by omega, rfl, hIp⟩
     case round =>
      obtain ⟨j, hj, rfl, hI3⟩ := hrel
      have xq := hid (hI3.out.from xp2.out (Nat.le_of_eq hb.out))
      by_cases hjl : j < k
      ·have q0 := xq.out.cell (hR.out j (by omega) 0 (by decide))
       have q1 := xq.out.cell (hR.out j (by omega) 1 (by decide))
       have q2 := xq.out.cell (hR.out j (by omega) 2 (by decide))
       rw [Nat.add_zero] at q0
       have hjlI : (j : Int) < (k : Int) := by omega
       have tj := Go.IntWalk.i64_in ((j : Int) + 1) (by omega)
       go_wp2_with fail
       refine name_wp (fun wq hwq => ?_)
       have xq' : Ext wr wq := by rw [hwq]; exact exE
       have h11 : Arr3 wq wr.heap.size (rwN l s j) := by
        refine ⟨fun k hk => ?_, fun k hk => ?_, by rw [hwq]; simp⟩
        ·rw [hwq]; rcases k with _ | _ | _ | k <;> first | (simp [go_sem]; done) | omega
        ·rw [hwq]; simp [go_sem]
       have hb11 : b < wr.heap.size := hI3.out.m.elim fun c h => h.1.lt
       have h7q := (h7p.out.grown hI3.out.g (by omega)).ext xq'
       have h9q := (h9.out.grown hI3.out.g (by omega)).ext xq'
       have hIq := hid (hI3.out.ext xq')
       have xqB := hid (xq.out.trans xq')
       obtain ⟨B11, hB11⟩ : ∃ B, wr.heap.size = B := ⟨_, rfl⟩
       rw [hB11] at h11 hb11 ⊢
       replace hB11 := hid hB11
       clear q0 q1 q2 hwq xq'
       have r70 := hid (h7q.c 0 (by decide)); have r71 := hid (h7q.c 1 (by decide)); have r72 := hid (h7q.c 2 (by decide))
       have r90 := hid (h9q.c 0 (by decide)); have r91 := hid (h9q.c 1 (by decide)); have r92 := hid (h9q.c 2 (by decide))
       have rB0 := hid (h11.c 0 (by decide)); have rB1 := hid (h11.c 1 (by decide)); have rB2 := hid (h11.c 2 (by decide))
       have l7 := h7q.l; have l9 := h9q.l; have l11 := h11.l
       have ka := hid (fun i => rwN_bd hV.out s i)
       have kc1 := hid (fun W => cross_any (rwN l s k) (rwN l s j) (ka.out k) (ka.out j) W)
       have kd1 := hid (fun W => dot_any (rwN l s i) (crs (rwN l s k) (rwN l s j)) (ka.out i) (crs3_bd (ka.out k) (ka.out j)) W)
       refine name_act (fun A_ hA_ => ?_)
       obtain ⟨Q2, hQ2⟩ : ∃ Q2 : Exit → Act → World → Prop, Q2 = fun e a' w' => e = .normal ∧ a' = ((((((A_.put (some 49) ((.agg #[.int .i64 (rwN l s i 0), .int .i64 (rwN l s i 1), .int .i64 (rwN l s i 2)]))).put (some 50) ((.agg #[.int .i64 (rwN l s k 0), .int .i64 (rwN l s k 1), .int .i64 (rwN l s k 2)]))).put (some 51) ((.agg #[.int .i64 (rwN l s j 0), .int .i64 (rwN l s j 1), .int .i64 (rwN l s j 2)]))).put (some 52) ((.agg #[.int .i64 (crs (rwN l s k) (rwN l s j) 0), .int .i64 (crs (rwN l s k) (rwN l s j) 1), .int .i64 (crs (rwN l s k) (rwN l s j) 2)]))).put (some 53) (.int .i64 (dN l s i k j))).put (some 12) (.int .i64 (dN l s i k j))) ∧ Ext wq w' := ⟨_, rfl⟩
       have hpan : ∀ c a a' w w', Q2 (.panic c) a w → Q2 (.panic c) a' w' := by rw [hQ2]; rintro c a a' w w' ⟨h, _⟩; cases h
       replace hQ2 := hid hQ2
       refine wp_mono (Q := Q2) ?_ ?_
       ·subst hA_
        have hRD_ := hid (fun w' (x_ : Ext wq w') => And.intro (Ext.cell x_ r70.out) (And.intro (Ext.cell x_ r71.out) (And.intro (Ext.cell x_ r72.out) (And.intro (Ext.cell x_ r90.out) (And.intro (Ext.cell x_ r91.out) (And.intro (Ext.cell x_ r92.out) (And.intro (Ext.cell x_ rB0.out) (And.intro (Ext.cell x_ rB1.out) (Ext.cell x_ rB2.out)))))))))
        refine wp_region_held_drew (S := fun w' => Ext wq w') (by kernel_rfl) exE fun hHeld => ?_
        refine name_any (fun W0 hW => ?_)
        have s0 : Ext wq W0 := by rw [hW]; exact hHeld
        clear hW hHeld
        refine tkB (i := 0) (v := ?_) rfl hpan ?yl ?_
        case yl => (intro w hSw; have k_ := hRD_.out w hSw; go_simp); with_reducible rfl
        try simp only [sxA, sxB, sxC, Act.put, sxD, sxE, sxF]
        refine tkB (i := 1) (v := ?_) rfl hpan ?yl ?_
        case yl => (intro w hSw; have k_ := hRD_.out w hSw; go_simp); with_reducible rfl
        try simp only [sxA, sxB, sxC, Act.put, sxD, sxE, sxF]
        refine tkB (i := 2) (v := ?_) rfl hpan ?yl ?_
        case yl => (intro w hSw; have k_ := hRD_.out w hSw; go_simp); with_reducible rfl
        try simp only [sxA, sxB, sxC, Act.put, sxD, sxE, sxF]
        refine wpAnyH_ready (rs := [3]) (by kernel_rfl) (by simp) ?_
        refine AllReadyH.cons (o := _) rfl (fun K hK => ?_) AllReadyH.nil
        go_simp
        refine (kc1.out _).mono ?_; rintro e W1 ⟨rfl, e1⟩
        have s1 := s0.trans e1
        refine hK.out _ _ s1 (fun _ => ?_)
        clear hK K
        (try simp only [sxA, sxB, sxC, Act.put, sxD, sxE, sxF])
        refine wpAnyH_ready (rs := [4]) (by kernel_rfl) (by simp) ?_
        refine AllReadyH.cons (o := _) rfl (fun K hK => ?_) AllReadyH.nil
        go_simp
        refine (kd1.out _).mono ?_; rintro e W2 ⟨rfl, e2⟩
        have s2 := s1.trans e2
        refine hK.out _ _ s2 (fun _ => ?_)
        clear hK K
        (try simp only [sxA, sxB, sxC, Act.put, sxD, sxE, sxF])
        refine tkB (i := 5) (v := ?_) rfl hpan ?yl ?_
        case yl => (intro w hSw; have k_ := hRD_.out w hSw; go_simp); with_reducible rfl
        try simp only [sxA, sxB, sxC, Act.put, sxD, sxE, sxF]
        refine wpAnyH_done (by kernel_rfl) ?_ _
        try simp only [sxA, sxB, sxC, Act.put, sxD, sxE, sxF]
        rw [hQ2.out]
        refine ⟨rfl, ?eq1_1, s2⟩
        case eq1_1 => ((try simp only [sxA, sxB, sxC, Act.put, sxD, sxE, sxF]); first | done | with_reducible rfl | rfl)
       rw [hQ2.out]
       rintro e a' w12 ⟨rfl, rfl, x⟩
       clear hQ2 hpan; clear Q2
       subst hA_
       simp only [sxA, sxB, sxC, Act.put, sxD, sxE, sxF]
       have xq12 := hid x
       have r70 := hid (x.cell r70.out); have r71 := hid (x.cell r71.out); have r72 := hid (x.cell r72.out)
       have r90 := hid (x.cell r90.out); have r91 := hid (x.cell r91.out); have r92 := hid (x.cell r92.out)
       have rB0 := hid (x.cell rB0.out); have rB1 := hid (x.cell rB1.out); have rB2 := hid (x.cell rB2.out)
       have z12 := x.size
       have kc2 := hid (fun W => cross_any (rwN l s j) (rwN l s i) (ka.out j) (ka.out i) W)
       have kc3 := hid (fun W => cross_any (rwN l s i) (rwN l s k) (ka.out i) (ka.out k) W)
       replace l7 : B7 < w12.heap.size := by omega
       replace l9 : B9 < w12.heap.size := by omega
       replace l11 : B11 < w12.heap.size := by omega
       clear kd1 x
       go_wp2_with fail
       refine wp_mono (stCross rfl (fun q => ka.out i q) (fun q => ka.out k q) (fun q => ka.out j q) r70.out r71.out r72.out r90.out r91.out r92.out rB0.out rB1.out rB2.out) ?_
       rintro e a' w13 ⟨rfl, b13, b14, b15, rfl, x, c9, z9, c10, z10, n9_10, c11, z11, n9_11, n10_11⟩
       have x12 := xq12.out
       have x13 := hid (x12.trans x)
       have lb := c9.l; have lc := c10.l; have ld := c11.l
       have hM13 := hid (hIq.out.ext x13.out)
       have hgB : Hid (Ext wB w13) := hid (xqB.out.trans x13.out)
       have A13 : Hid (∀ n, n < 3 → w13.cell? ⟨b13, n, none⟩ = some (.int .i64 (crs (rwN l s k) (rwN l s j) n))) := hid c9.c
       have A14 : Hid (∀ n, n < 3 → w13.cell? ⟨b14, n, none⟩ = some (.int .i64 (crs (rwN l s j) (rwN l s i) n))) := hid c10.c
       have A15 : Hid (∀ n, n < 3 → w13.cell? ⟨b15, n, none⟩ = some (.int .i64 (crs (rwN l s i) (rwN l s k) n))) := hid c11.c
       clear c9 z9 c10 z10 n9_10 c11 z11 n9_11 n10_11
       clear r70 r71 r72 r90 r91 r92 rB0 rB1 rB2 kc2 kc3 kc1 l7 l9 l11 z12 x12 xq12 x
       have hb13 : b < w13.heap.size := hM13.out.m.elim fun c h => h.1.lt
       go_wp2_with fail
       refine name_wp (fun w14 hw14 => ?_)
       have x14 : Ext w13 w14 := by rw [hw14]; exact exE
       have hX : Arr3 w14 w13.heap.size (fun _ => 0) := by
        refine ⟨fun k hk => ?_, fun k hk => ?_, by rw [hw14]; simp⟩
        ·rw [hw14]; rcases k with _ | _ | _ | k <;> first | (simp [go_sem]; done) | omega
        ·rw [hw14]; simp [go_sem]
       obtain ⟨BX, hBX⟩ : ∃ B, w13.heap.size = B := ⟨_, rfl⟩
       have hgX : Hid (∀ W : World, Ext w13 W → Ext wB W) := hid fun W x => hgB.out.trans x
       replace x14 := hid x14
       rw [hBX] at hX lb lc ld hb13 ⊢
       replace hX := hid hX
       replace hBX := hid hBX
       clear hw14
       go_loopw [63] (fun i' wv => ∃ n : Nat, n ≤ 3 ∧ i' = .int .i64 n ∧ Hid (Ext w13 wv) ∧ Hid (Arr3 wv BX (fun q => if q < n then xN l s i k j q else 0))) (fun i' _ => (3 - intOf i').toNat)
       case atStart => exact ⟨0, by omega, rfl, x14, hid (hX.out.congr fun q hq => by simp)⟩
       case round =>
        obtain ⟨n, hn, rfl, xn, hXn⟩ := hrel
        by_cases hn3 : n < 3
        ·have cX := hXn.out.c n hn3
         have fX := hXn.out.f n hn3
         have lX := hXn.out.l
         have hz14 := xn.out.size
         have hBXe := hBX.out
         replace hBXe := hid hBXe
         have g13 := xn.out.cell (A13.out n hn3)
         have g14 := xn.out.cell (A14.out n hn3)
         have g15 := xn.out.cell (A15.out n hn3)
         have pi := (hgX.out _ xn.out).cell (hQ.out i (by omega))
         have pk := (hgX.out _ xn.out).cell (hQ.out k (by omega))
         have pj := (hgX.out _ xn.out).cell (hQ.out j (by omega))
         have vi := hV.out.pr i; have vk := hV.out.pr k; have vj := hV.out.pr j
         have hxe : Hid (xN l s i k j n = (mtl l i).p * crs (rwN l s k) (rwN l s j) n + (mtl l k).p * crs (rwN l s j) (rwN l s i) n + (mtl l j).p * crs (rwN l s i) (rwN l s k) n) := hid rfl
         have bi := mulA_bd (x := (mtl l i).p) (A := 1000) (by omega) (crs3_bd (ka.out k) (ka.out j) n)
         have bk := mulA_bd (x := (mtl l k).p) (A := 1000) (by omega) (crs3_bd (ka.out j) (ka.out i) n)
         have bj := mulA_bd (x := (mtl l j).p) (A := 1000) (by omega) (crs3_bd (ka.out i) (ka.out k) n)
         obtain ⟨y1, hy1⟩ : ∃ z, crs (rwN l s k) (rwN l s j) n = z := ⟨_, rfl⟩
         obtain ⟨y2, hy2⟩ : ∃ z, crs (rwN l s j) (rwN l s i) n = z := ⟨_, rfl⟩
         obtain ⟨y3, hy3⟩ : ∃ z, crs (rwN l s i) (rwN l s k) n = z := ⟨_, rfl⟩
         obtain ⟨m1, hm1⟩ : ∃ z, (mtl l i).p = z := ⟨_, rfl⟩
         obtain ⟨m2, hm2⟩ : ∃ z, (mtl l k).p = z := ⟨_, rfl⟩
         obtain ⟨m3, hm3⟩ : ∃ z, (mtl l j).p = z := ⟨_, rfl⟩
         rw [hy1] at g13 hxe bi
         rw [hy2] at g14 hxe bk
         rw [hy3] at g15 hxe bj
         rw [hm1] at pi hxe bi
         rw [hm2] at pk hxe bk
         rw [hm3] at pj hxe bj
         obtain ⟨Z1, hZ1⟩ : ∃ z, m1 * y1 = z := ⟨_, rfl⟩
         obtain ⟨Z2, hZ2⟩ : ∃ z, m2 * y2 = z := ⟨_, rfl⟩
         obtain ⟨Z3, hZ3⟩ : ∃ z, m3 * y3 = z := ⟨_, rfl⟩
         rw [hZ1] at hxe bi
         rw [hZ2] at hxe bk
         rw [hZ3] at hxe bj
         have t1 : IntKind.i64.wrap (m1 * y1) = Z1 := by rw [hZ1]; exact Go.IntWalk.i64_in Z1 (by omega)
         have t2 : IntKind.i64.wrap (m2 * y2) = Z2 := by rw [hZ2]; exact Go.IntWalk.i64_in Z2 (by omega)
         have t3 : IntKind.i64.wrap (m3 * y3) = Z3 := by rw [hZ3]; exact Go.IntWalk.i64_in Z3 (by omega)
         have t4 : IntKind.i64.wrap (Z1 + Z2) = Z1 + Z2 := Go.IntWalk.i64_in _ (by omega)
         have t5 : IntKind.i64.wrap (Z1 + Z2 + Z3) = Z1 + Z2 + Z3 := Go.IntWalk.i64_in _ (by omega)
         have tn := Go.IntWalk.i64_in ((n : Int) + 1) (by omega)
         have hnI : (n : Int) < 3 := by omega
         have hkI : (k : Int) < (l.length : Int) + 2 := by omega
         have hjI : (j : Int) < (l.length : Int) + 2 := by omega
         clear hy1 hy2 hy3 hm1 hm2 hm3 hZ1 hZ2 hZ3 bi bk bj vi vk vj
         go_wp2_with fail
         have hXs : Hid (Arr3 (wr.setCell ⟨BX, n, none⟩ (.int .i64 (Z1 + Z2 + Z3))) BX (fun q => if q < n + 1 then xN l s i k j q else 0)) := hid ((hXn.out.set hn3 _).congr fun q hq => by
          by_cases e : q = n
          ·rw [if_pos e, if_pos (by omega), e]; exact hxe.out.symm
          ·rw [if_neg e]
           by_cases h : q < n
           ·rw [if_pos h, if_pos (by omega)]
           ·rw [if_neg h, if_neg (by omega)])
         go_still_tail 28, (by kernel_rfl)
         change wpList _ _ _ _ _ (World.drew _)
         go_wp2_with fail
         go_roundw
         case rel => exact ⟨n + 1, by omega, by go_num, hid (by have := xn.out; have hb := hBXe.out; exact exE), hid (hXs.out.ext exE)⟩
         case measure => simp [intOf]; omega
        ·have hn3' : n = 3 := by omega
         subst hn3'
         have c0 := hXn.out.c 0 (by decide); have c1' := hXn.out.c 1 (by decide); have c2' := hXn.out.c 2 (by decide)
         rw [if_pos (by decide)] at c0 c1' c2'
         have f0 := hXn.out.f 0 (by decide); have f1 := hXn.out.f 1 (by decide); have f2 := hXn.out.f 2 (by decide)
         have lX := hXn.out.l
         have hz14 := xn.out.size
         have hMn := hid (hM13.out.ext xn.out)
         have hok := hid (cnQ_ok hV.out s i k j)
         have hst : Hid (P3 l s i k (j + 1) (P2 l s i k (P1 l s i)) = stP l s i k j (P3 l s i k j (P2 l s i k (P1 l s i)))) := hid rfl
         have hdb := dN_bd hV.out s i k j
         have hb0 := xN_bd hV.out s i k j 0
         have hb1 := xN_bd hV.out s i k j 1
         have hb2 := xN_bd hV.out s i k j 2
         have hcn : Hid (cnQ l s i k j = if dN l s i k j < 0 then [-(dN l s i k j), -(xN l s i k j 0), -(xN l s i k j 1), -(xN l s i k j 2)] else [dN l s i k j, xN l s i k j 0, xN l s i k j 1, xN l s i k j 2]) := hid rfl
         have hsp : Hid (∀ L, stP l s i k j L = if dN l s i k j = 0 then L else putP L (cnQ l s i k j)) := hid fun L => rfl
         obtain ⟨L3, hL3⟩ : ∃ L, P3 l s i k j (P2 l s i k (P1 l s i)) = L := ⟨_, rfl⟩
         rw [hL3] at hst hMn
         obtain ⟨x0, hx0⟩ : ∃ z, xN l s i k j 0 = z := ⟨_, rfl⟩
         obtain ⟨x1, hx1⟩ : ∃ z, xN l s i k j 1 = z := ⟨_, rfl⟩
         obtain ⟨x2, hx2⟩ : ∃ z, xN l s i k j 2 = z := ⟨_, rfl⟩
         obtain ⟨d, hd⟩ : ∃ z, dN l s i k j = z := ⟨_, rfl⟩
         obtain ⟨L, hL⟩ : ∃ L, cnQ l s i k j = L := ⟨_, rfl⟩
         rw [hx0] at c0 hb0 hcn
         rw [hx1] at c1' hb1 hcn
         rw [hx2] at c2' hb2 hcn
         rw [hd] at hdb hcn hsp ⊢
         rw [hL] at hok hcn hsp
         rw [hL3] at hM13
         clear hX hx0 hx1 hx2 hd hL A13 A14 A15 hXn hgX x14 x13 hL3
         have hle : i * 64 + k * 8 + j ≤ 1000 := by omega
         rcases Int.lt_trichotomy d 0 with hd0 | hd0 | hd0
         ·have hkv : Hid (kv L = .agg #[.int .i64 (-d), .int .i64 (-x0), .int .i64 (-x1), .int .i64 (-x2)]) := hid (by rw [hcn.out, if_pos hd0]; rfl)
          have hs2 : Hid (P3 l s i k (j + 1) (P2 l s i k (P1 l s i)) = putP L3 L) := hid (by rw [hst.out, hsp.out, if_neg (by omega)])
          have td := Go.IntWalk.i64_in (-d) (by omega)
          have t0 := Go.IntWalk.i64_in (-x0) (by omega)
          have t1 := Go.IntWalk.i64_in (-x1) (by omega)
          have t2 := Go.IntWalk.i64_in (-x2) (by omega)
          have hd1 : 0 < -d := by omega
          clear hcn hsp hst hdb hb0 hb1 hb2
          obtain ⟨w4, hw4⟩ : ∃ w4, (((wr.setCell ⟨BX, 0, none⟩ (.int .i64 (-x0))).setCell ⟨BX, 1, none⟩ (.int .i64 (-x1))).setCell ⟨BX, 2, none⟩ (.int .i64 (-x2))).drew = w4 := ⟨_, rfl⟩
          have x4 : Ext w13 w4 := by rw [← hw4]; have := xn.out; have hb := hBX.out; exact exE
          have hM5 := hid (hM13.out.ext x4)
          obtain ⟨cc, hTM, hcc, hlc⟩ := hM5.out.m
          have hpt := hid (putM_any b cc L3 L hok.out.1 (by omega) (by omega) w4 hTM)
          rw [hkv.out, ← hw4] at hpt
          replace hcc := hid hcc
          replace hlc := hid hlc
          replace hw4 := hid hw4
          clear hTM x4
          go_wp2_with fail
          go_still_tail 13, (by kernel_rfl)
          change wpList _ _ _ _ _ (World.drew _)
          go_wp2_with fail
          refine hpt.out.mono ?_; rintro e w5 ⟨⟨vv, rfl⟩, hT5, hg5⟩
          rw [hw4.out] at hg5
          have hI6 : Hid (MapI wp b (putP L3 L) (i * 64 + k * 8 + (j + 1)) w5) := hid ⟨⟨cc + 1, hT5, by have := hcc.out; omega, by have := putP_len L3 L; have := hlc.out; omega⟩, hM5.out.g.andThen hg5 (fun j e => .inr e)⟩
          clear hT5 hg5 c0 c1' c2' f0 f1 f2
          go_wp2_with fail
          go_roundw
          case rel => exact ⟨j + 1, by omega, by go_num, by rw [hs2.out]; exact hI6⟩
          case measure => simp [intOf]; omega
         ·subst hd0
          have hs2 : Hid (P3 l s i k (j + 1) (P2 l s i k (P1 l s i)) = L3) := hid (by rw [hst.out, hsp.out, if_pos rfl])
          clear hcn hsp hst
          go_wp2_with fail
          go_roundw
          case rel => exact ⟨j + 1, by omega, by go_num, by rw [hs2.out]; exact hid (hMn.out.le (by omega))⟩
          case measure => simp [intOf]; omega
         ·have hkv : Hid (kv L = .agg #[.int .i64 d, .int .i64 x0, .int .i64 x1, .int .i64 x2]) := hid (by rw [hcn.out, if_neg (by omega)]; rfl)
          have hs2 : Hid (P3 l s i k (j + 1) (P2 l s i k (P1 l s i)) = putP L3 L) := hid (by rw [hst.out, hsp.out, if_neg (by omega)])
          have hd1 : ¬ d < 0 := by omega
          clear hcn hsp hst hdb hb0 hb1 hb2
          obtain ⟨cc, hTM, hcc, hlc⟩ := hMn.out.m
          have hpt := hid (putM_any b cc L3 L hok.out.1 (by omega) (by omega) wr hTM)
          rw [hkv.out] at hpt
          replace hcc := hid hcc
          replace hlc := hid hlc
          clear hTM
          go_wp2_with fail
          refine hpt.out.mono ?_; rintro e w5 ⟨⟨vv, rfl⟩, hT5, hg5⟩
          have hI6 : Hid (MapI wp b (putP L3 L) (i * 64 + k * 8 + (j + 1)) w5) := hid ⟨⟨cc + 1, hT5, by have := hcc.out; omega, by have := putP_len L3 L; have := hlc.out; omega⟩, hMn.out.g.andThen hg5 (fun j e => .inr e)⟩
          clear hT5 hg5 c0 c1' c2' f0 f1 f2
          go_wp2_with fail
          go_roundw
          case rel => exact ⟨j + 1, by omega, by go_num, by rw [hs2.out]; exact hI6⟩
          case measure => simp [intOf]; omega
      ·have hjk : j = k := by omega
       subst hjk
       have hI4 : Hid (MapI wo b (P2 l s i (j + 1) (P1 l s i)) (i * 64 + (j + 1) * 8) wr) := hid (hgp.out.then (hI3.out.le (by omega)))
       go_wp2_with fail
       go_roundw
       case rel => exact ⟨j + 1, by omega, by go_num, hI4⟩
       case measure => simp [intOf]; omega
    ·have hki : k = i := by omega
     subst hki
     have hI4 : Hid (MapI w0 b (P1 l s (k + 1)) ((k + 1) * 64) wr) := hid ((hI.out.ext (show Ext _ wo from hxo.out)).then (hI2.out.le (by omega)))
     go_wp2_with fail
     go_roundw
     case rel => exact ⟨k + 1, by omega, by go_num, hI4⟩
     case measure => simp [intOf]; omega
  ·have hil2 : i = l.length + 2 := by omega
   subst hil2
   obtain ⟨cc, hTM, _, _⟩ := hI.out.m
   have hk := hid (keep_any l hV.out u c s D b cc _ (P1_ok hV.out s _).good wB wr xr.out (Nat.le_of_eq hb.out) (hP.out.ext xB.out) hTM)
   go_wp2_with fail
   refine hk.out.mono ?_; rintro e w2 ⟨rfl, hg2, kk, hTk, hpk⟩
   replace hg2 := hid hg2
   replace hTk := hid hTk
   replace hpk := hid hpk
   clear hk hTM
   go_wp2_with fail
   refine (ordered_any (some b) w2).mono ?_; rintro e w3 ⟨rfl, rfl⟩
   go_wp2_with fail
   go_ret
   obtain ⟨mo, hmo, hmc⟩ := hTk.out.isMap
   have x23 : Ext w2 (w2.alloc (.cells #[.map (some b)] 133)) := exE
   have xB2 : Ext wB w2 := Ext.grown xr.out hg2.out (fun j e => by cases e; exact Nat.le_of_eq hb.out)
   exact ⟨w2.heap.size, b, cc, mo, kk, rfl, ⟨x23.heap hmo, by simp [go_sem]⟩, fun W hW => hTk.out.same (by rw [hW, hmo]), hpk.out, (xB.out.trans xB2).trans x23⟩
end Go.Proofs.Ytpnfhcnnodolbaa
