/- Texts of one proof, laid together: LaLb. -/
import Derived.Test.YtpnfhcnnodolbaaZY10
import Derived.Test.YtpnfhcnnodolbaaZY7
import Derived.Test.YtpnfhcnnodolbaaZY2
import Derived.Test.YtpnfhcnnodolbaaZScaledA34
import Derived.Test.YtpnfhcnnodolbaaZY32
import Derived.Test.YtpnfhcnnodolbaaZY31
import Derived.Test.YtpnfhcnnodolbaaZY29
import Derived.Test.YtpnfhcnnodolbaaZY28
import Derived.Test.YtpnfhcnnodolbaaZY19
import Derived.Test.YtpnfhcnnodolbaaZY18
import Derived.Test.YtpnfhcnnodolbaaZY17
import Derived.Test.YtpnfhcnnodolbaaZY16
import Derived.Test.YtpnfhcnnodolbaaZY8
import Derived.Test.YtpnfhcnnodolbaaZScaledA36
import Derived.Test.YtpnfhcnnodolbaaZY12
import Derived.Test.YtpnfhcnnodolbaaZY3
import Derived.Test.YtpnfhcnnodolbaaZY4
import Derived.Test.YtpnfhcnnodolbaaZScaledA35
import Derived.Test.YtpnfhcnnodolbaaZY9
import Derived.Test.YtpnfhcnnodolbaaZY1
import Derived.Test.YtpnfhcnnodolbaaZY22
import Derived.Test.YtpnfhcnnodolbaaZY20
import Derived.Test.YtpnfhcnnodolbaaZScaledA37
import Derived.Test.YtpnfhcnnodolbaaZY26
import Derived.Test.YtpnfhcnnodolbaaZY25
import Derived.Test.YtpnfhcnnodolbaaZY11
import Derived.Test.YtpnfhcnnodolbaaZY21
import Derived.Test.YtpnfhcnnodolbaaZY5
import Derived.Test.YtpnfhcnnodolbaaZY13
import Derived.Test.YtpnfhcnnodolbaaZY23
import Derived.Test.YtpnfhcnnodolbaaZY14
import Derived.Test.YtpnfhcnnodolbaaZY27
import Derived.Test.YtpnfhcnnodolbaaZY6
import Derived.Test.YtpnfhcnnodolbaaZY30
set_option linter.unusedVariables false
set_option linter.unusedSimpArgs false
set_option linter.unusedSectionVars false
set_option linter.unnecessarySimpa false
set_option maxRecDepth 100000
namespace Go.Proofs.Ytpnfhcnnodolbaa
open Go Go.RowKit Game
set_option maxHeartbeats 40000000 in
theorem stL15 {A_ : Act} {yA yB yD yE yF yG yH yJ yK yL yM yN yO yS yT yU yW yX yY yZ zA zB zC zD zE zF zG zH zI zJ zK zL zM zN zO zP zQ zR zS zT zU zV zW zX zY zZ uA uB uC uD uE uF uG uH uI uJ uK uL uM uN uO uP uQ uR uS uT uU uV uW uX uY uZ iA iB iC iD iE iF iG iH iI iJ iK iL iM iN iO iP iQ iR iS iT iU iV iW iX iY iZ oA oB oC oD oE oF oG oH oI oJ oK oL oM oN oO oP oQ oR oS oT oU oV oW oX oY oZ qA qB qC qD qE qF qG qH qI qJ qK qL qM qN qO qP qQ qR qS qT qU qV qW qX qY qZ rA rB rC rD rE rF rG rH rI rJ rK rL rM rN rO rP rQ rR rS rT rU rV rW rX rY rZ jA jB jC jD jE jF jG jH jI jJ jK jL jM jN jO jP jQ jR jS jT jU : Value} {by_ n cy T : Nat} {u c M S MS R A0 A1 A2 A3 E : Int} {s : Bool} {w : World} (hA0_ : A_ = { tmps := #[yA, yB, .bool s, yD, yE, yF, yG, yH, .pointer (some ⟨T, 0, none⟩), yJ, yK, yL, yM, yN, yO, .int .i64 (n : Int), .int .i64 M, .int .i64 S, yS, yT, yU, .slice (some ⟨by_, 0, none⟩) n cy, yW, yX, yY, yZ, zA, zB, zC, zD, zE, zF, zG, zH, zI, zJ, zK, zL, zM, zN, zO, zP, zQ, zR, zS, zT, zU, zV, zW, zX, zY, zZ, uA, uB, uC, uD, uE, uF, uG, uH, uI, uJ, uK, uL, uM, uN, uO, uP, uQ, uR, uS, uT, uU, uV, uW, uX, uY, uZ, iA, iB, iC, iD, iE, iF, iG, iH, iI, iJ, iK, iL, iM, iN, iO, iP, iQ, iR, iS, iT, iU, iV, iW, iX, iY, iZ, oA, oB, oC, oD, oE, oF, oG, oH, oI, oJ, oK, oL, oM, oN, oO, oP, oQ, oR, oS, oT, oU, oV, oW, oX, oY, oZ, qA, qB, qC, qD, qE, qF, qG, qH, qI, qJ, qK, qL, qM, qN, qO, qP, qQ, qR, qS, qT, qU, qV, qW, qX, qY, qZ, rA, rB, rC, rD, rE, rF, rG, rH, rI, rJ, rK, rL, rM, rN, rO, rP, rQ, rR, rS, rT, rU, rV, rW, rX, rY, rZ, jA, jB, jC, jD, jE, jF, jG, jH, jI, jJ, jK, jL, jM, jN, jO, jP, jQ, jR, jS, jT, jU], defers := [] }) (a0 : ¬ (n : Int) = 0) (a1 : IntKind.i64.wrap (M + S) = MS) (a2 : MS.tmod (n : Int) = R) (a3 : IntKind.i64.wrap R = R) (hsh : ∀ W, Ext w W → Calls Try.prog 40 #[.slice (some ⟨by_, 0, none⟩) n cy, .agg #[.int .i64 u, .int .i64 c], .bool s, .int .i64 R] W fun e w' => e = .returned (.tuple #[.agg #[.int .i64 A0, .int .i64 A1], .agg #[.int .i64 A2, .int .i64 A3], .int .i64 E]) ∧ Ext W w') (t0 : w.cell? ⟨T, 0, none⟩ = some (.int .i64 u)) (t1 : w.cell? ⟨T, 1, none⟩ = some (.int .i64 c)) :
 Code.wp Try.prog (rgn Try.f13 15) (fun e a' w' => e = .normal ∧ ∃ (B32 : Nat) (B33 : Nat) (v9_ : Value), a' = ({ tmps := #[yA,yB,.bool s,yD,yE,yF,yG,yH,.pointer (some ⟨T, 0, none⟩),yJ,yK,yL,yM,yN,yO,.int .i64 (n : Int),.int .i64 M,.int .i64 S,yS,yT,yU,.slice (some ⟨by_, 0, none⟩) n cy,yW,yX,yY,yZ,zA,zB,zC,zD,zE,zF,.pointer (some ⟨B32, 0, none⟩),.pointer (some ⟨B33, 0, none⟩),.int .i64 E,zJ,zK,zL,zM,zN,zO,zP,zQ,zR,zS,zT,zU,zV,zW,zX,zY,zZ,uA,uB,uC,uD,uE,uF,uG,uH,uI,uJ,uK,uL,uM,uN,uO,uP,uQ,uR,uS,uT,uU,uV,uW,uX,uY,uZ,iA,iB,iC,iD,iE,iF,iG,iH,iI,iJ,iK,iL,iM,iN,iO,iP,iQ,iR,iS,iT,iU,iV,iW,iX,iY,iZ,oA,oB,oC,oD,oE,oF,oG,oH,oI,oJ,oK,oL,oM,v9_,.slice (some ⟨by_, 0, none⟩) n cy,.agg #[.int .i64 u, .int .i64 c],.bool s,.int .i64 M,.int .i64 S,.int .i64 MS,.int .i64 (n : Int),.int .i64 R,.tuple #[.agg #[.int .i64 A0, .int .i64 A1], .agg #[.int .i64 A2, .int .i64 A3], .int .i64 E],.agg #[.int .i64 A0, .int .i64 A1],.agg #[.int .i64 A2, .int .i64 A3],.int .i64 E,qA,qB,qC,qD,qE,qF,qG,qH,qI,qJ,qK,qL,qM,qN,qO,qP,qQ,qR,qS,qT,qU,qV,qW,qX,qY,qZ,rA,rB,rC,rD,rE,rF,rG,rH,rI,rJ,rK,rL,rM,rN,rO,rP,rQ,rR,rS,rT,rU,rV,rW,rX,rY,rZ,jA,jB,jC,jD,jE,jF,jG,jH,jI,jJ,jK,jL,jM,jN,jO,jP,jQ,jR,jS,jT,jU], defers := [] } : Act) ∧ Ext w w' ∧ w'.cell? ⟨B32, 0, none⟩ = some (.int .i64 A0) ∧ w'.cell? ⟨B32, 1, none⟩ = some (.int .i64 A1) ∧ w'.frozen? ⟨B32, 0, none⟩ = false ∧ w'.frozen? ⟨B32, 1, none⟩ = false ∧ w.heap.size ≤ B32 ∧ w'.cell? ⟨B33, 0, none⟩ = some (.int .i64 A2) ∧ w'.cell? ⟨B33, 1, none⟩ = some (.int .i64 A3) ∧ w'.frozen? ⟨B33, 0, none⟩ = false ∧ w'.frozen? ⟨B33, 1, none⟩ = false ∧ w.heap.size ≤ B33 ∧ B32 ≠ B33) A_ w := by
 conv => arg 2; whnf
 refine st_intro (fun Q2 hQ2 => ?_)
 have hA_ := hid hA0_
 clear hA0_
 have hpan : ∀ c a a' w w', Q2 (.panic c) a w → Q2 (.panic c) a' w' := by rw [hQ2]; rintro c a a' w w' ⟨h, _⟩; cases h
 replace hQ2 := hid hQ2
 replace hsh := hid hsh
 have a0n : ¬ n = 0 := by omega
 have e0 : ((n : Int) == 0) = false := by rw [beq_eq_false_iff_ne]; exact a0
 have hRD_ := hid (fun w' (x_ : Ext w w') => And.intro (Ext.cell x_ t0) (Ext.cell x_ t1))
 refine wp_region_held_drew (S := fun w' => Ext w w') (by kernel_rfl) exE fun hHeld => ?_
 try simp only [List.append_eq, List.cons_append, List.nil_append]
 refine name_any (fun W0 hW => ?_)
 have s0 : Ext w W0 := by rw [hW]; exact hHeld
 clear hW hHeld
 refine wpF_intro 18 (by kernel_rfl) (fun F hF => ?_)
 replace hF := hid hF
 have N1_0 : ∀ (B32 : Nat) (B33 : Nat) (v9_ : Value) (f_ : Nat) (l_ : Array Bool) (W0 : World) (a_ : Act), f_ = 2 → l_ = #[true, true, true, true, true, true, true, true, true, true, true, true, true, true, true, true, false, false] → a_ = ({ tmps := #[yA,yB,.bool s,yD,yE,yF,yG,yH,.pointer (some ⟨T, 0, none⟩),yJ,yK,yL,yM,yN,yO,.int .i64 (n : Int),.int .i64 M,.int .i64 S,yS,yT,yU,.slice (some ⟨by_, 0, none⟩) n cy,yW,yX,yY,yZ,zA,zB,zC,zD,zE,zF,.pointer (some ⟨B32, 0, none⟩),.pointer (some ⟨B33, 0, none⟩),zI,zJ,zK,zL,zM,zN,zO,zP,zQ,zR,zS,zT,zU,zV,zW,zX,zY,zZ,uA,uB,uC,uD,uE,uF,uG,uH,uI,uJ,uK,uL,uM,uN,uO,uP,uQ,uR,uS,uT,uU,uV,uW,uX,uY,uZ,iA,iB,iC,iD,iE,iF,iG,iH,iI,iJ,iK,iL,iM,iN,iO,iP,iQ,iR,iS,iT,iU,iV,iW,iX,iY,iZ,oA,oB,oC,oD,oE,oF,oG,oH,oI,oJ,oK,oL,oM,v9_,.slice (some ⟨by_, 0, none⟩) n cy,.agg #[.int .i64 u, .int .i64 c],.bool s,.int .i64 M,.int .i64 S,.int .i64 MS,.int .i64 (n : Int),.int .i64 R,.tuple #[.agg #[.int .i64 A0, .int .i64 A1], .agg #[.int .i64 A2, .int .i64 A3], .int .i64 E],.agg #[.int .i64 A0, .int .i64 A1],.agg #[.int .i64 A2, .int .i64 A3],.int .i64 E,qA,qB,qC,qD,qE,qF,qG,qH,qI,qJ,qK,qL,qM,qN,qO,qP,qQ,qR,qS,qT,qU,qV,qW,qX,qY,qZ,rA,rB,rC,rD,rE,rF,rG,rH,rI,rJ,rK,rL,rM,rN,rO,rP,rQ,rR,rS,rT,rU,rV,rW,rX,rY,rZ,jA,jB,jC,jD,jE,jF,jG,jH,jI,jJ,jK,jL,jM,jN,jO,jP,jQ,jR,jS,jT,jU], defers := [] } : Act) → Ext w W0 → Hid (W0.cell? ⟨B32, 0, none⟩ = some (.int .i64 A0)) → Hid (W0.cell? ⟨B32, 1, none⟩ = some (.int .i64 A1)) → Hid (W0.frozen? ⟨B32, 0, none⟩ = false) → Hid (W0.frozen? ⟨B32, 1, none⟩ = false) → Hid (w.heap.size ≤ B32) → Hid (W0.cell? ⟨B33, 0, none⟩ = some (.int .i64 0)) → Hid (W0.cell? ⟨B33, 1, none⟩ = some (.int .i64 0)) → Hid (W0.frozen? ⟨B33, 0, none⟩ = false) → Hid (W0.frozen? ⟨B33, 1, none⟩ = false) → Hid (w.heap.size ≤ B33) → Hid (B32 ≠ B33) → F f_ l_ a_ W0 := by
  intro B32 B33 v9_ f_ l_ W0 a_ hf_ hl_ ha_ s0 b13_0 b13_1 d13_0 d13_1 z13 b14_0 b14_1 d14_0 d14_1 z14 n13_14
  subst hf_ hl_ ha_
  refine (hF.out _ _ _ _).2 ?_
  refine wpAnyH_ready (rs := [16]) (by kernel_rfl) (by simp) ?_
  refine AllReadyH.cons (o := _) rfl (fun K hK => ?_) AllReadyH.nil
  have f0 := b14_0.out
  have g0 := d14_0.out
  have f1 := b14_1.out
  have g1 := d14_1.out
  have l0_ := s0.size
  have z0_ := z14.out
  go_simp
  refine hK.out _ _ exE (fun _ => ?_)
  clear hK K
  try simp only [sxA, sxB, sxC, Act.put, sxD, sxE, sxF]
  refine name_any (fun W1 hW => ?_)
  have s1 : Ext w W1 := by rw [hW]; exact exE
  have nb0 := hid (show W1.cell? ⟨B33, 0, none⟩ = some (.int .i64 A2) by rw [hW]; simp [go_sem, f0, f1])
  have nb1 := hid (show W1.cell? ⟨B33, 1, none⟩ = some (.int .i64 A3) by rw [hW]; simp [go_sem, f0, f1])
  have nd0 := hid (show W1.frozen? ⟨B33, 0, none⟩ = false by rw [hW]; simp [go_sem, World.frozen?_setCell, g0, g1])
  have nd1 := hid (show W1.frozen? ⟨B33, 1, none⟩ = false by rw [hW]; simp [go_sem, World.frozen?_setCell, g0, g1])
  have ob13_0 : Hid (W1.cell? ⟨B32, 0, none⟩ = some (.int .i64 A0)) := hid (by rw [hW]; exact (box_put n13_14.out (box_put n13_14.out b13_0.out)))
  have ob13_1 : Hid (W1.cell? ⟨B32, 1, none⟩ = some (.int .i64 A1)) := hid (by rw [hW]; exact (box_put n13_14.out (box_put n13_14.out b13_1.out)))
  have od13_0 : Hid (W1.frozen? ⟨B32, 0, none⟩ = false) := hid (by rw [hW]; simp [go_sem, World.frozen?_setCell, d13_0.out])
  have od13_1 : Hid (W1.frozen? ⟨B32, 1, none⟩ = false) := hid (by rw [hW]; simp [go_sem, World.frozen?_setCell, d13_1.out])
  clear hW
  refine tkB (i := 17) (v := ?_) rfl hpan ?yl ?_
  case yl => (intro w hSw; (try dsimp only at hSw);  go_simp); with_reducible rfl
  try simp only [sxA, sxB, sxC, Act.put, sxD, sxE, sxF]
  refine wpAnyH_done (by kernel_rfl) ?_ _
  try simp only [sxA, sxB, sxC, Act.put, sxD, sxE, sxF]
  rw [hQ2.out]
  refine ⟨rfl, B32, B33, ?u1_0_1, ?eq1_1, s1, ob13_0.out, ob13_1.out, od13_0.out, od13_1.out, z13.out, nb0.out, nb1.out, nd0.out, nd1.out, z14.out, n13_14.out⟩
  case eq1_1 => (first | with_reducible rfl | rfl)
 have N1_1 : ∀ (B32 : Nat) (B33 : Nat) (v9_ : Value) (f_ : Nat) (l_ : Array Bool) (W0 : World) (a_ : Act), f_ = 3 → l_ = #[true, true, true, true, true, true, true, true, true, true, true, true, true, true, true, false, false, false] → a_ = ({ tmps := #[yA,yB,.bool s,yD,yE,yF,yG,yH,.pointer (some ⟨T, 0, none⟩),yJ,yK,yL,yM,yN,yO,.int .i64 (n : Int),.int .i64 M,.int .i64 S,yS,yT,yU,.slice (some ⟨by_, 0, none⟩) n cy,yW,yX,yY,yZ,zA,zB,zC,zD,zE,zF,.pointer (some ⟨B32, 0, none⟩),.pointer (some ⟨B33, 0, none⟩),zI,zJ,zK,zL,zM,zN,zO,zP,zQ,zR,zS,zT,zU,zV,zW,zX,zY,zZ,uA,uB,uC,uD,uE,uF,uG,uH,uI,uJ,uK,uL,uM,uN,uO,uP,uQ,uR,uS,uT,uU,uV,uW,uX,uY,uZ,iA,iB,iC,iD,iE,iF,iG,iH,iI,iJ,iK,iL,iM,iN,iO,iP,iQ,iR,iS,iT,iU,iV,iW,iX,iY,iZ,oA,oB,oC,oD,oE,oF,oG,oH,oI,oJ,oK,oL,oM,v9_,.slice (some ⟨by_, 0, none⟩) n cy,.agg #[.int .i64 u, .int .i64 c],.bool s,.int .i64 M,.int .i64 S,.int .i64 MS,.int .i64 (n : Int),.int .i64 R,.tuple #[.agg #[.int .i64 A0, .int .i64 A1], .agg #[.int .i64 A2, .int .i64 A3], .int .i64 E],.agg #[.int .i64 A0, .int .i64 A1],.agg #[.int .i64 A2, .int .i64 A3],.int .i64 E,qA,qB,qC,qD,qE,qF,qG,qH,qI,qJ,qK,qL,qM,qN,qO,qP,qQ,qR,qS,qT,qU,qV,qW,qX,qY,qZ,rA,rB,rC,rD,rE,rF,rG,rH,rI,rJ,rK,rL,rM,rN,rO,rP,rQ,rR,rS,rT,rU,rV,rW,rX,rY,rZ,jA,jB,jC,jD,jE,jF,jG,jH,jI,jJ,jK,jL,jM,jN,jO,jP,jQ,jR,jS,jT,jU], defers := [] } : Act) → Ext w W0 → Hid (W0.cell? ⟨B32, 0, none⟩ = some (.int .i64 0)) → Hid (W0.cell? ⟨B32, 1, none⟩ = some (.int .i64 0)) → Hid (W0.frozen? ⟨B32, 0, none⟩ = false) → Hid (W0.frozen? ⟨B32, 1, none⟩ = false) → Hid (w.heap.size ≤ B32) → Hid (W0.cell? ⟨B33, 0, none⟩ = some (.int .i64 0)) → Hid (W0.cell? ⟨B33, 1, none⟩ = some (.int .i64 0)) → Hid (W0.frozen? ⟨B33, 0, none⟩ = false) → Hid (W0.frozen? ⟨B33, 1, none⟩ = false) → Hid (w.heap.size ≤ B33) → Hid (B32 ≠ B33) → F f_ l_ a_ W0 := by
  intro B32 B33 v9_ f_ l_ W0 a_ hf_ hl_ ha_ s0 b13_0 b13_1 d13_0 d13_1 z13 b14_0 b14_1 d14_0 d14_1 z14 n13_14
  subst hf_ hl_ ha_
  refine (hF.out _ _ _ _).2 ?_
  refine wpAnyH_ready (rs := [15]) (by kernel_rfl) (by simp) ?_
  refine AllReadyH.cons (o := _) rfl (fun K hK => ?_) AllReadyH.nil
  have f0 := b13_0.out
  have g0 := d13_0.out
  have f1 := b13_1.out
  have g1 := d13_1.out
  have l0_ := s0.size
  have z0_ := z13.out
  go_simp
  refine hK.out _ _ exE (fun _ => ?_)
  clear hK K
  try simp only [sxA, sxB, sxC, Act.put, sxD, sxE, sxF]
  refine name_any (fun W1 hW => ?_)
  have s1 : Ext w W1 := by rw [hW]; exact exE
  have nb0 := hid (show W1.cell? ⟨B32, 0, none⟩ = some (.int .i64 A0) by rw [hW]; simp [go_sem, f0, f1])
  have nb1 := hid (show W1.cell? ⟨B32, 1, none⟩ = some (.int .i64 A1) by rw [hW]; simp [go_sem, f0, f1])
  have nd0 := hid (show W1.frozen? ⟨B32, 0, none⟩ = false by rw [hW]; simp [go_sem, World.frozen?_setCell, g0, g1])
  have nd1 := hid (show W1.frozen? ⟨B32, 1, none⟩ = false by rw [hW]; simp [go_sem, World.frozen?_setCell, g0, g1])
  have ob14_0 : Hid (W1.cell? ⟨B33, 0, none⟩ = some (.int .i64 0)) := hid (by rw [hW]; exact (box_put (Ne.symm n13_14.out) (box_put (Ne.symm n13_14.out) b14_0.out)))
  have ob14_1 : Hid (W1.cell? ⟨B33, 1, none⟩ = some (.int .i64 0)) := hid (by rw [hW]; exact (box_put (Ne.symm n13_14.out) (box_put (Ne.symm n13_14.out) b14_1.out)))
  have od14_0 : Hid (W1.frozen? ⟨B33, 0, none⟩ = false) := hid (by rw [hW]; simp [go_sem, World.frozen?_setCell, d14_0.out])
  have od14_1 : Hid (W1.frozen? ⟨B33, 1, none⟩ = false) := hid (by rw [hW]; simp [go_sem, World.frozen?_setCell, d14_1.out])
  clear hW
  refine (hF.out _ _ _ _).1 ?_
  exact N1_0 B32 B33 _ _ _ W1 _ (by first | rfl | kernel_rfl) (by first | rfl | kernel_rfl) (by (try simp only [sxA, sxB, sxC, Act.put, sxD, sxE, sxF]); first | done | with_reducible rfl | rfl) s1 nb0 nb1 nd0 nd1 z13 ob14_0 ob14_1 od14_0 od14_1 z14 n13_14
 have N1_2 : ∀ (B32 : Nat) (v9_ : Value) (f_ : Nat) (l_ : Array Bool) (W0 : World) (a_ : Act), f_ = 4 → l_ = #[true, true, true, true, true, true, true, true, true, true, true, true, true, true, false, false, false, false] → a_ = ({ tmps := #[yA,yB,.bool s,yD,yE,yF,yG,yH,.pointer (some ⟨T, 0, none⟩),yJ,yK,yL,yM,yN,yO,.int .i64 (n : Int),.int .i64 M,.int .i64 S,yS,yT,yU,.slice (some ⟨by_, 0, none⟩) n cy,yW,yX,yY,yZ,zA,zB,zC,zD,zE,zF,.pointer (some ⟨B32, 0, none⟩),zH,zI,zJ,zK,zL,zM,zN,zO,zP,zQ,zR,zS,zT,zU,zV,zW,zX,zY,zZ,uA,uB,uC,uD,uE,uF,uG,uH,uI,uJ,uK,uL,uM,uN,uO,uP,uQ,uR,uS,uT,uU,uV,uW,uX,uY,uZ,iA,iB,iC,iD,iE,iF,iG,iH,iI,iJ,iK,iL,iM,iN,iO,iP,iQ,iR,iS,iT,iU,iV,iW,iX,iY,iZ,oA,oB,oC,oD,oE,oF,oG,oH,oI,oJ,oK,oL,oM,v9_,.slice (some ⟨by_, 0, none⟩) n cy,.agg #[.int .i64 u, .int .i64 c],.bool s,.int .i64 M,.int .i64 S,.int .i64 MS,.int .i64 (n : Int),.int .i64 R,.tuple #[.agg #[.int .i64 A0, .int .i64 A1], .agg #[.int .i64 A2, .int .i64 A3], .int .i64 E],.agg #[.int .i64 A0, .int .i64 A1],.agg #[.int .i64 A2, .int .i64 A3],.int .i64 E,qA,qB,qC,qD,qE,qF,qG,qH,qI,qJ,qK,qL,qM,qN,qO,qP,qQ,qR,qS,qT,qU,qV,qW,qX,qY,qZ,rA,rB,rC,rD,rE,rF,rG,rH,rI,rJ,rK,rL,rM,rN,rO,rP,rQ,rR,rS,rT,rU,rV,rW,rX,rY,rZ,jA,jB,jC,jD,jE,jF,jG,jH,jI,jJ,jK,jL,jM,jN,jO,jP,jQ,jR,jS,jT,jU], defers := [] } : Act) → Ext w W0 → Hid (W0.cell? ⟨B32, 0, none⟩ = some (.int .i64 0)) → Hid (W0.cell? ⟨B32, 1, none⟩ = some (.int .i64 0)) → Hid (W0.frozen? ⟨B32, 0, none⟩ = false) → Hid (W0.frozen? ⟨B32, 1, none⟩ = false) → Hid (w.heap.size ≤ B32) → F f_ l_ a_ W0 := by
  intro B32 v9_ f_ l_ W0 a_ hf_ hl_ ha_ s0 b13_0 b13_1 d13_0 d13_1 z13
  subst hf_ hl_ ha_
  refine (hF.out _ _ _ _).2 ?_
  clear N1_0
  refine wpAnyH_ready (rs := [14]) (by kernel_rfl) (by simp) ?_
  refine AllReadyH.cons (o := _) rfl (fun K hK => ?_) AllReadyH.nil
  go_simp
  refine hK.out _ _ (Ext.alloc s0 _) (fun _ => ?_)
  clear hK K
  try simp only [sxA, sxB, sxC, Act.put, sxD, sxE, sxF]
  refine name_any (fun W1 hW => ?_)
  have e1 : Ext W0 W1 := by rw [hW]; exact Ext.alloc (Ext.refl _) _
  have s1 := s0.trans e1
  have nb0 := hid (show W1.cell? ⟨W0.heap.size, 0, none⟩ = some (.int .i64 0) by rw [hW]; simp [go_sem])
  have nb1 := hid (show W1.cell? ⟨W0.heap.size, 1, none⟩ = some (.int .i64 0) by rw [hW]; simp [go_sem])
  have nd0 := hid (show W1.frozen? ⟨W0.heap.size, 0, none⟩ = false by rw [hW]; simp [go_sem])
  have nd1 := hid (show W1.frozen? ⟨W0.heap.size, 1, none⟩ = false by rw [hW]; simp [go_sem])
  clear hW
  refine (hF.out _ _ _ _).1 ?_
  exact N1_1 B32 W0.heap.size _ _ _ W1 _ (by first | rfl | kernel_rfl) (by first | rfl | kernel_rfl) (by (try simp only [sxA, sxB, sxC, Act.put, sxD, sxE, sxF]); first | done | with_reducible rfl | rfl) s1 (hid (e1.cell b13_0.out)) (hid (e1.cell b13_1.out)) (hid ((e1.frozen (cell_lt b13_0.out)).trans d13_0.out)) (hid ((e1.frozen (cell_lt b13_1.out)).trans d13_1.out)) z13 nb0 nb1 nd0 nd1 (hid s0.size) (hid (fun e => by have h9 := cell_lt b13_0.out; dsimp only at h9; omega))
 have N1_3 : ∀ (B33 : Nat) (v9_ : Value) (f_ : Nat) (l_ : Array Bool) (W0 : World) (a_ : Act), f_ = 4 → l_ = #[true, true, true, true, true, true, true, true, true, true, true, true, true, false, true, false, false, false] → a_ = ({ tmps := #[yA,yB,.bool s,yD,yE,yF,yG,yH,.pointer (some ⟨T, 0, none⟩),yJ,yK,yL,yM,yN,yO,.int .i64 (n : Int),.int .i64 M,.int .i64 S,yS,yT,yU,.slice (some ⟨by_, 0, none⟩) n cy,yW,yX,yY,yZ,zA,zB,zC,zD,zE,zF,zG,.pointer (some ⟨B33, 0, none⟩),zI,zJ,zK,zL,zM,zN,zO,zP,zQ,zR,zS,zT,zU,zV,zW,zX,zY,zZ,uA,uB,uC,uD,uE,uF,uG,uH,uI,uJ,uK,uL,uM,uN,uO,uP,uQ,uR,uS,uT,uU,uV,uW,uX,uY,uZ,iA,iB,iC,iD,iE,iF,iG,iH,iI,iJ,iK,iL,iM,iN,iO,iP,iQ,iR,iS,iT,iU,iV,iW,iX,iY,iZ,oA,oB,oC,oD,oE,oF,oG,oH,oI,oJ,oK,oL,oM,v9_,.slice (some ⟨by_, 0, none⟩) n cy,.agg #[.int .i64 u, .int .i64 c],.bool s,.int .i64 M,.int .i64 S,.int .i64 MS,.int .i64 (n : Int),.int .i64 R,.tuple #[.agg #[.int .i64 A0, .int .i64 A1], .agg #[.int .i64 A2, .int .i64 A3], .int .i64 E],.agg #[.int .i64 A0, .int .i64 A1],.agg #[.int .i64 A2, .int .i64 A3],.int .i64 E,qA,qB,qC,qD,qE,qF,qG,qH,qI,qJ,qK,qL,qM,qN,qO,qP,qQ,qR,qS,qT,qU,qV,qW,qX,qY,qZ,rA,rB,rC,rD,rE,rF,rG,rH,rI,rJ,rK,rL,rM,rN,rO,rP,rQ,rR,rS,rT,rU,rV,rW,rX,rY,rZ,jA,jB,jC,jD,jE,jF,jG,jH,jI,jJ,jK,jL,jM,jN,jO,jP,jQ,jR,jS,jT,jU], defers := [] } : Act) → Ext w W0 → Hid (W0.cell? ⟨B33, 0, none⟩ = some (.int .i64 0)) → Hid (W0.cell? ⟨B33, 1, none⟩ = some (.int .i64 0)) → Hid (W0.frozen? ⟨B33, 0, none⟩ = false) → Hid (W0.frozen? ⟨B33, 1, none⟩ = false) → Hid (w.heap.size ≤ B33) → F f_ l_ a_ W0 := by
  intro B33 v9_ f_ l_ W0 a_ hf_ hl_ ha_ s0 b14_0 b14_1 d14_0 d14_1 z14
  subst hf_ hl_ ha_
  refine (hF.out _ _ _ _).2 ?_
  clear N1_0 N1_2
  refine wpAnyH_ready (rs := [13]) (by kernel_rfl) (by simp) ?_
  refine AllReadyH.cons (o := _) rfl (fun K hK => ?_) AllReadyH.nil
  go_simp
  refine hK.out _ _ (Ext.alloc s0 _) (fun _ => ?_)
  clear hK K
  try simp only [sxA, sxB, sxC, Act.put, sxD, sxE, sxF]
  refine name_any (fun W1 hW => ?_)
  have e1 : Ext W0 W1 := by rw [hW]; exact Ext.alloc (Ext.refl _) _
  have s1 := s0.trans e1
  have nb0 := hid (show W1.cell? ⟨W0.heap.size, 0, none⟩ = some (.int .i64 0) by rw [hW]; simp [go_sem])
  have nb1 := hid (show W1.cell? ⟨W0.heap.size, 1, none⟩ = some (.int .i64 0) by rw [hW]; simp [go_sem])
  have nd0 := hid (show W1.frozen? ⟨W0.heap.size, 0, none⟩ = false by rw [hW]; simp [go_sem])
  have nd1 := hid (show W1.frozen? ⟨W0.heap.size, 1, none⟩ = false by rw [hW]; simp [go_sem])
  clear hW
  refine (hF.out _ _ _ _).1 ?_
  exact N1_1 W0.heap.size B33 _ _ _ W1 _ (by first | rfl | kernel_rfl) (by first | rfl | kernel_rfl) (by (try simp only [sxA, sxB, sxC, Act.put, sxD, sxE, sxF]); first | done | with_reducible rfl | rfl) s1 nb0 nb1 nd0 nd1 (hid s0.size) (hid (e1.cell b14_0.out)) (hid (e1.cell b14_1.out)) (hid ((e1.frozen (cell_lt b14_0.out)).trans d14_0.out)) (hid ((e1.frozen (cell_lt b14_1.out)).trans d14_1.out)) z14 (hid (fun e => by have h9 := cell_lt b14_0.out; dsimp only at h9; omega))
 have N1_4 : ∀ (B32 : Nat) (B33 : Nat) (f_ : Nat) (l_ : Array Bool) (W0 : World) (a_ : Act), f_ = 8 → l_ = #[true, true, true, true, true, true, true, true, false, false, false, false, false, true, true, false, false, false] → a_ = ({ tmps := #[yA,yB,.bool s,yD,yE,yF,yG,yH,.pointer (some ⟨T, 0, none⟩),yJ,yK,yL,yM,yN,yO,.int .i64 (n : Int),.int .i64 M,.int .i64 S,yS,yT,yU,.slice (some ⟨by_, 0, none⟩) n cy,yW,yX,yY,yZ,zA,zB,zC,zD,zE,zF,.pointer (some ⟨B32, 0, none⟩),.pointer (some ⟨B33, 0, none⟩),zI,zJ,zK,zL,zM,zN,zO,zP,zQ,zR,zS,zT,zU,zV,zW,zX,zY,zZ,uA,uB,uC,uD,uE,uF,uG,uH,uI,uJ,uK,uL,uM,uN,uO,uP,uQ,uR,uS,uT,uU,uV,uW,uX,uY,uZ,iA,iB,iC,iD,iE,iF,iG,iH,iI,iJ,iK,iL,iM,iN,iO,iP,iQ,iR,iS,iT,iU,iV,iW,iX,iY,iZ,oA,oB,oC,oD,oE,oF,oG,oH,oI,oJ,oK,oL,oM,oN,.slice (some ⟨by_, 0, none⟩) n cy,.agg #[.int .i64 u, .int .i64 c],.bool s,.int .i64 M,.int .i64 S,.int .i64 MS,.int .i64 (n : Int),.int .i64 R,oW,oX,oY,oZ,qA,qB,qC,qD,qE,qF,qG,qH,qI,qJ,qK,qL,qM,qN,qO,qP,qQ,qR,qS,qT,qU,qV,qW,qX,qY,qZ,rA,rB,rC,rD,rE,rF,rG,rH,rI,rJ,rK,rL,rM,rN,rO,rP,rQ,rR,rS,rT,rU,rV,rW,rX,rY,rZ,jA,jB,jC,jD,jE,jF,jG,jH,jI,jJ,jK,jL,jM,jN,jO,jP,jQ,jR,jS,jT,jU], defers := [] } : Act) → Ext w W0 → Hid (W0.cell? ⟨B32, 0, none⟩ = some (.int .i64 0)) → Hid (W0.cell? ⟨B32, 1, none⟩ = some (.int .i64 0)) → Hid (W0.frozen? ⟨B32, 0, none⟩ = false) → Hid (W0.frozen? ⟨B32, 1, none⟩ = false) → Hid (w.heap.size ≤ B32) → Hid (W0.cell? ⟨B33, 0, none⟩ = some (.int .i64 0)) → Hid (W0.cell? ⟨B33, 1, none⟩ = some (.int .i64 0)) → Hid (W0.frozen? ⟨B33, 0, none⟩ = false) → Hid (W0.frozen? ⟨B33, 1, none⟩ = false) → Hid (w.heap.size ≤ B33) → Hid (B32 ≠ B33) → F f_ l_ a_ W0 := by
  intro B32 B33 f_ l_ W0 a_ hf_ hl_ ha_ s0 b13_0 b13_1 d13_0 d13_1 z13 b14_0 b14_1 d14_0 d14_1 z14 n13_14
  subst hf_ hl_ ha_
  refine (hF.out _ _ _ _).2 ?_
  clear N1_0 N1_2 N1_3
  refine wpAnyH_ready (rs := [8]) (by kernel_rfl) (by simp) ?_
  refine AllReadyH.cons (o := _) rfl (fun K hK => ?_) AllReadyH.nil
  refine tk_call (by kernel_rfl) (hsh.out _ s0) (by kernel_rfl) ?_; rintro e W1 ⟨rfl, e1⟩; refine ⟨_, rfl, ?_⟩
  have s1 := s0.trans e1
  refine hK.out _ _ s1 (fun _ => ?_)
  clear hK K
  try simp only [sxA, sxB, sxC, Act.put, sxD, sxE, sxF]
  refine tkB (i := 9) (v := ?_) rfl hpan ?yl ?_
  case yl => (intro w hSw; (try dsimp only at hSw);  go_simp); with_reducible rfl
  try simp only [sxA, sxB, sxC, Act.put, sxD, sxE, sxF]
  refine tkB (i := 10) (v := ?_) rfl hpan ?yl ?_
  case yl => (intro w hSw; (try dsimp only at hSw);  go_simp); with_reducible rfl
  try simp only [sxA, sxB, sxC, Act.put, sxD, sxE, sxF]
  refine tkB (i := 11) (v := ?_) rfl hpan ?yl ?_
  case yl => (intro w hSw; (try dsimp only at hSw);  go_simp); with_reducible rfl
  try simp only [sxA, sxB, sxC, Act.put, sxD, sxE, sxF]
  refine tkB (i := 12) (v := ?_) rfl hpan ?yl ?_
  case yl => (intro w hSw; (try dsimp only at hSw);  go_simp); with_reducible rfl
  try simp only [sxA, sxB, sxC, Act.put, sxD, sxE, sxF]
  refine (hF.out _ _ _ _).1 ?_
  exact N1_1 B32 B33 _ _ _ W1 _ (by first | rfl | kernel_rfl) (by first | rfl | kernel_rfl) (by (try simp only [sxA, sxB, sxC, Act.put, sxD, sxE, sxF]); first | done | with_reducible rfl | rfl) s1 (hid (e1.cell b13_0.out)) (hid (e1.cell b13_1.out)) (hid ((e1.frozen (cell_lt b13_0.out)).trans d13_0.out)) (hid ((e1.frozen (cell_lt b13_1.out)).trans d13_1.out)) z13 (hid (e1.cell b14_0.out)) (hid (e1.cell b14_1.out)) (hid ((e1.frozen (cell_lt b14_0.out)).trans d14_0.out)) (hid ((e1.frozen (cell_lt b14_1.out)).trans d14_1.out)) z14 n13_14
 have N1_5 : ∀ (v9_ : Value) (f_ : Nat) (l_ : Array Bool) (W0 : World) (a_ : Act), f_ = 5 → l_ = #[true, true, true, true, true, true, true, true, true, true, true, true, true, false, false, false, false, false] → a_ = ({ tmps := #[yA,yB,.bool s,yD,yE,yF,yG,yH,.pointer (some ⟨T, 0, none⟩),yJ,yK,yL,yM,yN,yO,.int .i64 (n : Int),.int .i64 M,.int .i64 S,yS,yT,yU,.slice (some ⟨by_, 0, none⟩) n cy,yW,yX,yY,yZ,zA,zB,zC,zD,zE,zF,zG,zH,zI,zJ,zK,zL,zM,zN,zO,zP,zQ,zR,zS,zT,zU,zV,zW,zX,zY,zZ,uA,uB,uC,uD,uE,uF,uG,uH,uI,uJ,uK,uL,uM,uN,uO,uP,uQ,uR,uS,uT,uU,uV,uW,uX,uY,uZ,iA,iB,iC,iD,iE,iF,iG,iH,iI,iJ,iK,iL,iM,iN,iO,iP,iQ,iR,iS,iT,iU,iV,iW,iX,iY,iZ,oA,oB,oC,oD,oE,oF,oG,oH,oI,oJ,oK,oL,oM,v9_,.slice (some ⟨by_, 0, none⟩) n cy,.agg #[.int .i64 u, .int .i64 c],.bool s,.int .i64 M,.int .i64 S,.int .i64 MS,.int .i64 (n : Int),.int .i64 R,.tuple #[.agg #[.int .i64 A0, .int .i64 A1], .agg #[.int .i64 A2, .int .i64 A3], .int .i64 E],.agg #[.int .i64 A0, .int .i64 A1],.agg #[.int .i64 A2, .int .i64 A3],.int .i64 E,qA,qB,qC,qD,qE,qF,qG,qH,qI,qJ,qK,qL,qM,qN,qO,qP,qQ,qR,qS,qT,qU,qV,qW,qX,qY,qZ,rA,rB,rC,rD,rE,rF,rG,rH,rI,rJ,rK,rL,rM,rN,rO,rP,rQ,rR,rS,rT,rU,rV,rW,rX,rY,rZ,jA,jB,jC,jD,jE,jF,jG,jH,jI,jJ,jK,jL,jM,jN,jO,jP,jQ,jR,jS,jT,jU], defers := [] } : Act) → Ext w W0 → F f_ l_ a_ W0 := by
  intro v9_ f_ l_ W0 a_ hf_ hl_ ha_ s0
  subst hf_ hl_ ha_
  refine (hF.out _ _ _ _).2 ?_
  clear N1_0 N1_1 N1_4
  refine wpAnyH_ready (rs := [13, 14]) (by kernel_rfl) (by simp) ?_
  refine AllReadyH.cons (o := _) rfl (fun K hK => ?_) ?_
  ·skip
   go_simp
   refine hK.out _ _ (Ext.alloc s0 _) (fun _ => ?_)
   clear hK K
   try simp only [sxA, sxB, sxC, Act.put, sxD, sxE, sxF]
   refine name_any (fun W1 hW => ?_)
   have e1 : Ext W0 W1 := by rw [hW]; exact Ext.alloc (Ext.refl _) _
   have s1 := s0.trans e1
   have nb0 := hid (show W1.cell? ⟨W0.heap.size, 0, none⟩ = some (.int .i64 0) by rw [hW]; simp [go_sem])
   have nb1 := hid (show W1.cell? ⟨W0.heap.size, 1, none⟩ = some (.int .i64 0) by rw [hW]; simp [go_sem])
   have nd0 := hid (show W1.frozen? ⟨W0.heap.size, 0, none⟩ = false by rw [hW]; simp [go_sem])
   have nd1 := hid (show W1.frozen? ⟨W0.heap.size, 1, none⟩ = false by rw [hW]; simp [go_sem])
   clear hW
   refine (hF.out _ _ _ _).1 ?_
   exact N1_2 W0.heap.size _ _ _ W1 _ (by first | rfl | kernel_rfl) (by first | rfl | kernel_rfl) (by (try simp only [sxA, sxB, sxC, Act.put, sxD, sxE, sxF]); first | done | with_reducible rfl | rfl) s1 nb0 nb1 nd0 nd1 (hid s0.size)
  refine AllReadyH.cons (o := _) rfl (fun K hK => ?_) ?_
  ·skip
   go_simp
   refine hK.out _ _ (Ext.alloc s0 _) (fun _ => ?_)
   clear hK K
   try simp only [sxA, sxB, sxC, Act.put, sxD, sxE, sxF]
   refine name_any (fun W1 hW => ?_)
   have e1 : Ext W0 W1 := by rw [hW]; exact Ext.alloc (Ext.refl _) _
   have s1 := s0.trans e1
   have nb0 := hid (show W1.cell? ⟨W0.heap.size, 0, none⟩ = some (.int .i64 0) by rw [hW]; simp [go_sem])
   have nb1 := hid (show W1.cell? ⟨W0.heap.size, 1, none⟩ = some (.int .i64 0) by rw [hW]; simp [go_sem])
   have nd0 := hid (show W1.frozen? ⟨W0.heap.size, 0, none⟩ = false by rw [hW]; simp [go_sem])
   have nd1 := hid (show W1.frozen? ⟨W0.heap.size, 1, none⟩ = false by rw [hW]; simp [go_sem])
   clear hW
   refine (hF.out _ _ _ _).1 ?_
   exact N1_3 W0.heap.size _ _ _ W1 _ (by first | rfl | kernel_rfl) (by first | rfl | kernel_rfl) (by (try simp only [sxA, sxB, sxC, Act.put, sxD, sxE, sxF]); first | done | with_reducible rfl | rfl) s1 nb0 nb1 nd0 nd1 (hid s0.size)
  exact AllReadyH.nil
 have N1_6 : ∀ (B32 : Nat) (f_ : Nat) (l_ : Array Bool) (W0 : World) (a_ : Act), f_ = 9 → l_ = #[true, true, true, true, true, true, true, true, false, false, false, false, false, true, false, false, false, false] → a_ = ({ tmps := #[yA,yB,.bool s,yD,yE,yF,yG,yH,.pointer (some ⟨T, 0, none⟩),yJ,yK,yL,yM,yN,yO,.int .i64 (n : Int),.int .i64 M,.int .i64 S,yS,yT,yU,.slice (some ⟨by_, 0, none⟩) n cy,yW,yX,yY,yZ,zA,zB,zC,zD,zE,zF,.pointer (some ⟨B32, 0, none⟩),zH,zI,zJ,zK,zL,zM,zN,zO,zP,zQ,zR,zS,zT,zU,zV,zW,zX,zY,zZ,uA,uB,uC,uD,uE,uF,uG,uH,uI,uJ,uK,uL,uM,uN,uO,uP,uQ,uR,uS,uT,uU,uV,uW,uX,uY,uZ,iA,iB,iC,iD,iE,iF,iG,iH,iI,iJ,iK,iL,iM,iN,iO,iP,iQ,iR,iS,iT,iU,iV,iW,iX,iY,iZ,oA,oB,oC,oD,oE,oF,oG,oH,oI,oJ,oK,oL,oM,oN,.slice (some ⟨by_, 0, none⟩) n cy,.agg #[.int .i64 u, .int .i64 c],.bool s,.int .i64 M,.int .i64 S,.int .i64 MS,.int .i64 (n : Int),.int .i64 R,oW,oX,oY,oZ,qA,qB,qC,qD,qE,qF,qG,qH,qI,qJ,qK,qL,qM,qN,qO,qP,qQ,qR,qS,qT,qU,qV,qW,qX,qY,qZ,rA,rB,rC,rD,rE,rF,rG,rH,rI,rJ,rK,rL,rM,rN,rO,rP,rQ,rR,rS,rT,rU,rV,rW,rX,rY,rZ,jA,jB,jC,jD,jE,jF,jG,jH,jI,jJ,jK,jL,jM,jN,jO,jP,jQ,jR,jS,jT,jU], defers := [] } : Act) → Ext w W0 → Hid (W0.cell? ⟨B32, 0, none⟩ = some (.int .i64 0)) → Hid (W0.cell? ⟨B32, 1, none⟩ = some (.int .i64 0)) → Hid (W0.frozen? ⟨B32, 0, none⟩ = false) → Hid (W0.frozen? ⟨B32, 1, none⟩ = false) → Hid (w.heap.size ≤ B32) → F f_ l_ a_ W0 := by
  intro B32 f_ l_ W0 a_ hf_ hl_ ha_ s0 b13_0 b13_1 d13_0 d13_1 z13
  subst hf_ hl_ ha_
  refine (hF.out _ _ _ _).2 ?_
  clear N1_0 N1_1 N1_3 N1_5
  refine wpAnyH_ready (rs := [8, 14]) (by kernel_rfl) (by simp) ?_
  refine AllReadyH.cons (o := _) rfl (fun K hK => ?_) ?_
  ·skip
   refine tk_call (by kernel_rfl) (hsh.out _ s0) (by kernel_rfl) ?_; rintro e W1 ⟨rfl, e1⟩; refine ⟨_, rfl, ?_⟩
   have s1 := s0.trans e1
   refine hK.out _ _ s1 (fun _ => ?_)
   clear hK K
   try simp only [sxA, sxB, sxC, Act.put, sxD, sxE, sxF]
   refine tkB (i := 9) (v := ?_) rfl hpan ?yl ?_
   case yl => (intro w hSw; (try dsimp only at hSw);  go_simp); with_reducible rfl
   try simp only [sxA, sxB, sxC, Act.put, sxD, sxE, sxF]
   refine tkB (i := 10) (v := ?_) rfl hpan ?yl ?_
   case yl => (intro w hSw; (try dsimp only at hSw);  go_simp); with_reducible rfl
   try simp only [sxA, sxB, sxC, Act.put, sxD, sxE, sxF]
   refine tkB (i := 11) (v := ?_) rfl hpan ?yl ?_
   case yl => (intro w hSw; (try dsimp only at hSw);  go_simp); with_reducible rfl
   try simp only [sxA, sxB, sxC, Act.put, sxD, sxE, sxF]
   refine tkB (i := 12) (v := ?_) rfl hpan ?yl ?_
   case yl => (intro w hSw; (try dsimp only at hSw);  go_simp); with_reducible rfl
   try simp only [sxA, sxB, sxC, Act.put, sxD, sxE, sxF]
   refine (hF.out _ _ _ _).1 ?_
   exact N1_2 B32 _ _ _ W1 _ (by first | rfl | kernel_rfl) (by first | rfl | kernel_rfl) (by (try simp only [sxA, sxB, sxC, Act.put, sxD, sxE, sxF]); first | done | with_reducible rfl | rfl) s1 (hid (e1.cell b13_0.out)) (hid (e1.cell b13_1.out)) (hid ((e1.frozen (cell_lt b13_0.out)).trans d13_0.out)) (hid ((e1.frozen (cell_lt b13_1.out)).trans d13_1.out)) z13
  refine AllReadyH.cons (o := _) rfl (fun K hK => ?_) ?_
  ·skip
   go_simp
   refine hK.out _ _ (Ext.alloc s0 _) (fun _ => ?_)
   clear hK K
   try simp only [sxA, sxB, sxC, Act.put, sxD, sxE, sxF]
   refine name_any (fun W1 hW => ?_)
   have e1 : Ext W0 W1 := by rw [hW]; exact Ext.alloc (Ext.refl _) _
   have s1 := s0.trans e1
   have nb0 := hid (show W1.cell? ⟨W0.heap.size, 0, none⟩ = some (.int .i64 0) by rw [hW]; simp [go_sem])
   have nb1 := hid (show W1.cell? ⟨W0.heap.size, 1, none⟩ = some (.int .i64 0) by rw [hW]; simp [go_sem])
   have nd0 := hid (show W1.frozen? ⟨W0.heap.size, 0, none⟩ = false by rw [hW]; simp [go_sem])
   have nd1 := hid (show W1.frozen? ⟨W0.heap.size, 1, none⟩ = false by rw [hW]; simp [go_sem])
   clear hW
   refine (hF.out _ _ _ _).1 ?_
   exact N1_4 B32 W0.heap.size _ _ W1 _ (by first | rfl | kernel_rfl) (by first | rfl | kernel_rfl) (by (try simp only [sxA, sxB, sxC, Act.put, sxD, sxE, sxF]); first | done | with_reducible rfl | rfl) s1 (hid (e1.cell b13_0.out)) (hid (e1.cell b13_1.out)) (hid ((e1.frozen (cell_lt b13_0.out)).trans d13_0.out)) (hid ((e1.frozen (cell_lt b13_1.out)).trans d13_1.out)) z13 nb0 nb1 nd0 nd1 (hid s0.size) (hid (fun e => by have h9 := cell_lt b13_0.out; dsimp only at h9; omega))
  exact AllReadyH.nil
 have N1_7 : ∀ (B33 : Nat) (f_ : Nat) (l_ : Array Bool) (W0 : World) (a_ : Act), f_ = 9 → l_ = #[true, true, true, true, true, true, true, true, false, false, false, false, false, false, true, false, false, false] → a_ = ({ tmps := #[yA,yB,.bool s,yD,yE,yF,yG,yH,.pointer (some ⟨T, 0, none⟩),yJ,yK,yL,yM,yN,yO,.int .i64 (n : Int),.int .i64 M,.int .i64 S,yS,yT,yU,.slice (some ⟨by_, 0, none⟩) n cy,yW,yX,yY,yZ,zA,zB,zC,zD,zE,zF,zG,.pointer (some ⟨B33, 0, none⟩),zI,zJ,zK,zL,zM,zN,zO,zP,zQ,zR,zS,zT,zU,zV,zW,zX,zY,zZ,uA,uB,uC,uD,uE,uF,uG,uH,uI,uJ,uK,uL,uM,uN,uO,uP,uQ,uR,uS,uT,uU,uV,uW,uX,uY,uZ,iA,iB,iC,iD,iE,iF,iG,iH,iI,iJ,iK,iL,iM,iN,iO,iP,iQ,iR,iS,iT,iU,iV,iW,iX,iY,iZ,oA,oB,oC,oD,oE,oF,oG,oH,oI,oJ,oK,oL,oM,oN,.slice (some ⟨by_, 0, none⟩) n cy,.agg #[.int .i64 u, .int .i64 c],.bool s,.int .i64 M,.int .i64 S,.int .i64 MS,.int .i64 (n : Int),.int .i64 R,oW,oX,oY,oZ,qA,qB,qC,qD,qE,qF,qG,qH,qI,qJ,qK,qL,qM,qN,qO,qP,qQ,qR,qS,qT,qU,qV,qW,qX,qY,qZ,rA,rB,rC,rD,rE,rF,rG,rH,rI,rJ,rK,rL,rM,rN,rO,rP,rQ,rR,rS,rT,rU,rV,rW,rX,rY,rZ,jA,jB,jC,jD,jE,jF,jG,jH,jI,jJ,jK,jL,jM,jN,jO,jP,jQ,jR,jS,jT,jU], defers := [] } : Act) → Ext w W0 → Hid (W0.cell? ⟨B33, 0, none⟩ = some (.int .i64 0)) → Hid (W0.cell? ⟨B33, 1, none⟩ = some (.int .i64 0)) → Hid (W0.frozen? ⟨B33, 0, none⟩ = false) → Hid (W0.frozen? ⟨B33, 1, none⟩ = false) → Hid (w.heap.size ≤ B33) → F f_ l_ a_ W0 := by
  intro B33 f_ l_ W0 a_ hf_ hl_ ha_ s0 b14_0 b14_1 d14_0 d14_1 z14
  subst hf_ hl_ ha_
  refine (hF.out _ _ _ _).2 ?_
  clear N1_0 N1_1 N1_2 N1_5 N1_6
  refine wpAnyH_ready (rs := [8, 13]) (by kernel_rfl) (by simp) ?_
  refine AllReadyH.cons (o := _) rfl (fun K hK => ?_) ?_
  ·skip
   refine tk_call (by kernel_rfl) (hsh.out _ s0) (by kernel_rfl) ?_; rintro e W1 ⟨rfl, e1⟩; refine ⟨_, rfl, ?_⟩
   have s1 := s0.trans e1
   refine hK.out _ _ s1 (fun _ => ?_)
   clear hK K
   try simp only [sxA, sxB, sxC, Act.put, sxD, sxE, sxF]
   refine tkB (i := 9) (v := ?_) rfl hpan ?yl ?_
   case yl => (intro w hSw; (try dsimp only at hSw);  go_simp); with_reducible rfl
   try simp only [sxA, sxB, sxC, Act.put, sxD, sxE, sxF]
   refine tkB (i := 10) (v := ?_) rfl hpan ?yl ?_
   case yl => (intro w hSw; (try dsimp only at hSw);  go_simp); with_reducible rfl
   try simp only [sxA, sxB, sxC, Act.put, sxD, sxE, sxF]
   refine tkB (i := 11) (v := ?_) rfl hpan ?yl ?_
   case yl => (intro w hSw; (try dsimp only at hSw);  go_simp); with_reducible rfl
   try simp only [sxA, sxB, sxC, Act.put, sxD, sxE, sxF]
   refine tkB (i := 12) (v := ?_) rfl hpan ?yl ?_
   case yl => (intro w hSw; (try dsimp only at hSw);  go_simp); with_reducible rfl
   try simp only [sxA, sxB, sxC, Act.put, sxD, sxE, sxF]
   refine (hF.out _ _ _ _).1 ?_
   exact N1_3 B33 _ _ _ W1 _ (by first | rfl | kernel_rfl) (by first | rfl | kernel_rfl) (by (try simp only [sxA, sxB, sxC, Act.put, sxD, sxE, sxF]); first | done | with_reducible rfl | rfl) s1 (hid (e1.cell b14_0.out)) (hid (e1.cell b14_1.out)) (hid ((e1.frozen (cell_lt b14_0.out)).trans d14_0.out)) (hid ((e1.frozen (cell_lt b14_1.out)).trans d14_1.out)) z14
  refine AllReadyH.cons (o := _) rfl (fun K hK => ?_) ?_
  ·skip
   go_simp
   refine hK.out _ _ (Ext.alloc s0 _) (fun _ => ?_)
   clear hK K
   try simp only [sxA, sxB, sxC, Act.put, sxD, sxE, sxF]
   refine name_any (fun W1 hW => ?_)
   have e1 : Ext W0 W1 := by rw [hW]; exact Ext.alloc (Ext.refl _) _
   have s1 := s0.trans e1
   have nb0 := hid (show W1.cell? ⟨W0.heap.size, 0, none⟩ = some (.int .i64 0) by rw [hW]; simp [go_sem])
   have nb1 := hid (show W1.cell? ⟨W0.heap.size, 1, none⟩ = some (.int .i64 0) by rw [hW]; simp [go_sem])
   have nd0 := hid (show W1.frozen? ⟨W0.heap.size, 0, none⟩ = false by rw [hW]; simp [go_sem])
   have nd1 := hid (show W1.frozen? ⟨W0.heap.size, 1, none⟩ = false by rw [hW]; simp [go_sem])
   clear hW
   refine (hF.out _ _ _ _).1 ?_
   exact N1_4 W0.heap.size B33 _ _ W1 _ (by first | rfl | kernel_rfl) (by first | rfl | kernel_rfl) (by (try simp only [sxA, sxB, sxC, Act.put, sxD, sxE, sxF]); first | done | with_reducible rfl | rfl) s1 nb0 nb1 nd0 nd1 (hid s0.size) (hid (e1.cell b14_0.out)) (hid (e1.cell b14_1.out)) (hid ((e1.frozen (cell_lt b14_0.out)).trans d14_0.out)) (hid ((e1.frozen (cell_lt b14_1.out)).trans d14_1.out)) z14 (hid (fun e => by have h9 := cell_lt b14_0.out; dsimp only at h9; omega))
  exact AllReadyH.nil
 have N1_8 : ∀ (f_ : Nat) (l_ : Array Bool) (W0 : World) (a_ : Act), f_ = 10 → l_ = #[true, true, true, true, true, true, true, true, false, false, false, false, false, false, false, false, false, false] → a_ = ({ tmps := #[yA,yB,.bool s,yD,yE,yF,yG,yH,.pointer (some ⟨T, 0, none⟩),yJ,yK,yL,yM,yN,yO,.int .i64 (n : Int),.int .i64 M,.int .i64 S,yS,yT,yU,.slice (some ⟨by_, 0, none⟩) n cy,yW,yX,yY,yZ,zA,zB,zC,zD,zE,zF,zG,zH,zI,zJ,zK,zL,zM,zN,zO,zP,zQ,zR,zS,zT,zU,zV,zW,zX,zY,zZ,uA,uB,uC,uD,uE,uF,uG,uH,uI,uJ,uK,uL,uM,uN,uO,uP,uQ,uR,uS,uT,uU,uV,uW,uX,uY,uZ,iA,iB,iC,iD,iE,iF,iG,iH,iI,iJ,iK,iL,iM,iN,iO,iP,iQ,iR,iS,iT,iU,iV,iW,iX,iY,iZ,oA,oB,oC,oD,oE,oF,oG,oH,oI,oJ,oK,oL,oM,oN,.slice (some ⟨by_, 0, none⟩) n cy,.agg #[.int .i64 u, .int .i64 c],.bool s,.int .i64 M,.int .i64 S,.int .i64 MS,.int .i64 (n : Int),.int .i64 R,oW,oX,oY,oZ,qA,qB,qC,qD,qE,qF,qG,qH,qI,qJ,qK,qL,qM,qN,qO,qP,qQ,qR,qS,qT,qU,qV,qW,qX,qY,qZ,rA,rB,rC,rD,rE,rF,rG,rH,rI,rJ,rK,rL,rM,rN,rO,rP,rQ,rR,rS,rT,rU,rV,rW,rX,rY,rZ,jA,jB,jC,jD,jE,jF,jG,jH,jI,jJ,jK,jL,jM,jN,jO,jP,jQ,jR,jS,jT,jU], defers := [] } : Act) → Ext w W0 → F f_ l_ a_ W0 := by
  intro  f_ l_ W0 a_ hf_ hl_ ha_ s0
  subst hf_ hl_ ha_
  refine (hF.out _ _ _ _).2 ?_
  clear N1_0 N1_1 N1_2 N1_3 N1_4
  refine wpAnyH_ready (rs := [8, 13, 14]) (by kernel_rfl) (by simp) ?_
  refine AllReadyH.cons (o := _) rfl (fun K hK => ?_) ?_
  ·skip
   refine tk_call (by kernel_rfl) (hsh.out _ s0) (by kernel_rfl) ?_; rintro e W1 ⟨rfl, e1⟩; refine ⟨_, rfl, ?_⟩
   have s1 := s0.trans e1
   refine hK.out _ _ s1 (fun _ => ?_)
   clear hK K
   try simp only [sxA, sxB, sxC, Act.put, sxD, sxE, sxF]
   refine tkB (i := 9) (v := ?_) rfl hpan ?yl ?_
   case yl => (intro w hSw; (try dsimp only at hSw);  go_simp); with_reducible rfl
   try simp only [sxA, sxB, sxC, Act.put, sxD, sxE, sxF]
   refine tkB (i := 10) (v := ?_) rfl hpan ?yl ?_
   case yl => (intro w hSw; (try dsimp only at hSw);  go_simp); with_reducible rfl
   try simp only [sxA, sxB, sxC, Act.put, sxD, sxE, sxF]
   refine tkB (i := 11) (v := ?_) rfl hpan ?yl ?_
   case yl => (intro w hSw; (try dsimp only at hSw);  go_simp); with_reducible rfl
   try simp only [sxA, sxB, sxC, Act.put, sxD, sxE, sxF]
   refine tkB (i := 12) (v := ?_) rfl hpan ?yl ?_
   case yl => (intro w hSw; (try dsimp only at hSw);  go_simp); with_reducible rfl
   try simp only [sxA, sxB, sxC, Act.put, sxD, sxE, sxF]
   refine (hF.out _ _ _ _).1 ?_
   exact N1_5 _ _ _ W1 _ (by first | rfl | kernel_rfl) (by first | rfl | kernel_rfl) (by (try simp only [sxA, sxB, sxC, Act.put, sxD, sxE, sxF]); first | done | with_reducible rfl | rfl) s1
  refine AllReadyH.cons (o := _) rfl (fun K hK => ?_) ?_
  ·skip
   go_simp
   refine hK.out _ _ (Ext.alloc s0 _) (fun _ => ?_)
   clear hK K
   try simp only [sxA, sxB, sxC, Act.put, sxD, sxE, sxF]
   refine name_any (fun W1 hW => ?_)
   have e1 : Ext W0 W1 := by rw [hW]; exact Ext.alloc (Ext.refl _) _
   have s1 := s0.trans e1
   have nb0 := hid (show W1.cell? ⟨W0.heap.size, 0, none⟩ = some (.int .i64 0) by rw [hW]; simp [go_sem])
   have nb1 := hid (show W1.cell? ⟨W0.heap.size, 1, none⟩ = some (.int .i64 0) by rw [hW]; simp [go_sem])
   have nd0 := hid (show W1.frozen? ⟨W0.heap.size, 0, none⟩ = false by rw [hW]; simp [go_sem])
   have nd1 := hid (show W1.frozen? ⟨W0.heap.size, 1, none⟩ = false by rw [hW]; simp [go_sem])
   clear hW
   refine (hF.out _ _ _ _).1 ?_
   exact N1_6 W0.heap.size _ _ W1 _ (by first | rfl | kernel_rfl) (by first | rfl | kernel_rfl) (by (try simp only [sxA, sxB, sxC, Act.put, sxD, sxE, sxF]); first | done | with_reducible rfl | rfl) s1 nb0 nb1 nd0 nd1 (hid s0.size)
  refine AllReadyH.cons (o := _) rfl (fun K hK => ?_) ?_
  ·skip
   go_simp
   refine hK.out _ _ (Ext.alloc s0 _) (fun _ => ?_)
   clear hK K
   try simp only [sxA, sxB, sxC, Act.put, sxD, sxE, sxF]
   refine name_any (fun W1 hW => ?_)
   have e1 : Ext W0 W1 := by rw [hW]; exact Ext.alloc (Ext.refl _) _
   have s1 := s0.trans e1
   have nb0 := hid (show W1.cell? ⟨W0.heap.size, 0, none⟩ = some (.int .i64 0) by rw [hW]; simp [go_sem])
   have nb1 := hid (show W1.cell? ⟨W0.heap.size, 1, none⟩ = some (.int .i64 0) by rw [hW]; simp [go_sem])
   have nd0 := hid (show W1.frozen? ⟨W0.heap.size, 0, none⟩ = false by rw [hW]; simp [go_sem])
   have nd1 := hid (show W1.frozen? ⟨W0.heap.size, 1, none⟩ = false by rw [hW]; simp [go_sem])
   clear hW
   refine (hF.out _ _ _ _).1 ?_
   exact N1_7 W0.heap.size _ _ W1 _ (by first | rfl | kernel_rfl) (by first | rfl | kernel_rfl) (by (try simp only [sxA, sxB, sxC, Act.put, sxD, sxE, sxF]); first | done | with_reducible rfl | rfl) s1 nb0 nb1 nd0 nd1 (hid s0.size)
  exact AllReadyH.nil
 rw [hA_.out]
 refine (hF.out _ _ _ _).2 ?_
 refine tkB (i := 0) (v := ?_) rfl hpan ?yl ?_
 case yl => (intro w hSw; (try dsimp only at hSw);  go_simp); with_reducible rfl
 try simp only [sxA, sxB, sxC, Act.put, sxD, sxE, sxF]
 refine tkB (i := 1) (v := ?_) rfl hpan ?yl ?_
 case yl => (intro w hSw; have k_ := hRD_.out w hSw; go_simp); with_reducible rfl
 try simp only [sxA, sxB, sxC, Act.put, sxD, sxE, sxF]
 refine tkB (i := 2) (v := ?_) rfl hpan ?yl ?_
 case yl => (intro w hSw; (try dsimp only at hSw);  go_simp); with_reducible rfl
 try simp only [sxA, sxB, sxC, Act.put, sxD, sxE, sxF]
 refine tkB (i := 3) (v := ?_) rfl hpan ?yl ?_
 case yl => (intro w hSw; (try dsimp only at hSw);  go_simp); with_reducible rfl
 try simp only [sxA, sxB, sxC, Act.put, sxD, sxE, sxF]
 refine tkB (i := 4) (v := ?_) rfl hpan ?yl ?_
 case yl => (intro w hSw; (try dsimp only at hSw);  go_simp); with_reducible rfl
 try simp only [sxA, sxB, sxC, Act.put, sxD, sxE, sxF]
 refine tkB (i := 5) (v := ?_) rfl hpan ?yl ?_
 case yl => (intro w hSw; (try dsimp only at hSw);  go_simp); with_reducible rfl
 try simp only [sxA, sxB, sxC, Act.put, sxD, sxE, sxF]
 refine tkB (i := 6) (v := ?_) rfl hpan ?yl ?_
 case yl => (intro w hSw; (try dsimp only at hSw);  go_simp); with_reducible rfl
 try simp only [sxA, sxB, sxC, Act.put, sxD, sxE, sxF]
 refine tkB (i := 7) (v := ?_) rfl hpan ?yl ?_
 case yl => (intro w hSw; (try dsimp only at hSw);  go_simp); with_reducible rfl
 try simp only [sxA, sxB, sxC, Act.put, sxD, sxE, sxF]
 refine (hF.out _ _ _ _).1 ?_
 exact N1_8 _ _ W0 _ (by first | rfl | kernel_rfl) (by first | rfl | kernel_rfl) (by (try simp only [sxA, sxB, sxC, Act.put, sxD, sxE, sxF]); first | done | with_reducible rfl | rfl) s0
set_option maxHeartbeats 40000000 in
theorem stL21a {A_ : Act} {yA yB yC yD yE yF yG yH yI yJ yK yL yM yN yO yP yQ yR yU yV yW yZ zC zD zE zF zG zH zI zK zL zM zN zO zP zQ zR zS zT zU zV zW zX zY zZ uA uB uC uD uE uF uG uH uI uJ uK uL uM uN uO uP uQ uR uS uT uU uV uW uX uY uZ iA iB iC iD iE iF iG iH iI iJ iK iL iM iN iO iP iQ iR iS iT iU iV iW iX iY iZ oA oB oC oD oE oF oG oH oI oJ oK oL oM oN oO oP oQ oR oS oT oU oV oW oX oY oZ qA qB qC qD qE qF qG qH qI qJ qK qL qM qN qO qP qQ qR qS qT qU qV qW qX qY qZ rA rB rC rD rE rF rG rH rI rJ rK rL rM rN rO rP rQ rR rS rT rU rV rW rX rY rZ jA jB jC jD jE jF jG jH jI jJ jK jL jM jN jO jP jQ jR jS jT jU : Value} {B23 B26 : Nat} {N D PN PD k d p1 p2 p3 : Int} {w : World} (hA0_ : A_ = { tmps := #[yA, yB, yC, yD, yE, yF, yG, yH, yI, yJ, yK, yL, yM, yN, yO, yP, yQ, yR, .int .i64 k, .int .i64 d, yU, yV, yW, .pointer (some ⟨B23, 0, none⟩), .bool true, yZ, .pointer (some ⟨B26, 0, none⟩), .bool true, zC, zD, zE, zF, zG, zH, zI, .bool true, zK, zL, zM, zN, zO, zP, zQ, zR, zS, zT, zU, zV, zW, zX, zY, zZ, uA, uB, uC, uD, uE, uF, uG, uH, uI, uJ, uK, uL, uM, uN, uO, uP, uQ, uR, uS, uT, uU, uV, uW, uX, uY, uZ, iA, iB, iC, iD, iE, iF, iG, iH, iI, iJ, iK, iL, iM, iN, iO, iP, iQ, iR, iS, iT, iU, iV, iW, iX, iY, iZ, oA, oB, oC, oD, oE, oF, oG, oH, oI, oJ, oK, oL, oM, oN, oO, oP, oQ, oR, oS, oT, oU, oV, oW, oX, oY, oZ, qA, qB, qC, qD, qE, qF, qG, qH, qI, qJ, qK, qL, qM, qN, qO, qP, qQ, qR, qS, qT, qU, qV, qW, qX, qY, qZ, rA, rB, rC, rD, rE, rF, rG, rH, rI, rJ, rK, rL, rM, rN, rO, rP, rQ, rR, rS, rT, rU, rV, rW, rX, rY, rZ, jA, jB, jC, jD, jE, jF, jG, jH, jI, jJ, jK, jL, jM, jN, jO, jP, jQ, jR, jS, jT, jU], defers := [] }) (h1 : ∀ W, Calls Try.prog 48 #[.int .i64 p3, .int .i64 D] W fun e w' => e = .returned (.agg #[.int .i64 PN, .int .i64 PD]) ∧ Ext W w') (q1 : IntKind.i64.wrap (k * N) = p1) (q2 : IntKind.i64.wrap (d * D) = p2) (q3 : IntKind.i64.wrap (p1 + p2) = p3) (c0 : w.cell? ⟨B23, 0, none⟩ = some (.int .i64 N)) (c1 : w.cell? ⟨B23, 1, none⟩ = some (.int .i64 D)) (e0 : w.cell? ⟨B26, 0, none⟩ = some (.int .i64 PN)) (e1 : w.cell? ⟨B26, 1, none⟩ = some (.int .i64 PD)) :
 Code.wp Try.prog (rgn Try.f13 21) (fun e a' w' => e = .normal ∧ ∃ (v12_ v16_ v20_ : Value), a' = ({ tmps := #[yA,yB,yC,yD,yE,yF,yG,yH,yI,yJ,yK,yL,yM,yN,.bool true,yP,yQ,yR,.int .i64 k,.int .i64 d,yU,yV,yW,.pointer (some ⟨B23, 0, none⟩),.bool true,yZ,.pointer (some ⟨B26, 0, none⟩),.bool true,zC,zD,zE,zF,zG,zH,zI,.bool true,zK,zL,zM,zN,zO,zP,zQ,zR,zS,zT,zU,zV,zW,zX,zY,zZ,uA,uB,uC,uD,uE,uF,uG,uH,uI,uJ,uK,uL,uM,uN,uO,uP,uQ,uR,uS,uT,uU,uV,uW,uX,uY,uZ,iA,iB,iC,iD,iE,iF,iG,iH,iI,iJ,iK,iL,iM,iN,iO,iP,iQ,iR,iS,iT,iU,iV,iW,iX,iY,iZ,oA,oB,oC,oD,oE,oF,oG,oH,oI,oJ,oK,oL,oM,oN,oO,oP,oQ,oR,oS,oT,oU,oV,oW,oX,oY,oZ,qA,qB,qC,qD,qE,qF,qG,qH,qI,qJ,qK,qL,qM,qN,qO,qP,qQ,qR,qS,qT,qU,qV,qW,qX,qY,qZ,rA,rB,rC,rD,rE,rF,rG,rH,rI,rJ,rK,rL,rM,rN,rO,rP,rQ,rR,.bool true,.bool true,.bool true,.bool true,.bool true,.bool true,.bool true,.bool true,.bool false,.bool false,.agg #[.int .i64 PN, .int .i64 PD],.int .i64 k,v12_,.int .i64 N,.int .i64 p1,.int .i64 d,v16_,.int .i64 D,.int .i64 p2,.int .i64 p3,v20_,.int .i64 D,.agg #[.int .i64 PN, .int .i64 PD],.bool true,.bool true,.bool true,.bool true,.bool true,.bool true], defers := [] } : Act) ∧ Ext w w') A_ w := by
 conv => arg 2; whnf
 refine st_intro (fun Q2 hQ2 => ?_)
 have hA_ := hid hA0_
 clear hA0_
 have hpan : ∀ c a a' w w', Q2 (.panic c) a w → Q2 (.panic c) a' w' := by rw [hQ2]; rintro c a a' w w' ⟨h, _⟩; cases h
 replace hQ2 := hid hQ2
 replace h1 := hid h1
 replace q1 := hid q1
 replace q2 := hid q2
 replace q3 := hid q3
 have heq : ∀ (p q : Int) w, (Op.equalIn 10000 29 (.agg #[.int .i64 p, .int .i64 q]) (.agg #[.int .i64 p, .int .i64 q])).run Try.prog w = .ok true w := fun p q w => by rw [run_eqRatio]; simp
 replace q1 := q1.out
 replace q2 := q2.out
 replace q3 := q3.out
 have hRD_ := hid (fun w' (x_ : Ext w w') => And.intro (Ext.cell x_ c0) (And.intro (Ext.cell x_ c1) (And.intro (Ext.cell x_ e0) (Ext.cell x_ e1))))
 refine wp_region_held_drew (S := fun w' => Ext w w') (by kernel_rfl) exE fun hHeld => ?_
 try simp only [List.append_eq, List.cons_append, List.nil_append]
 refine name_any (fun W0 hW => ?_)
 have s0 : Ext w W0 := by rw [hW]; exact hHeld
 clear hW hHeld
 refine wpF_intro 30 (by kernel_rfl) (fun F hF => ?_)
 replace hF := hid hF
 have N1_0 : ∀ (v12_ v16_ v20_ : Value) (f_ : Nat) (l_ : Array Bool) (W0 : World) (a_ : Act), f_ = 3 → l_ = #[true, true, true, true, true, true, true, true, true, true, true, true, true, true, true, true, true, true, true, true, true, true, true, true, true, true, true, false, false, false] → a_ = ({ tmps := #[yA,yB,yC,yD,yE,yF,yG,yH,yI,yJ,yK,yL,yM,yN,yO,yP,yQ,yR,.int .i64 k,.int .i64 d,yU,yV,yW,.pointer (some ⟨B23, 0, none⟩),.bool true,yZ,.pointer (some ⟨B26, 0, none⟩),.bool true,zC,zD,zE,zF,zG,zH,zI,.bool true,zK,zL,zM,zN,zO,zP,zQ,zR,zS,zT,zU,zV,zW,zX,zY,zZ,uA,uB,uC,uD,uE,uF,uG,uH,uI,uJ,uK,uL,uM,uN,uO,uP,uQ,uR,uS,uT,uU,uV,uW,uX,uY,uZ,iA,iB,iC,iD,iE,iF,iG,iH,iI,iJ,iK,iL,iM,iN,iO,iP,iQ,iR,iS,iT,iU,iV,iW,iX,iY,iZ,oA,oB,oC,oD,oE,oF,oG,oH,oI,oJ,oK,oL,oM,oN,oO,oP,oQ,oR,oS,oT,oU,oV,oW,oX,oY,oZ,qA,qB,qC,qD,qE,qF,qG,qH,qI,qJ,qK,qL,qM,qN,qO,qP,qQ,qR,qS,qT,qU,qV,qW,qX,qY,qZ,rA,rB,rC,rD,rE,rF,rG,rH,rI,rJ,rK,rL,rM,rN,rO,rP,rQ,rR,.bool true,.bool true,.bool true,.bool true,.bool true,.bool true,.bool true,.bool true,.bool false,.bool false,.agg #[.int .i64 PN, .int .i64 PD],.int .i64 k,v12_,.int .i64 N,.int .i64 p1,.int .i64 d,v16_,.int .i64 D,.int .i64 p2,.int .i64 p3,v20_,.int .i64 D,.agg #[.int .i64 PN, .int .i64 PD],.bool true,.bool true,.bool true,.bool true,jT,jU], defers := [] } : Act) → Ext w W0 → F f_ l_ a_ W0 := by
  intro v12_ v16_ v20_ f_ l_ W0 a_ hf_ hl_ ha_ s0
  subst hf_ hl_ ha_
  refine (hF.out _ _ _ _).2 ?_
  refine wpAnyH_ready (rs := [27]) (by kernel_rfl) (by simp) ?_
  refine AllReadyH.cons (o := _) rfl (fun K hK => ?_) AllReadyH.nil
  refine tk_call (by kernel_rfl) (works_any _) (by kernel_rfl) ?_; rintro e W1 ⟨rfl, e1⟩; refine ⟨_, rfl, ?_⟩
  have s1 := s0.trans e1
  refine hK.out _ _ s1 (fun _ => ?_)
  clear hK K
  try simp only [sxA, sxB, sxC, Act.put, sxD, sxE, sxF]
  refine tkB (i := 28) (v := ?_) rfl hpan ?yl ?_
  case yl => (intro w hSw; (try dsimp only at hSw);  go_simp); with_reducible rfl
  try simp only [sxA, sxB, sxC, Act.put, sxD, sxE, sxF]
  refine tkB (i := 29) (v := ?_) rfl hpan ?yl ?_
  case yl => (intro w hSw; (try dsimp only at hSw);  go_simp); with_reducible rfl
  try simp only [sxA, sxB, sxC, Act.put, sxD, sxE, sxF]
  refine wpAnyH_done (by kernel_rfl) ?_ _
  try simp only [sxA, sxB, sxC, Act.put, sxD, sxE, sxF]
  rw [hQ2.out]
  refine ⟨rfl, ?u1_0_1, ?u1_1_1, ?u1_2_1, ?eq1_1, s1⟩
  case eq1_1 => (first | with_reducible rfl | rfl)
 have N1_1 : ∀ (v12_ v16_ v20_ : Value) (f_ : Nat) (l_ : Array Bool) (W0 : World) (a_ : Act), f_ = 8 → l_ = #[true, true, true, true, true, true, true, true, true, true, true, true, true, true, true, true, true, true, true, true, true, true, false, false, false, false, false, false, false, false] → a_ = ({ tmps := #[yA,yB,yC,yD,yE,yF,yG,yH,yI,yJ,yK,yL,yM,yN,yO,yP,yQ,yR,.int .i64 k,.int .i64 d,yU,yV,yW,.pointer (some ⟨B23, 0, none⟩),.bool true,yZ,.pointer (some ⟨B26, 0, none⟩),.bool true,zC,zD,zE,zF,zG,zH,zI,.bool true,zK,zL,zM,zN,zO,zP,zQ,zR,zS,zT,zU,zV,zW,zX,zY,zZ,uA,uB,uC,uD,uE,uF,uG,uH,uI,uJ,uK,uL,uM,uN,uO,uP,uQ,uR,uS,uT,uU,uV,uW,uX,uY,uZ,iA,iB,iC,iD,iE,iF,iG,iH,iI,iJ,iK,iL,iM,iN,iO,iP,iQ,iR,iS,iT,iU,iV,iW,iX,iY,iZ,oA,oB,oC,oD,oE,oF,oG,oH,oI,oJ,oK,oL,oM,oN,oO,oP,oQ,oR,oS,oT,oU,oV,oW,oX,oY,oZ,qA,qB,qC,qD,qE,qF,qG,qH,qI,qJ,qK,qL,qM,qN,qO,qP,qQ,qR,qS,qT,qU,qV,qW,qX,qY,qZ,rA,rB,rC,rD,rE,rF,rG,rH,rI,rJ,rK,rL,rM,rN,rO,rP,rQ,rR,.bool true,.bool true,.bool true,.bool true,.bool true,.bool true,.bool true,.bool true,.bool false,.bool false,.agg #[.int .i64 PN, .int .i64 PD],.int .i64 k,v12_,.int .i64 N,.int .i64 p1,.int .i64 d,v16_,.int .i64 D,.int .i64 p2,.int .i64 p3,v20_,.int .i64 D,jO,jP,jQ,jR,jS,jT,jU], defers := [] } : Act) → Ext w W0 → F f_ l_ a_ W0 := by
  intro v12_ v16_ v20_ f_ l_ W0 a_ hf_ hl_ ha_ s0
  subst hf_ hl_ ha_
  refine (hF.out _ _ _ _).2 ?_
  refine wpAnyH_ready (rs := [22]) (by kernel_rfl) (by simp) ?_
  refine AllReadyH.cons (o := _) rfl (fun K hK => ?_) AllReadyH.nil
  refine tk_call (by kernel_rfl) (h1.out _) (by kernel_rfl) ?_; rintro e W1 ⟨rfl, e1⟩; refine ⟨_, rfl, ?_⟩
  have s1 := s0.trans e1
  refine hK.out _ _ s1 (fun _ => ?_)
  clear hK K
  try simp only [sxA, sxB, sxC, Act.put, sxD, sxE, sxF]
  refine tkB (i := 23) (v := ?_) rfl hpan ?yl ?_
  case yl => (intro w hSw; (try dsimp only at hSw);  go_simp); with_reducible rfl
  try simp only [sxA, sxB, sxC, Act.put, sxD, sxE, sxF]
  refine tkB (i := 24) (v := ?_) rfl hpan ?yl ?_
  case yl => (intro w hSw; (try dsimp only at hSw);  go_simp); with_reducible rfl
  try simp only [sxA, sxB, sxC, Act.put, sxD, sxE, sxF]
  refine tkB (i := 25) (v := ?_) rfl hpan ?yl ?_
  case yl => (intro w hSw; (try dsimp only at hSw);  go_simp); with_reducible rfl
  try simp only [sxA, sxB, sxC, Act.put, sxD, sxE, sxF]
  refine tkB (i := 26) (v := ?_) rfl hpan ?yl ?_
  case yl => (intro w hSw; (try dsimp only at hSw);  go_simp); with_reducible rfl
  try simp only [sxA, sxB, sxC, Act.put, sxD, sxE, sxF]
  refine (hF.out _ _ _ _).1 ?_
  exact N1_0 _ _ _ _ _ W1 _ (by first | rfl | kernel_rfl) (by first | rfl | kernel_rfl) (by (try simp only [sxA, sxB, sxC, Act.put, sxD, sxE, sxF]); first | done | with_reducible rfl | rfl) s1
 rw [hA_.out]
 refine (hF.out _ _ _ _).2 ?_
 refine tkB (i := 0) (v := ?_) rfl hpan ?yl ?_
 case yl => (intro w hSw; (try dsimp only at hSw);  go_simp); with_reducible rfl
 try simp only [sxA, sxB, sxC, Act.put, sxD, sxE, sxF]
 refine tkB (i := 1) (v := ?_) rfl hpan ?yl ?_
 case yl => (intro w hSw; (try dsimp only at hSw);  go_simp); with_reducible rfl
 try simp only [sxA, sxB, sxC, Act.put, sxD, sxE, sxF]
 refine tkB (i := 2) (v := ?_) rfl hpan ?yl ?_
 case yl => (intro w hSw; (try dsimp only at hSw);  go_simp); with_reducible rfl
 try simp only [sxA, sxB, sxC, Act.put, sxD, sxE, sxF]
 refine tkB (i := 3) (v := ?_) rfl hpan ?yl ?_
 case yl => (intro w hSw; (try dsimp only at hSw);  go_simp); with_reducible rfl
 try simp only [sxA, sxB, sxC, Act.put, sxD, sxE, sxF]
 refine tkB (i := 4) (v := ?_) rfl hpan ?yl ?_
 case yl => (intro w hSw; (try dsimp only at hSw);  go_simp); with_reducible rfl
 try simp only [sxA, sxB, sxC, Act.put, sxD, sxE, sxF]
 refine tkB (i := 5) (v := ?_) rfl hpan ?yl ?_
 case yl => (intro w hSw; (try dsimp only at hSw);  go_simp); with_reducible rfl
 try simp only [sxA, sxB, sxC, Act.put, sxD, sxE, sxF]
 refine tkB (i := 6) (v := ?_) rfl hpan ?yl ?_
 case yl => (intro w hSw; (try dsimp only at hSw);  go_simp); with_reducible rfl
 try simp only [sxA, sxB, sxC, Act.put, sxD, sxE, sxF]
 refine tkB (i := 7) (v := ?_) rfl hpan ?yl ?_
 case yl => (intro w hSw; (try dsimp only at hSw);  go_simp); with_reducible rfl
 try simp only [sxA, sxB, sxC, Act.put, sxD, sxE, sxF]
 refine tkB (i := 8) (v := ?_) rfl hpan ?yl ?_
 case yl => (intro w hSw; (try dsimp only at hSw);  go_simp); with_reducible rfl
 try simp only [sxA, sxB, sxC, Act.put, sxD, sxE, sxF]
 refine tkB (i := 9) (v := ?_) rfl hpan ?yl ?_
 case yl => (intro w hSw; (try dsimp only at hSw);  go_simp); with_reducible rfl
 try simp only [sxA, sxB, sxC, Act.put, sxD, sxE, sxF]
 refine tkB (i := 10) (v := ?_) rfl hpan ?yl ?_
 case yl => (intro w hSw; have k_ := hRD_.out w hSw; go_simp); with_reducible rfl
 try simp only [sxA, sxB, sxC, Act.put, sxD, sxE, sxF]
 refine tkB (i := 11) (v := ?_) rfl hpan ?yl ?_
 case yl => (intro w hSw; (try dsimp only at hSw);  go_simp); with_reducible rfl
 try simp only [sxA, sxB, sxC, Act.put, sxD, sxE, sxF]
 refine tkB (i := 12) (v := ?_) rfl hpan ?yl ?_
 case yl => (intro w hSw; have k_ := hRD_.out w hSw; go_simp); with_reducible rfl
 try simp only [sxA, sxB, sxC, Act.put, sxD, sxE, sxF]
 refine tkB (i := 13) (v := ?_) rfl hpan ?yl ?_
 case yl => (intro w hSw; have k_ := hRD_.out w hSw; go_simp); with_reducible rfl
 try simp only [sxA, sxB, sxC, Act.put, sxD, sxE, sxF]
 refine tkB (i := 14) (v := ?_) rfl hpan ?yl ?_
 case yl => (intro w hSw; have k_ := hRD_.out w hSw; go_simp); with_reducible rfl
 try simp only [sxA, sxB, sxC, Act.put, sxD, sxE, sxF]
 refine tkB (i := 15) (v := ?_) rfl hpan ?yl ?_
 case yl => (intro w hSw; (try dsimp only at hSw);  go_simp); with_reducible rfl
 try simp only [sxA, sxB, sxC, Act.put, sxD, sxE, sxF]
 refine tkB (i := 16) (v := ?_) rfl hpan ?yl ?_
 case yl => (intro w hSw; have k_ := hRD_.out w hSw; go_simp); with_reducible rfl
 try simp only [sxA, sxB, sxC, Act.put, sxD, sxE, sxF]
 refine tkB (i := 17) (v := ?_) rfl hpan ?yl ?_
 case yl => (intro w hSw; have k_ := hRD_.out w hSw; go_simp); with_reducible rfl
 try simp only [sxA, sxB, sxC, Act.put, sxD, sxE, sxF]
 refine tkB (i := 18) (v := ?_) rfl hpan ?yl ?_
 case yl => (intro w hSw; have k_ := hRD_.out w hSw; go_simp); with_reducible rfl
 try simp only [sxA, sxB, sxC, Act.put, sxD, sxE, sxF]
 refine tkB (i := 19) (v := ?_) rfl hpan ?yl ?_
 case yl => (intro w hSw; have k_ := hRD_.out w hSw; go_simp); with_reducible rfl
 try simp only [sxA, sxB, sxC, Act.put, sxD, sxE, sxF]
 refine tkB (i := 20) (v := ?_) rfl hpan ?yl ?_
 case yl => (intro w hSw; have k_ := hRD_.out w hSw; go_simp); with_reducible rfl
 try simp only [sxA, sxB, sxC, Act.put, sxD, sxE, sxF]
 refine tkB (i := 21) (v := ?_) rfl hpan ?yl ?_
 case yl => (intro w hSw; have k_ := hRD_.out w hSw; go_simp); with_reducible rfl
 try simp only [sxA, sxB, sxC, Act.put, sxD, sxE, sxF]
 refine (hF.out _ _ _ _).1 ?_
 exact N1_1 _ _ _ _ _ W0 _ (by first | rfl | kernel_rfl) (by first | rfl | kernel_rfl) (by (try simp only [sxA, sxB, sxC, Act.put, sxD, sxE, sxF]); first | done | with_reducible rfl | rfl) s0
set_option maxHeartbeats 40000000 in
theorem stL21b {A_ : Act} {yA yB yC yD yE yF yG yH yI yJ yK yL yM yN yO yP yQ yR yS yT yU yV yW yX yZ zA zC zD zE zF zG zH zI zK zL zM zN zO zP zQ zR zS zT zU zV zW zX zY zZ uA uB uC uD uE uF uG uH uI uJ uK uL uM uN uO uP uQ uR uS uT uU uV uW uX uY uZ iA iB iC iD iE iF iG iH iI iJ iK iL iM iN iO iP iQ iR iS iT iU iV iW iX iY iZ oA oB oC oD oE oF oG oH oI oJ oK oL oM oN oO oP oQ oR oS oT oU oV oW oX oY oZ qA qB qC qD qE qF qG qH qI qJ qK qL qM qN qO qP qQ qR qS qT qU qV qW qX qY qZ rA rB rC rD rE rF rG rH rI rJ rK rL rM rN rO rP rQ rR rS rT rU rV rW rX rY rZ jA jB jC jD jE jF jG jH jI jJ jK jL jM jN jO jP jQ jR jS jT jU : Value}  {w : World} (hA0_ : A_ = { tmps := #[yA, yB, yC, yD, yE, yF, yG, yH, yI, yJ, yK, yL, yM, yN, yO, yP, yQ, yR, yS, yT, yU, yV, yW, yX, .bool false, yZ, zA, .bool false, zC, zD, zE, zF, zG, zH, zI, .bool true, zK, zL, zM, zN, zO, zP, zQ, zR, zS, zT, zU, zV, zW, zX, zY, zZ, uA, uB, uC, uD, uE, uF, uG, uH, uI, uJ, uK, uL, uM, uN, uO, uP, uQ, uR, uS, uT, uU, uV, uW, uX, uY, uZ, iA, iB, iC, iD, iE, iF, iG, iH, iI, iJ, iK, iL, iM, iN, iO, iP, iQ, iR, iS, iT, iU, iV, iW, iX, iY, iZ, oA, oB, oC, oD, oE, oF, oG, oH, oI, oJ, oK, oL, oM, oN, oO, oP, oQ, oR, oS, oT, oU, oV, oW, oX, oY, oZ, qA, qB, qC, qD, qE, qF, qG, qH, qI, qJ, qK, qL, qM, qN, qO, qP, qQ, qR, qS, qT, qU, qV, qW, qX, qY, qZ, rA, rB, rC, rD, rE, rF, rG, rH, rI, rJ, rK, rL, rM, rN, rO, rP, rQ, rR, rS, rT, rU, rV, rW, rX, rY, rZ, jA, jB, jC, jD, jE, jF, jG, jH, jI, jJ, jK, jL, jM, jN, jO, jP, jQ, jR, jS, jT, jU], defers := [] })  :
 Code.wp Try.prog (rgn Try.f13 21) (fun e a' w' => e = .normal ∧ a' = ({ tmps := #[yA,yB,yC,yD,yE,yF,yG,yH,yI,yJ,yK,yL,yM,yN,.bool true,yP,yQ,yR,yS,yT,yU,yV,yW,yX,.bool false,yZ,zA,.bool false,zC,zD,zE,zF,zG,zH,zI,.bool true,zK,zL,zM,zN,zO,zP,zQ,zR,zS,zT,zU,zV,zW,zX,zY,zZ,uA,uB,uC,uD,uE,uF,uG,uH,uI,uJ,uK,uL,uM,uN,uO,uP,uQ,uR,uS,uT,uU,uV,uW,uX,uY,uZ,iA,iB,iC,iD,iE,iF,iG,iH,iI,iJ,iK,iL,iM,iN,iO,iP,iQ,iR,iS,iT,iU,iV,iW,iX,iY,iZ,oA,oB,oC,oD,oE,oF,oG,oH,oI,oJ,oK,oL,oM,oN,oO,oP,oQ,oR,oS,oT,oU,oV,oW,oX,oY,oZ,qA,qB,qC,qD,qE,qF,qG,qH,qI,qJ,qK,qL,qM,qN,qO,qP,qQ,qR,qS,qT,qU,qV,qW,qX,qY,qZ,rA,rB,rC,rD,rE,rF,rG,rH,rI,rJ,rK,rL,rM,rN,rO,rP,rQ,rR,.bool true,.bool true,.bool false,.bool false,.bool true,.bool true,.bool true,.bool false,.bool true,.bool true,undef,undef,undef,undef,undef,undef,undef,undef,undef,undef,undef,undef,undef,undef,.bool true,.bool true,.bool true,.bool true,.bool true], defers := [] } : Act) ∧ Ext w w') A_ w := by
 conv => arg 2; whnf
 refine st_intro (fun Q2 hQ2 => ?_)
 have hA_ := hid hA0_
 clear hA0_
 have hpan : ∀ c a a' w w', Q2 (.panic c) a w → Q2 (.panic c) a' w' := by rw [hQ2]; rintro c a a' w w' ⟨h, _⟩; cases h
 replace hQ2 := hid hQ2
 skip
 refine wp_region_held_drew (S := fun w' => Ext w w') (by kernel_rfl) exE fun hHeld => ?_
 try simp only [List.append_eq, List.cons_append, List.nil_append]
 refine name_any (fun W0 hW => ?_)
 have s0 : Ext w W0 := by rw [hW]; exact hHeld
 clear hW hHeld
 refine wpF_intro 30 (by kernel_rfl) (fun F hF => ?_)
 replace hF := hid hF
 have N1_0 : ∀ (f_ : Nat) (l_ : Array Bool) (W0 : World) (a_ : Act), f_ = 3 → l_ = #[true, true, true, true, true, true, true, true, true, true, true, true, true, true, true, true, true, true, true, true, true, true, true, true, true, true, true, false, false, false] → a_ = ({ tmps := #[yA,yB,yC,yD,yE,yF,yG,yH,yI,yJ,yK,yL,yM,yN,yO,yP,yQ,yR,yS,yT,yU,yV,yW,yX,.bool false,yZ,zA,.bool false,zC,zD,zE,zF,zG,zH,zI,.bool true,zK,zL,zM,zN,zO,zP,zQ,zR,zS,zT,zU,zV,zW,zX,zY,zZ,uA,uB,uC,uD,uE,uF,uG,uH,uI,uJ,uK,uL,uM,uN,uO,uP,uQ,uR,uS,uT,uU,uV,uW,uX,uY,uZ,iA,iB,iC,iD,iE,iF,iG,iH,iI,iJ,iK,iL,iM,iN,iO,iP,iQ,iR,iS,iT,iU,iV,iW,iX,iY,iZ,oA,oB,oC,oD,oE,oF,oG,oH,oI,oJ,oK,oL,oM,oN,oO,oP,oQ,oR,oS,oT,oU,oV,oW,oX,oY,oZ,qA,qB,qC,qD,qE,qF,qG,qH,qI,qJ,qK,qL,qM,qN,qO,qP,qQ,qR,qS,qT,qU,qV,qW,qX,qY,qZ,rA,rB,rC,rD,rE,rF,rG,rH,rI,rJ,rK,rL,rM,rN,rO,rP,rQ,rR,.bool true,.bool true,.bool false,.bool false,.bool true,.bool true,.bool true,.bool false,.bool true,.bool true,undef,undef,undef,undef,undef,undef,undef,undef,undef,undef,undef,undef,undef,undef,.bool true,.bool true,.bool true,jT,jU], defers := [] } : Act) → Ext w W0 → F f_ l_ a_ W0 := by
  intro  f_ l_ W0 a_ hf_ hl_ ha_ s0
  subst hf_ hl_ ha_
  refine (hF.out _ _ _ _).2 ?_
  refine wpAnyH_ready (rs := [27]) (by kernel_rfl) (by simp) ?_
  refine AllReadyH.cons (o := _) rfl (fun K hK => ?_) AllReadyH.nil
  refine tk_call (by kernel_rfl) (works_any _) (by kernel_rfl) ?_; rintro e W1 ⟨rfl, e1⟩; refine ⟨_, rfl, ?_⟩
  have s1 := s0.trans e1
  refine hK.out _ _ s1 (fun _ => ?_)
  clear hK K
  try simp only [sxA, sxB, sxC, Act.put, sxD, sxE, sxF]
  refine tkB (i := 28) (v := ?_) rfl hpan ?yl ?_
  case yl => (intro w hSw; (try dsimp only at hSw);  go_simp); with_reducible rfl
  try simp only [sxA, sxB, sxC, Act.put, sxD, sxE, sxF]
  refine tkB (i := 29) (v := ?_) rfl hpan ?yl ?_
  case yl => (intro w hSw; (try dsimp only at hSw);  go_simp); with_reducible rfl
  try simp only [sxA, sxB, sxC, Act.put, sxD, sxE, sxF]
  refine wpAnyH_done (by kernel_rfl) ?_ _
  try simp only [sxA, sxB, sxC, Act.put, sxD, sxE, sxF]
  rw [hQ2.out]
  refine ⟨rfl, ?eq1_1, s1⟩
  case eq1_1 => (first | with_reducible rfl | rfl)
 rw [hA_.out]
 refine (hF.out _ _ _ _).2 ?_
 refine tkB (i := 0) (v := ?_) rfl hpan ?yl ?_
 case yl => (intro w hSw; (try dsimp only at hSw);  go_simp); with_reducible rfl
 try simp only [sxA, sxB, sxC, Act.put, sxD, sxE, sxF]
 refine tkB (i := 1) (v := ?_) rfl hpan ?yl ?_
 case yl => (intro w hSw; (try dsimp only at hSw);  go_simp); with_reducible rfl
 try simp only [sxA, sxB, sxC, Act.put, sxD, sxE, sxF]
 refine tkB (i := 2) (v := ?_) rfl hpan ?yl ?_
 case yl => (intro w hSw; (try dsimp only at hSw);  go_simp); with_reducible rfl
 try simp only [sxA, sxB, sxC, Act.put, sxD, sxE, sxF]
 refine tkB (i := 3) (v := ?_) rfl hpan ?yl ?_
 case yl => (intro w hSw; (try dsimp only at hSw);  go_simp); with_reducible rfl
 try simp only [sxA, sxB, sxC, Act.put, sxD, sxE, sxF]
 refine tkB (i := 4) (v := ?_) rfl hpan ?yl ?_
 case yl => (intro w hSw; (try dsimp only at hSw);  go_simp); with_reducible rfl
 try simp only [sxA, sxB, sxC, Act.put, sxD, sxE, sxF]
 refine tkB (i := 5) (v := ?_) rfl hpan ?yl ?_
 case yl => (intro w hSw; (try dsimp only at hSw);  go_simp); with_reducible rfl
 try simp only [sxA, sxB, sxC, Act.put, sxD, sxE, sxF]
 refine tkB (i := 6) (v := ?_) rfl hpan ?yl ?_
 case yl => (intro w hSw; (try dsimp only at hSw);  go_simp); with_reducible rfl
 try simp only [sxA, sxB, sxC, Act.put, sxD, sxE, sxF]
 refine tkB (i := 7) (v := ?_) rfl hpan ?yl ?_
 case yl => (intro w hSw; (try dsimp only at hSw);  go_simp); with_reducible rfl
 try simp only [sxA, sxB, sxC, Act.put, sxD, sxE, sxF]
 refine tkB (i := 8) (v := ?_) rfl hpan ?yl ?_
 case yl => (intro w hSw; (try dsimp only at hSw);  go_simp); with_reducible rfl
 try simp only [sxA, sxB, sxC, Act.put, sxD, sxE, sxF]
 refine tkB (i := 9) (v := ?_) rfl hpan ?yl ?_
 case yl => (intro w hSw; (try dsimp only at hSw);  go_simp); with_reducible rfl
 try simp only [sxA, sxB, sxC, Act.put, sxD, sxE, sxF]
 refine tkA (i := 10) (v := undef) rfl (fun c a w h => hpan c _ _ _ _ h) (Or.inr ⟨by kernel_rfl, rfl⟩) (by assumption) ?_
 try simp only [sxA, sxB, sxC, Act.put, sxD, sxE, sxF]
 refine tkA (i := 11) (v := undef) rfl (fun c a w h => hpan c _ _ _ _ h) (Or.inr ⟨by kernel_rfl, rfl⟩) (by assumption) ?_
 try simp only [sxA, sxB, sxC, Act.put, sxD, sxE, sxF]
 refine tkA (i := 12) (v := undef) rfl (fun c a w h => hpan c _ _ _ _ h) (Or.inr ⟨by kernel_rfl, rfl⟩) (by assumption) ?_
 try simp only [sxA, sxB, sxC, Act.put, sxD, sxE, sxF]
 refine tkA (i := 13) (v := undef) rfl (fun c a w h => hpan c _ _ _ _ h) (Or.inr ⟨by kernel_rfl, rfl⟩) (by assumption) ?_
 try simp only [sxA, sxB, sxC, Act.put, sxD, sxE, sxF]
 refine tkA (i := 14) (v := undef) rfl (fun c a w h => hpan c _ _ _ _ h) (Or.inr ⟨by kernel_rfl, rfl⟩) (by assumption) ?_
 try simp only [sxA, sxB, sxC, Act.put, sxD, sxE, sxF]
 refine tkA (i := 15) (v := undef) rfl (fun c a w h => hpan c _ _ _ _ h) (Or.inr ⟨by kernel_rfl, rfl⟩) (by assumption) ?_
 try simp only [sxA, sxB, sxC, Act.put, sxD, sxE, sxF]
 refine tkA (i := 16) (v := undef) rfl (fun c a w h => hpan c _ _ _ _ h) (Or.inr ⟨by kernel_rfl, rfl⟩) (by assumption) ?_
 try simp only [sxA, sxB, sxC, Act.put, sxD, sxE, sxF]
 refine tkA (i := 17) (v := undef) rfl (fun c a w h => hpan c _ _ _ _ h) (Or.inr ⟨by kernel_rfl, rfl⟩) (by assumption) ?_
 try simp only [sxA, sxB, sxC, Act.put, sxD, sxE, sxF]
 refine tkA (i := 18) (v := undef) rfl (fun c a w h => hpan c _ _ _ _ h) (Or.inr ⟨by kernel_rfl, rfl⟩) (by assumption) ?_
 try simp only [sxA, sxB, sxC, Act.put, sxD, sxE, sxF]
 refine tkA (i := 19) (v := undef) rfl (fun c a w h => hpan c _ _ _ _ h) (Or.inr ⟨by kernel_rfl, rfl⟩) (by assumption) ?_
 try simp only [sxA, sxB, sxC, Act.put, sxD, sxE, sxF]
 refine tkA (i := 20) (v := undef) rfl (fun c a w h => hpan c _ _ _ _ h) (Or.inr ⟨by kernel_rfl, rfl⟩) (by assumption) ?_
 try simp only [sxA, sxB, sxC, Act.put, sxD, sxE, sxF]
 refine tkA (i := 21) (v := undef) rfl (fun c a w h => hpan c _ _ _ _ h) (Or.inr ⟨by kernel_rfl, rfl⟩) (by assumption) ?_
 try simp only [sxA, sxB, sxC, Act.put, sxD, sxE, sxF]
 refine tkA (i := 22) (v := undef) rfl (fun c a w h => hpan c _ _ _ _ h) (Or.inr ⟨by kernel_rfl, rfl⟩) (by assumption) ?_
 try simp only [sxA, sxB, sxC, Act.put, sxD, sxE, sxF]
 refine tkA (i := 23) (v := undef) rfl (fun c a w h => hpan c _ _ _ _ h) (Or.inr ⟨by kernel_rfl, rfl⟩) (by assumption) ?_
 try simp only [sxA, sxB, sxC, Act.put, sxD, sxE, sxF]
 refine tkB (i := 24) (v := ?_) rfl hpan ?yl ?_
 case yl => (intro w hSw; (try dsimp only at hSw);  go_simp); with_reducible rfl
 try simp only [sxA, sxB, sxC, Act.put, sxD, sxE, sxF]
 refine tkB (i := 25) (v := ?_) rfl hpan ?yl ?_
 case yl => (intro w hSw; (try dsimp only at hSw);  go_simp); with_reducible rfl
 try simp only [sxA, sxB, sxC, Act.put, sxD, sxE, sxF]
 refine tkB (i := 26) (v := ?_) rfl hpan ?yl ?_
 case yl => (intro w hSw; (try dsimp only at hSw);  go_simp); with_reducible rfl
 try simp only [sxA, sxB, sxC, Act.put, sxD, sxE, sxF]
 refine (hF.out _ _ _ _).1 ?_
 exact N1_0 _ _ W0 _ (by first | rfl | kernel_rfl) (by first | rfl | kernel_rfl) (by (try simp only [sxA, sxB, sxC, Act.put, sxD, sxE, sxF]); first | done | with_reducible rfl | rfl) s0
end Go.Proofs.Ytpnfhcnnodolbaa
