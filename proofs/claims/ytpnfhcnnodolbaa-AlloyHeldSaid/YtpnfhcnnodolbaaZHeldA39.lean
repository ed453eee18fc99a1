/- Texts of one proof, laid together: LaDa, LaD. -/
import Derived.Test.YtpnfhcnnodolbaaZY10
import Derived.Test.YtpnfhcnnodolbaaZY7
import Derived.Test.YtpnfhcnnodolbaaZY2
import Derived.Test.YtpnfhcnnodolbaaZHeldA34
import Derived.Test.YtpnfhcnnodolbaaZY32
import Derived.Test.YtpnfhcnnodolbaaZY31
import Derived.Test.YtpnfhcnnodolbaaZY29
import Derived.Test.YtpnfhcnnodolbaaZY28
import Derived.Test.YtpnfhcnnodolbaaZY19
import Derived.Test.YtpnfhcnnodolbaaZY18
import Derived.Test.YtpnfhcnnodolbaaZY17
import Derived.Test.YtpnfhcnnodolbaaZY16
import Derived.Test.YtpnfhcnnodolbaaZY8
import Derived.Test.YtpnfhcnnodolbaaZHeldA35
import Derived.Test.YtpnfhcnnodolbaaZY12
import Derived.Test.YtpnfhcnnodolbaaZY3
import Derived.Test.YtpnfhcnnodolbaaZY4
import Derived.Test.YtpnfhcnnodolbaaZY9
import Derived.Test.YtpnfhcnnodolbaaZY1
import Derived.Test.YtpnfhcnnodolbaaZY22
import Derived.Test.YtpnfhcnnodolbaaZY20
import Derived.Test.YtpnfhcnnodolbaaZHeldA36
import Derived.Test.YtpnfhcnnodolbaaZY26
import Derived.Test.YtpnfhcnnodolbaaZY25
import Derived.Test.YtpnfhcnnodolbaaZY11
import Derived.Test.YtpnfhcnnodolbaaZY21
import Derived.Test.YtpnfhcnnodolbaaZY5
import Derived.Test.YtpnfhcnnodolbaaZY13
import Derived.Test.YtpnfhcnnodolbaaZY23
import Derived.Test.YtpnfhcnnodolbaaZY14
import Derived.Test.YtpnfhcnnodolbaaZY27
import Derived.Test.YtpnfhcnnodolbaaZY6
import Derived.Test.YtpnfhcnnodolbaaZY30
import Derived.Test.YtpnfhcnnodolbaaZY33
import Derived.Test.YtpnfhcnnodolbaaZHeldA38
import Derived.Test.YtpnfhcnnodolbaaZHeldA37
set_option linter.unusedVariables false
set_option linter.unusedSimpArgs false
set_option linter.unusedSectionVars false
set_option linter.unnecessarySimpa false
set_option maxRecDepth 100000
namespace Go.Proofs.Ytpnfhcnnodolbaa
open Go Go.RowKit Game
set_option maxHeartbeats 40000000 in
theorem stD13 {A_ : Act} {yA yB yC yD yE yF yG yH yI yJ yK yN yO yP yR yS yT yU yV yW yX yY yZ zA zB zC zD zE zF zG zH zI zJ zK zL zM zN zO zP zQ zR zS zT zU zV zW zX zY zZ uA uB uC uD uE uF uG uH uI uJ uK uL uM uN uO uP uQ uR uS uT uU uV uW uX uY uZ iA iB iC iD iE iF iG iH iI iJ iK iL iM iN iO iP iQ iR iS iT iU iV iW iX iY iZ oA oB oC oD oE oF oG oH oI oJ oK oL oM oN oO oP oQ oR oS oT oU oV oW oX oY oZ qA qB qC qD qE qF qG qH qI qJ qK qL qM qN qO qP qQ qR qS qT qU : Value} {g1 g2 e1 e2 n k1 k2 M : Nat} {S1 S2 z1 z2 XN XD YN YD : Int} {w : World} (hA0_ : A_ = { tmps := #[yA, yB, yC, yD, yE, yF, yG, yH, yI, yJ, yK, .int .i64 (M : Int), .slice (some ⟨g1, e1, none⟩) n k1, yN, yO, yP, .slice (some ⟨g2, e2, none⟩) n k2, yR, yS, yT, yU, yV, yW, yX, yY, yZ, zA, zB, zC, zD, zE, zF, zG, zH, zI, zJ, zK, zL, zM, zN, zO, zP, zQ, zR, zS, zT, zU, zV, zW, zX, zY, zZ, uA, uB, uC, uD, uE, uF, uG, uH, uI, uJ, uK, uL, uM, uN, uO, uP, uQ, uR, uS, uT, uU, uV, uW, uX, uY, uZ, iA, iB, iC, iD, iE, iF, iG, iH, iI, iJ, iK, iL, iM, iN, iO, iP, iQ, iR, iS, iT, iU, iV, iW, iX, iY, iZ, oA, oB, oC, oD, oE, oF, oG, oH, oI, oJ, oK, oL, oM, oN, oO, oP, oQ, oR, oS, oT, oU, oV, oW, oX, oY, oZ, qA, qB, qC, qD, qE, qF, qG, qH, qI, qJ, qK, qL, qM, qN, qO, qP, qQ, qR, qS, qT, qU], defers := [] }) (hIM : (M : Int) < (n : Int)) (hs2 : ∀ W, Ext w W → Calls Try.prog 49 #[.slice (some ⟨g2, e2, none⟩) n k2] W fun e w' => e = .returned (.int .i64 S2) ∧ Ext W w') (hs1 : ∀ W, Ext w W → Calls Try.prog 49 #[.slice (some ⟨g1, e1, none⟩) n k1] W fun e w' => e = .returned (.int .i64 S1) ∧ Ext W w') (hb2 : ∀ W, Calls Try.prog 48 #[.int .i64 z2, .int .i64 S2] W fun e w' => e = .returned (.agg #[.int .i64 XN, .int .i64 XD]) ∧ Ext W w') (hb1 : ∀ W, Calls Try.prog 48 #[.int .i64 z1, .int .i64 S1] W fun e w' => e = .returned (.agg #[.int .i64 YN, .int .i64 YD]) ∧ Ext W w') (m1 : w.cell? ⟨g1, e1 + M, none⟩ = some (.int .i64 z1)) (m2 : w.cell? ⟨g2, e2 + M, none⟩ = some (.int .i64 z2)) :
 Code.wp Try.prog (rgn Try.f12 13) (fun e a' w' => e = .normal ∧ ∃ (B18 : Nat) (B19 : Nat) (v2_ v9_ : Value), a' = ({ tmps := #[yA,yB,yC,yD,yE,yF,yG,yH,yI,yJ,yK,.int .i64 (M : Int),.slice (some ⟨g1, e1, none⟩) n k1,yN,yO,yP,.slice (some ⟨g2, e2, none⟩) n k2,yR,.pointer (some ⟨B18, 0, none⟩),.pointer (some ⟨B19, 0, none⟩),yU,yV,yW,yX,yY,yZ,zA,zB,zC,zD,zE,zF,zG,zH,zI,zJ,zK,zL,zM,zN,zO,zP,zQ,zR,zS,zT,zU,zV,zW,zX,zY,zZ,uA,uB,uC,uD,uE,uF,uG,uH,uI,uJ,uK,uL,uM,uN,uO,uP,uQ,uR,uS,uT,uU,uV,uW,uX,uY,uZ,iA,iB,iC,iD,iE,iF,iG,iH,iI,iJ,iK,iL,iM,iN,iO,iP,iQ,iR,iS,iT,iU,iV,iW,iX,iY,iZ,oA,oB,oC,oD,.slice (some ⟨g2, e2, none⟩) n k2,.int .i64 (M : Int),v2_,.int .i64 z2,.slice (some ⟨g2, e2, none⟩) n k2,.int .i64 S2,.agg #[.int .i64 XN, .int .i64 XD],.slice (some ⟨g1, e1, none⟩) n k1,.int .i64 (M : Int),v9_,.int .i64 z1,.slice (some ⟨g1, e1, none⟩) n k1,.int .i64 S1,.agg #[.int .i64 YN, .int .i64 YD],oS,oT,oU,oV,oW,oX,oY,oZ,qA,qB,qC,qD,qE,qF,qG,qH,qI,qJ,qK,qL,qM,qN,qO,qP,qQ,qR,qS,qT,qU], defers := [] } : Act) ∧ Ext w w' ∧ w'.cell? ⟨B18, 0, none⟩ = some (.int .i64 XN) ∧ w'.cell? ⟨B18, 1, none⟩ = some (.int .i64 XD) ∧ w'.frozen? ⟨B18, 0, none⟩ = false ∧ w'.frozen? ⟨B18, 1, none⟩ = false ∧ w.heap.size ≤ B18 ∧ w'.cell? ⟨B19, 0, none⟩ = some (.int .i64 YN) ∧ w'.cell? ⟨B19, 1, none⟩ = some (.int .i64 YD) ∧ w'.frozen? ⟨B19, 0, none⟩ = false ∧ w'.frozen? ⟨B19, 1, none⟩ = false ∧ w.heap.size ≤ B19 ∧ B18 ≠ B19) A_ w := by
 conv => arg 2; whnf
 refine st_intro (fun Q2 hQ2 => ?_)
 have hA_ := hid hA0_
 clear hA0_
 have hpan : ∀ c a a' w w', Q2 (.panic c) a w → Q2 (.panic c) a' w' := by rw [hQ2]; rintro c a a' w w' ⟨h, _⟩; cases h
 replace hQ2 := hid hQ2
 replace hIM := hid hIM
 replace hs2 := hid hs2
 replace hs1 := hid hs1
 replace hb2 := hid hb2
 replace hb1 := hid hb1
 replace hIM := hIM.out
 have hRD_ := hid (fun w' (x_ : Ext w w') => And.intro (Ext.cell x_ m1) (Ext.cell x_ m2))
 refine wp_region_held_drew (S := fun w' => Ext w w') (by kernel_rfl) exE fun hHeld => ?_
 try simp only [List.append_eq, List.cons_append, List.nil_append]
 refine name_any (fun W0 hW => ?_)
 have s0 : Ext w W0 := by rw [hW]; exact hHeld
 clear hW hHeld
 refine wpF_intro 18 (by kernel_rfl) (fun F hF => ?_)
 replace hF := hid hF
 have N1_0 : ∀ (B18 : Nat) (B19 : Nat) (v2_ v9_ : Value) (f_ : Nat) (l_ : Array Bool) (W0 : World) (a_ : Act), f_ = 1 → l_ = #[true, true, true, true, true, true, true, true, true, true, true, true, true, true, true, true, true, false] → a_ = ({ tmps := #[yA,yB,yC,yD,yE,yF,yG,yH,yI,yJ,yK,.int .i64 (M : Int),.slice (some ⟨g1, e1, none⟩) n k1,yN,yO,yP,.slice (some ⟨g2, e2, none⟩) n k2,yR,.pointer (some ⟨B18, 0, none⟩),.pointer (some ⟨B19, 0, none⟩),yU,yV,yW,yX,yY,yZ,zA,zB,zC,zD,zE,zF,zG,zH,zI,zJ,zK,zL,zM,zN,zO,zP,zQ,zR,zS,zT,zU,zV,zW,zX,zY,zZ,uA,uB,uC,uD,uE,uF,uG,uH,uI,uJ,uK,uL,uM,uN,uO,uP,uQ,uR,uS,uT,uU,uV,uW,uX,uY,uZ,iA,iB,iC,iD,iE,iF,iG,iH,iI,iJ,iK,iL,iM,iN,iO,iP,iQ,iR,iS,iT,iU,iV,iW,iX,iY,iZ,oA,oB,oC,oD,.slice (some ⟨g2, e2, none⟩) n k2,.int .i64 (M : Int),v2_,.int .i64 z2,.slice (some ⟨g2, e2, none⟩) n k2,.int .i64 S2,.agg #[.int .i64 XN, .int .i64 XD],.slice (some ⟨g1, e1, none⟩) n k1,.int .i64 (M : Int),v9_,.int .i64 z1,.slice (some ⟨g1, e1, none⟩) n k1,.int .i64 S1,.agg #[.int .i64 YN, .int .i64 YD],oS,oT,oU,oV,oW,oX,oY,oZ,qA,qB,qC,qD,qE,qF,qG,qH,qI,qJ,qK,qL,qM,qN,qO,qP,qQ,qR,qS,qT,qU], defers := [] } : Act) → Ext w W0 → Hid (W0.cell? ⟨B18, 0, none⟩ = some (.int .i64 XN)) → Hid (W0.cell? ⟨B18, 1, none⟩ = some (.int .i64 XD)) → Hid (W0.frozen? ⟨B18, 0, none⟩ = false) → Hid (W0.frozen? ⟨B18, 1, none⟩ = false) → Hid (w.heap.size ≤ B18) → Hid (W0.cell? ⟨B19, 0, none⟩ = some (.int .i64 0)) → Hid (W0.cell? ⟨B19, 1, none⟩ = some (.int .i64 0)) → Hid (W0.frozen? ⟨B19, 0, none⟩ = false) → Hid (W0.frozen? ⟨B19, 1, none⟩ = false) → Hid (w.heap.size ≤ B19) → Hid (B18 ≠ B19) → F f_ l_ a_ W0 := by
  intro B18 B19 v2_ v9_ f_ l_ W0 a_ hf_ hl_ ha_ s0 b14_0 b14_1 d14_0 d14_1 z14 b15_0 b15_1 d15_0 d15_1 z15 n14_15
  subst hf_ hl_ ha_
  refine (hF.out _ _ _ _).2 ?_
  refine wpAnyH_ready (rs := [17]) (by kernel_rfl) (by simp) ?_
  refine AllReadyH.cons (o := _) rfl (fun K hK => ?_) AllReadyH.nil
  have f0 := b15_0.out
  have g0 := d15_0.out
  have f1 := b15_1.out
  have g1 := d15_1.out
  have l0_ := s0.size
  have z0_ := z15.out
  go_simp
  refine hK.out _ _ exE (fun _ => ?_)
  clear hK K
  try simp only [sxA, sxB, sxC, Act.put, sxD, sxE, sxF]
  refine name_any (fun W1 hW => ?_)
  have s1 : Ext w W1 := by rw [hW]; exact exE
  have nb0 := hid (show W1.cell? ⟨B19, 0, none⟩ = some (.int .i64 YN) by rw [hW]; simp [go_sem, f0, f1])
  have nb1 := hid (show W1.cell? ⟨B19, 1, none⟩ = some (.int .i64 YD) by rw [hW]; simp [go_sem, f0, f1])
  have nd0 := hid (show W1.frozen? ⟨B19, 0, none⟩ = false by rw [hW]; simp [go_sem, World.frozen?_setCell, g0, g1])
  have nd1 := hid (show W1.frozen? ⟨B19, 1, none⟩ = false by rw [hW]; simp [go_sem, World.frozen?_setCell, g0, g1])
  have ob14_0 : Hid (W1.cell? ⟨B18, 0, none⟩ = some (.int .i64 XN)) := hid (by rw [hW]; exact (box_put n14_15.out (box_put n14_15.out b14_0.out)))
  have ob14_1 : Hid (W1.cell? ⟨B18, 1, none⟩ = some (.int .i64 XD)) := hid (by rw [hW]; exact (box_put n14_15.out (box_put n14_15.out b14_1.out)))
  have od14_0 : Hid (W1.frozen? ⟨B18, 0, none⟩ = false) := hid (by rw [hW]; simp [go_sem, World.frozen?_setCell, d14_0.out])
  have od14_1 : Hid (W1.frozen? ⟨B18, 1, none⟩ = false) := hid (by rw [hW]; simp [go_sem, World.frozen?_setCell, d14_1.out])
  clear hW
  refine wpAnyH_done (by kernel_rfl) ?_ _
  try simp only [sxA, sxB, sxC, Act.put, sxD, sxE, sxF]
  rw [hQ2.out]
  refine ⟨rfl, B18, B19, ?u1_0_1, ?u1_1_1, ?eq1_1, s1, ob14_0.out, ob14_1.out, od14_0.out, od14_1.out, z14.out, nb0.out, nb1.out, nd0.out, nd1.out, z15.out, n14_15.out⟩
  case eq1_1 => (first | with_reducible rfl | rfl)
 have N1_1 : ∀ (B18 : Nat) (B19 : Nat) (v2_ v9_ : Value) (f_ : Nat) (l_ : Array Bool) (W0 : World) (a_ : Act), f_ = 2 → l_ = #[true, true, true, true, true, true, true, true, true, true, true, true, true, true, true, true, false, false] → a_ = ({ tmps := #[yA,yB,yC,yD,yE,yF,yG,yH,yI,yJ,yK,.int .i64 (M : Int),.slice (some ⟨g1, e1, none⟩) n k1,yN,yO,yP,.slice (some ⟨g2, e2, none⟩) n k2,yR,.pointer (some ⟨B18, 0, none⟩),.pointer (some ⟨B19, 0, none⟩),yU,yV,yW,yX,yY,yZ,zA,zB,zC,zD,zE,zF,zG,zH,zI,zJ,zK,zL,zM,zN,zO,zP,zQ,zR,zS,zT,zU,zV,zW,zX,zY,zZ,uA,uB,uC,uD,uE,uF,uG,uH,uI,uJ,uK,uL,uM,uN,uO,uP,uQ,uR,uS,uT,uU,uV,uW,uX,uY,uZ,iA,iB,iC,iD,iE,iF,iG,iH,iI,iJ,iK,iL,iM,iN,iO,iP,iQ,iR,iS,iT,iU,iV,iW,iX,iY,iZ,oA,oB,oC,oD,.slice (some ⟨g2, e2, none⟩) n k2,.int .i64 (M : Int),v2_,.int .i64 z2,.slice (some ⟨g2, e2, none⟩) n k2,.int .i64 S2,.agg #[.int .i64 XN, .int .i64 XD],.slice (some ⟨g1, e1, none⟩) n k1,.int .i64 (M : Int),v9_,.int .i64 z1,.slice (some ⟨g1, e1, none⟩) n k1,.int .i64 S1,.agg #[.int .i64 YN, .int .i64 YD],oS,oT,oU,oV,oW,oX,oY,oZ,qA,qB,qC,qD,qE,qF,qG,qH,qI,qJ,qK,qL,qM,qN,qO,qP,qQ,qR,qS,qT,qU], defers := [] } : Act) → Ext w W0 → Hid (W0.cell? ⟨B18, 0, none⟩ = some (.int .i64 0)) → Hid (W0.cell? ⟨B18, 1, none⟩ = some (.int .i64 0)) → Hid (W0.frozen? ⟨B18, 0, none⟩ = false) → Hid (W0.frozen? ⟨B18, 1, none⟩ = false) → Hid (w.heap.size ≤ B18) → Hid (W0.cell? ⟨B19, 0, none⟩ = some (.int .i64 0)) → Hid (W0.cell? ⟨B19, 1, none⟩ = some (.int .i64 0)) → Hid (W0.frozen? ⟨B19, 0, none⟩ = false) → Hid (W0.frozen? ⟨B19, 1, none⟩ = false) → Hid (w.heap.size ≤ B19) → Hid (B18 ≠ B19) → F f_ l_ a_ W0 := by
  intro B18 B19 v2_ v9_ f_ l_ W0 a_ hf_ hl_ ha_ s0 b14_0 b14_1 d14_0 d14_1 z14 b15_0 b15_1 d15_0 d15_1 z15 n14_15
  subst hf_ hl_ ha_
  refine (hF.out _ _ _ _).2 ?_
  refine wpAnyH_ready (rs := [16]) (by kernel_rfl) (by simp) ?_
  refine AllReadyH.cons (o := _) rfl (fun K hK => ?_) AllReadyH.nil
  have f0 := b14_0.out
  have g0 := d14_0.out
  have f1 := b14_1.out
  have g1 := d14_1.out
  have l0_ := s0.size
  have z0_ := z14.out
  go_simp
  refine hK.out _ _ exE (fun _ => ?_)
  clear hK K
  try simp only [sxA, sxB, sxC, Act.put, sxD, sxE, sxF]
  refine name_any (fun W1 hW => ?_)
  have s1 : Ext w W1 := by rw [hW]; exact exE
  have nb0 := hid (show W1.cell? ⟨B18, 0, none⟩ = some (.int .i64 XN) by rw [hW]; simp [go_sem, f0, f1])
  have nb1 := hid (show W1.cell? ⟨B18, 1, none⟩ = some (.int .i64 XD) by rw [hW]; simp [go_sem, f0, f1])
  have nd0 := hid (show W1.frozen? ⟨B18, 0, none⟩ = false by rw [hW]; simp [go_sem, World.frozen?_setCell, g0, g1])
  have nd1 := hid (show W1.frozen? ⟨B18, 1, none⟩ = false by rw [hW]; simp [go_sem, World.frozen?_setCell, g0, g1])
  have ob15_0 : Hid (W1.cell? ⟨B19, 0, none⟩ = some (.int .i64 0)) := hid (by rw [hW]; exact (box_put (Ne.symm n14_15.out) (box_put (Ne.symm n14_15.out) b15_0.out)))
  have ob15_1 : Hid (W1.cell? ⟨B19, 1, none⟩ = some (.int .i64 0)) := hid (by rw [hW]; exact (box_put (Ne.symm n14_15.out) (box_put (Ne.symm n14_15.out) b15_1.out)))
  have od15_0 : Hid (W1.frozen? ⟨B19, 0, none⟩ = false) := hid (by rw [hW]; simp [go_sem, World.frozen?_setCell, d15_0.out])
  have od15_1 : Hid (W1.frozen? ⟨B19, 1, none⟩ = false) := hid (by rw [hW]; simp [go_sem, World.frozen?_setCell, d15_1.out])
  clear hW
  refine (hF.out _ _ _ _).1 ?_
  exact N1_0 B18 B19 _ _ _ _ W1 _ (by first | rfl | kernel_rfl) (by first | rfl | kernel_rfl) (by (try simp only [sxA, sxB, sxC, Act.put, sxD, sxE, sxF]); first | done | with_reducible rfl | rfl) s1 nb0 nb1 nd0 nd1 z14 ob15_0 ob15_1 od15_0 od15_1 z15 n14_15
 have N1_2 : ∀ (B18 : Nat) (v2_ v9_ : Value) (f_ : Nat) (l_ : Array Bool) (W0 : World) (a_ : Act), f_ = 3 → l_ = #[true, true, true, true, true, true, true, true, true, true, true, true, true, true, true, false, false, false] → a_ = ({ tmps := #[yA,yB,yC,yD,yE,yF,yG,yH,yI,yJ,yK,.int .i64 (M : Int),.slice (some ⟨g1, e1, none⟩) n k1,yN,yO,yP,.slice (some ⟨g2, e2, none⟩) n k2,yR,.pointer (some ⟨B18, 0, none⟩),yT,yU,yV,yW,yX,yY,yZ,zA,zB,zC,zD,zE,zF,zG,zH,zI,zJ,zK,zL,zM,zN,zO,zP,zQ,zR,zS,zT,zU,zV,zW,zX,zY,zZ,uA,uB,uC,uD,uE,uF,uG,uH,uI,uJ,uK,uL,uM,uN,uO,uP,uQ,uR,uS,uT,uU,uV,uW,uX,uY,uZ,iA,iB,iC,iD,iE,iF,iG,iH,iI,iJ,iK,iL,iM,iN,iO,iP,iQ,iR,iS,iT,iU,iV,iW,iX,iY,iZ,oA,oB,oC,oD,.slice (some ⟨g2, e2, none⟩) n k2,.int .i64 (M : Int),v2_,.int .i64 z2,.slice (some ⟨g2, e2, none⟩) n k2,.int .i64 S2,.agg #[.int .i64 XN, .int .i64 XD],.slice (some ⟨g1, e1, none⟩) n k1,.int .i64 (M : Int),v9_,.int .i64 z1,.slice (some ⟨g1, e1, none⟩) n k1,.int .i64 S1,.agg #[.int .i64 YN, .int .i64 YD],oS,oT,oU,oV,oW,oX,oY,oZ,qA,qB,qC,qD,qE,qF,qG,qH,qI,qJ,qK,qL,qM,qN,qO,qP,qQ,qR,qS,qT,qU], defers := [] } : Act) → Ext w W0 → Hid (W0.cell? ⟨B18, 0, none⟩ = some (.int .i64 0)) → Hid (W0.cell? ⟨B18, 1, none⟩ = some (.int .i64 0)) → Hid (W0.frozen? ⟨B18, 0, none⟩ = false) → Hid (W0.frozen? ⟨B18, 1, none⟩ = false) → Hid (w.heap.size ≤ B18) → F f_ l_ a_ W0 := by
  intro B18 v2_ v9_ f_ l_ W0 a_ hf_ hl_ ha_ s0 b14_0 b14_1 d14_0 d14_1 z14
  subst hf_ hl_ ha_
  refine (hF.out _ _ _ _).2 ?_
  clear N1_0
  refine wpAnyH_ready (rs := [15]) (by kernel_rfl) (by simp) ?_
  refine AllReadyH.cons (o := _) rfl (fun K hK => ?_) AllReadyH.nil
  go_simp
  refine hK.out _ _ (Ext.alloc s0 _) (fun _ => ?_)
  clear hK K
  try simp only [sxA, sxB, sxC, Act.put, sxD, sxE, sxF]
  refine name_any (fun W1 hW => ?_)
  have e1 : Ext W0 W1 := by rw [hW]; exact Ext.alloc (Ext.refl _) _
  have s1 := s0.trans e1
  have nb0 := hid (show W1.cell? ⟨W0.heap.size, 0, none⟩ = some (.int .i64 0) by rw [hW]; simp [go_sem])
  have nb1 := hid (show W1.cell? ⟨W0.heap.size, 1, none⟩ = some (.int .i64 0) by rw [hW]; simp [go_sem])
  have nd0 := hid (show W1.frozen? ⟨W0.heap.size, 0, none⟩ = false by rw [hW]; simp [go_sem])
  have nd1 := hid (show W1.frozen? ⟨W0.heap.size, 1, none⟩ = false by rw [hW]; simp [go_sem])
  clear hW
  refine (hF.out _ _ _ _).1 ?_
  exact N1_1 B18 W0.heap.size _ _ _ _ W1 _ (by first | rfl | kernel_rfl) (by first | rfl | kernel_rfl) (by (try simp only [sxA, sxB, sxC, Act.put, sxD, sxE, sxF]); first | done | with_reducible rfl | rfl) s1 (hid (e1.cell b14_0.out)) (hid (e1.cell b14_1.out)) (hid ((e1.frozen (cell_lt b14_0.out)).trans d14_0.out)) (hid ((e1.frozen (cell_lt b14_1.out)).trans d14_1.out)) z14 nb0 nb1 nd0 nd1 (hid s0.size) (hid (fun e => by have h9 := cell_lt b14_0.out; dsimp only at h9; omega))
 have N1_3 : ∀ (B19 : Nat) (v2_ v9_ : Value) (f_ : Nat) (l_ : Array Bool) (W0 : World) (a_ : Act), f_ = 3 → l_ = #[true, true, true, true, true, true, true, true, true, true, true, true, true, true, false, true, false, false] → a_ = ({ tmps := #[yA,yB,yC,yD,yE,yF,yG,yH,yI,yJ,yK,.int .i64 (M : Int),.slice (some ⟨g1, e1, none⟩) n k1,yN,yO,yP,.slice (some ⟨g2, e2, none⟩) n k2,yR,yS,.pointer (some ⟨B19, 0, none⟩),yU,yV,yW,yX,yY,yZ,zA,zB,zC,zD,zE,zF,zG,zH,zI,zJ,zK,zL,zM,zN,zO,zP,zQ,zR,zS,zT,zU,zV,zW,zX,zY,zZ,uA,uB,uC,uD,uE,uF,uG,uH,uI,uJ,uK,uL,uM,uN,uO,uP,uQ,uR,uS,uT,uU,uV,uW,uX,uY,uZ,iA,iB,iC,iD,iE,iF,iG,iH,iI,iJ,iK,iL,iM,iN,iO,iP,iQ,iR,iS,iT,iU,iV,iW,iX,iY,iZ,oA,oB,oC,oD,.slice (some ⟨g2, e2, none⟩) n k2,.int .i64 (M : Int),v2_,.int .i64 z2,.slice (some ⟨g2, e2, none⟩) n k2,.int .i64 S2,.agg #[.int .i64 XN, .int .i64 XD],.slice (some ⟨g1, e1, none⟩) n k1,.int .i64 (M : Int),v9_,.int .i64 z1,.slice (some ⟨g1, e1, none⟩) n k1,.int .i64 S1,.agg #[.int .i64 YN, .int .i64 YD],oS,oT,oU,oV,oW,oX,oY,oZ,qA,qB,qC,qD,qE,qF,qG,qH,qI,qJ,qK,qL,qM,qN,qO,qP,qQ,qR,qS,qT,qU], defers := [] } : Act) → Ext w W0 → Hid (W0.cell? ⟨B19, 0, none⟩ = some (.int .i64 0)) → Hid (W0.cell? ⟨B19, 1, none⟩ = some (.int .i64 0)) → Hid (W0.frozen? ⟨B19, 0, none⟩ = false) → Hid (W0.frozen? ⟨B19, 1, none⟩ = false) → Hid (w.heap.size ≤ B19) → F f_ l_ a_ W0 := by
  intro B19 v2_ v9_ f_ l_ W0 a_ hf_ hl_ ha_ s0 b15_0 b15_1 d15_0 d15_1 z15
  subst hf_ hl_ ha_
  refine (hF.out _ _ _ _).2 ?_
  clear N1_0 N1_2
  refine wpAnyH_ready (rs := [14]) (by kernel_rfl) (by simp) ?_
  refine AllReadyH.cons (o := _) rfl (fun K hK => ?_) AllReadyH.nil
  go_simp
  refine hK.out _ _ (Ext.alloc s0 _) (fun _ => ?_)
  clear hK K
  try simp only [sxA, sxB, sxC, Act.put, sxD, sxE, sxF]
  refine name_any (fun W1 hW => ?_)
  have e1 : Ext W0 W1 := by rw [hW]; exact Ext.alloc (Ext.refl _) _
  have s1 := s0.trans e1
  have nb0 := hid (show W1.cell? ⟨W0.heap.size, 0, none⟩ = some (.int .i64 0) by rw [hW]; simp [go_sem])
  have nb1 := hid (show W1.cell? ⟨W0.heap.size, 1, none⟩ = some (.int .i64 0) by rw [hW]; simp [go_sem])
  have nd0 := hid (show W1.frozen? ⟨W0.heap.size, 0, none⟩ = false by rw [hW]; simp [go_sem])
  have nd1 := hid (show W1.frozen? ⟨W0.heap.size, 1, none⟩ = false by rw [hW]; simp [go_sem])
  clear hW
  refine (hF.out _ _ _ _).1 ?_
  exact N1_1 W0.heap.size B19 _ _ _ _ W1 _ (by first | rfl | kernel_rfl) (by first | rfl | kernel_rfl) (by (try simp only [sxA, sxB, sxC, Act.put, sxD, sxE, sxF]); first | done | with_reducible rfl | rfl) s1 nb0 nb1 nd0 nd1 (hid s0.size) (hid (e1.cell b15_0.out)) (hid (e1.cell b15_1.out)) (hid ((e1.frozen (cell_lt b15_0.out)).trans d15_0.out)) (hid ((e1.frozen (cell_lt b15_1.out)).trans d15_1.out)) z15 (hid (fun e => by have h9 := cell_lt b15_0.out; dsimp only at h9; omega))
 have N1_4 : ∀ (B18 : Nat) (B19 : Nat) (v2_ v9_ : Value) (f_ : Nat) (l_ : Array Bool) (W0 : World) (a_ : Act), f_ = 3 → l_ = #[true, true, true, true, true, true, true, true, true, true, true, true, true, false, true, true, false, false] → a_ = ({ tmps := #[yA,yB,yC,yD,yE,yF,yG,yH,yI,yJ,yK,.int .i64 (M : Int),.slice (some ⟨g1, e1, none⟩) n k1,yN,yO,yP,.slice (some ⟨g2, e2, none⟩) n k2,yR,.pointer (some ⟨B18, 0, none⟩),.pointer (some ⟨B19, 0, none⟩),yU,yV,yW,yX,yY,yZ,zA,zB,zC,zD,zE,zF,zG,zH,zI,zJ,zK,zL,zM,zN,zO,zP,zQ,zR,zS,zT,zU,zV,zW,zX,zY,zZ,uA,uB,uC,uD,uE,uF,uG,uH,uI,uJ,uK,uL,uM,uN,uO,uP,uQ,uR,uS,uT,uU,uV,uW,uX,uY,uZ,iA,iB,iC,iD,iE,iF,iG,iH,iI,iJ,iK,iL,iM,iN,iO,iP,iQ,iR,iS,iT,iU,iV,iW,iX,iY,iZ,oA,oB,oC,oD,.slice (some ⟨g2, e2, none⟩) n k2,.int .i64 (M : Int),v2_,.int .i64 z2,.slice (some ⟨g2, e2, none⟩) n k2,.int .i64 S2,.agg #[.int .i64 XN, .int .i64 XD],.slice (some ⟨g1, e1, none⟩) n k1,.int .i64 (M : Int),v9_,.int .i64 z1,.slice (some ⟨g1, e1, none⟩) n k1,.int .i64 S1,oR,oS,oT,oU,oV,oW,oX,oY,oZ,qA,qB,qC,qD,qE,qF,qG,qH,qI,qJ,qK,qL,qM,qN,qO,qP,qQ,qR,qS,qT,qU], defers := [] } : Act) → Ext w W0 → Hid (W0.cell? ⟨B18, 0, none⟩ = some (.int .i64 0)) → Hid (W0.cell? ⟨B18, 1, none⟩ = some (.int .i64 0)) → Hid (W0.frozen? ⟨B18, 0, none⟩ = false) → Hid (W0.frozen? ⟨B18, 1, none⟩ = false) → Hid (w.heap.size ≤ B18) → Hid (W0.cell? ⟨B19, 0, none⟩ = some (.int .i64 0)) → Hid (W0.cell? ⟨B19, 1, none⟩ = some (.int .i64 0)) → Hid (W0.frozen? ⟨B19, 0, none⟩ = false) → Hid (W0.frozen? ⟨B19, 1, none⟩ = false) → Hid (w.heap.size ≤ B19) → Hid (B18 ≠ B19) → F f_ l_ a_ W0 := by
  intro B18 B19 v2_ v9_ f_ l_ W0 a_ hf_ hl_ ha_ s0 b14_0 b14_1 d14_0 d14_1 z14 b15_0 b15_1 d15_0 d15_1 z15 n14_15
  subst hf_ hl_ ha_
  refine (hF.out _ _ _ _).2 ?_
  clear N1_0 N1_2 N1_3
  refine wpAnyH_ready (rs := [13]) (by kernel_rfl) (by simp) ?_
  refine AllReadyH.cons (o := _) rfl (fun K hK => ?_) AllReadyH.nil
  refine tk_call (by kernel_rfl) (hb1.out _) (by kernel_rfl) ?_; rintro e W1 ⟨rfl, e1⟩; refine ⟨_, rfl, ?_⟩
  have s1 := s0.trans e1
  refine hK.out _ _ s1 (fun _ => ?_)
  clear hK K
  try simp only [sxA, sxB, sxC, Act.put, sxD, sxE, sxF]
  refine (hF.out _ _ _ _).1 ?_
  exact N1_1 B18 B19 _ _ _ _ W1 _ (by first | rfl | kernel_rfl) (by first | rfl | kernel_rfl) (by (try simp only [sxA, sxB, sxC, Act.put, sxD, sxE, sxF]); first | done | with_reducible rfl | rfl) s1 (hid (e1.cell b14_0.out)) (hid (e1.cell b14_1.out)) (hid ((e1.frozen (cell_lt b14_0.out)).trans d14_0.out)) (hid ((e1.frozen (cell_lt b14_1.out)).trans d14_1.out)) z14 (hid (e1.cell b15_0.out)) (hid (e1.cell b15_1.out)) (hid ((e1.frozen (cell_lt b15_0.out)).trans d15_0.out)) (hid ((e1.frozen (cell_lt b15_1.out)).trans d15_1.out)) z15 n14_15
 have N1_5 : ∀ (v2_ v9_ : Value) (f_ : Nat) (l_ : Array Bool) (W0 : World) (a_ : Act), f_ = 4 → l_ = #[true, true, true, true, true, true, true, true, true, true, true, true, true, true, false, false, false, false] → a_ = ({ tmps := #[yA,yB,yC,yD,yE,yF,yG,yH,yI,yJ,yK,.int .i64 (M : Int),.slice (some ⟨g1, e1, none⟩) n k1,yN,yO,yP,.slice (some ⟨g2, e2, none⟩) n k2,yR,yS,yT,yU,yV,yW,yX,yY,yZ,zA,zB,zC,zD,zE,zF,zG,zH,zI,zJ,zK,zL,zM,zN,zO,zP,zQ,zR,zS,zT,zU,zV,zW,zX,zY,zZ,uA,uB,uC,uD,uE,uF,uG,uH,uI,uJ,uK,uL,uM,uN,uO,uP,uQ,uR,uS,uT,uU,uV,uW,uX,uY,uZ,iA,iB,iC,iD,iE,iF,iG,iH,iI,iJ,iK,iL,iM,iN,iO,iP,iQ,iR,iS,iT,iU,iV,iW,iX,iY,iZ,oA,oB,oC,oD,.slice (some ⟨g2, e2, none⟩) n k2,.int .i64 (M : Int),v2_,.int .i64 z2,.slice (some ⟨g2, e2, none⟩) n k2,.int .i64 S2,.agg #[.int .i64 XN, .int .i64 XD],.slice (some ⟨g1, e1, none⟩) n k1,.int .i64 (M : Int),v9_,.int .i64 z1,.slice (some ⟨g1, e1, none⟩) n k1,.int .i64 S1,.agg #[.int .i64 YN, .int .i64 YD],oS,oT,oU,oV,oW,oX,oY,oZ,qA,qB,qC,qD,qE,qF,qG,qH,qI,qJ,qK,qL,qM,qN,qO,qP,qQ,qR,qS,qT,qU], defers := [] } : Act) → Ext w W0 → F f_ l_ a_ W0 := by
  intro v2_ v9_ f_ l_ W0 a_ hf_ hl_ ha_ s0
  subst hf_ hl_ ha_
  refine (hF.out _ _ _ _).2 ?_
  clear N1_0 N1_1 N1_4
  refine wpAnyH_ready (rs := [14, 15]) (by kernel_rfl) (by simp) ?_
  refine AllReadyH.cons (o := _) rfl (fun K hK => ?_) ?_
  ·skip
   go_simp
   refine hK.out _ _ (Ext.alloc s0 _) (fun _ => ?_)
   clear hK K
   try simp only [sxA, sxB, sxC, Act.put, sxD, sxE, sxF]
   refine name_any (fun W1 hW => ?_)
   have e1 : Ext W0 W1 := by rw [hW]; exact Ext.alloc (Ext.refl _) _
   have s1 := s0.trans e1
   have nb0 := hid (show W1.cell? ⟨W0.heap.size, 0, none⟩ = some (.int .i64 0) by rw [hW]; simp [go_sem])
   have nb1 := hid (show W1.cell? ⟨W0.heap.size, 1, none⟩ = some (.int .i64 0) by rw [hW]; simp [go_sem])
   have nd0 := hid (show W1.frozen? ⟨W0.heap.size, 0, none⟩ = false by rw [hW]; simp [go_sem])
   have nd1 := hid (show W1.frozen? ⟨W0.heap.size, 1, none⟩ = false by rw [hW]; simp [go_sem])
   clear hW
   refine (hF.out _ _ _ _).1 ?_
   exact N1_2 W0.heap.size _ _ _ _ W1 _ (by first | rfl | kernel_rfl) (by first | rfl | kernel_rfl) (by (try simp only [sxA, sxB, sxC, Act.put, sxD, sxE, sxF]); first | done | with_reducible rfl | rfl) s1 nb0 nb1 nd0 nd1 (hid s0.size)
  refine AllReadyH.cons (o := _) rfl (fun K hK => ?_) ?_
  ·skip
   go_simp
   refine hK.out _ _ (Ext.alloc s0 _) (fun _ => ?_)
   clear hK K
   try simp only [sxA, sxB, sxC, Act.put, sxD, sxE, sxF]
   refine name_any (fun W1 hW => ?_)
   have e1 : Ext W0 W1 := by rw [hW]; exact Ext.alloc (Ext.refl _) _
   have s1 := s0.trans e1
   have nb0 := hid (show W1.cell? ⟨W0.heap.size, 0, none⟩ = some (.int .i64 0) by rw [hW]; simp [go_sem])
   have nb1 := hid (show W1.cell? ⟨W0.heap.size, 1, none⟩ = some (.int .i64 0) by rw [hW]; simp [go_sem])
   have nd0 := hid (show W1.frozen? ⟨W0.heap.size, 0, none⟩ = false by rw [hW]; simp [go_sem])
   have nd1 := hid (show W1.frozen? ⟨W0.heap.size, 1, none⟩ = false by rw [hW]; simp [go_sem])
   clear hW
   refine (hF.out _ _ _ _).1 ?_
   exact N1_3 W0.heap.size _ _ _ _ W1 _ (by first | rfl | kernel_rfl) (by first | rfl | kernel_rfl) (by (try simp only [sxA, sxB, sxC, Act.put, sxD, sxE, sxF]); first | done | with_reducible rfl | rfl) s1 nb0 nb1 nd0 nd1 (hid s0.size)
  exact AllReadyH.nil
 have N1_6 : ∀ (B18 : Nat) (v2_ v9_ : Value) (f_ : Nat) (l_ : Array Bool) (W0 : World) (a_ : Act), f_ = 4 → l_ = #[true, true, true, true, true, true, true, true, true, true, true, true, true, false, true, false, false, false] → a_ = ({ tmps := #[yA,yB,yC,yD,yE,yF,yG,yH,yI,yJ,yK,.int .i64 (M : Int),.slice (some ⟨g1, e1, none⟩) n k1,yN,yO,yP,.slice (some ⟨g2, e2, none⟩) n k2,yR,.pointer (some ⟨B18, 0, none⟩),yT,yU,yV,yW,yX,yY,yZ,zA,zB,zC,zD,zE,zF,zG,zH,zI,zJ,zK,zL,zM,zN,zO,zP,zQ,zR,zS,zT,zU,zV,zW,zX,zY,zZ,uA,uB,uC,uD,uE,uF,uG,uH,uI,uJ,uK,uL,uM,uN,uO,uP,uQ,uR,uS,uT,uU,uV,uW,uX,uY,uZ,iA,iB,iC,iD,iE,iF,iG,iH,iI,iJ,iK,iL,iM,iN,iO,iP,iQ,iR,iS,iT,iU,iV,iW,iX,iY,iZ,oA,oB,oC,oD,.slice (some ⟨g2, e2, none⟩) n k2,.int .i64 (M : Int),v2_,.int .i64 z2,.slice (some ⟨g2, e2, none⟩) n k2,.int .i64 S2,.agg #[.int .i64 XN, .int .i64 XD],.slice (some ⟨g1, e1, none⟩) n k1,.int .i64 (M : Int),v9_,.int .i64 z1,.slice (some ⟨g1, e1, none⟩) n k1,.int .i64 S1,oR,oS,oT,oU,oV,oW,oX,oY,oZ,qA,qB,qC,qD,qE,qF,qG,qH,qI,qJ,qK,qL,qM,qN,qO,qP,qQ,qR,qS,qT,qU], defers := [] } : Act) → Ext w W0 → Hid (W0.cell? ⟨B18, 0, none⟩ = some (.int .i64 0)) → Hid (W0.cell? ⟨B18, 1, none⟩ = some (.int .i64 0)) → Hid (W0.frozen? ⟨B18, 0, none⟩ = false) → Hid (W0.frozen? ⟨B18, 1, none⟩ = false) → Hid (w.heap.size ≤ B18) → F f_ l_ a_ W0 := by
  intro B18 v2_ v9_ f_ l_ W0 a_ hf_ hl_ ha_ s0 b14_0 b14_1 d14_0 d14_1 z14
  subst hf_ hl_ ha_
  refine (hF.out _ _ _ _).2 ?_
  clear N1_0 N1_1 N1_3 N1_5
  refine wpAnyH_ready (rs := [13, 15]) (by kernel_rfl) (by simp) ?_
  refine AllReadyH.cons (o := _) rfl (fun K hK => ?_) ?_
  ·skip
   refine tk_call (by kernel_rfl) (hb1.out _) (by kernel_rfl) ?_; rintro e W1 ⟨rfl, e1⟩; refine ⟨_, rfl, ?_⟩
   have s1 := s0.trans e1
   refine hK.out _ _ s1 (fun _ => ?_)
   clear hK K
   try simp only [sxA, sxB, sxC, Act.put, sxD, sxE, sxF]
   refine (hF.out _ _ _ _).1 ?_
   exact N1_2 B18 _ _ _ _ W1 _ (by first | rfl | kernel_rfl) (by first | rfl | kernel_rfl) (by (try simp only [sxA, sxB, sxC, Act.put, sxD, sxE, sxF]); first | done | with_reducible rfl | rfl) s1 (hid (e1.cell b14_0.out)) (hid (e1.cell b14_1.out)) (hid ((e1.frozen (cell_lt b14_0.out)).trans d14_0.out)) (hid ((e1.frozen (cell_lt b14_1.out)).trans d14_1.out)) z14
  refine AllReadyH.cons (o := _) rfl (fun K hK => ?_) ?_
  ·skip
   go_simp
   refine hK.out _ _ (Ext.alloc s0 _) (fun _ => ?_)
   clear hK K
   try simp only [sxA, sxB, sxC, Act.put, sxD, sxE, sxF]
   refine name_any (fun W1 hW => ?_)
   have e1 : Ext W0 W1 := by rw [hW]; exact Ext.alloc (Ext.refl _) _
   have s1 := s0.trans e1
   have nb0 := hid (show W1.cell? ⟨W0.heap.size, 0, none⟩ = some (.int .i64 0) by rw [hW]; simp [go_sem])
   have nb1 := hid (show W1.cell? ⟨W0.heap.size, 1, none⟩ = some (.int .i64 0) by rw [hW]; simp [go_sem])
   have nd0 := hid (show W1.frozen? ⟨W0.heap.size, 0, none⟩ = false by rw [hW]; simp [go_sem])
   have nd1 := hid (show W1.frozen? ⟨W0.heap.size, 1, none⟩ = false by rw [hW]; simp [go_sem])
   clear hW
   refine (hF.out _ _ _ _).1 ?_
   exact N1_4 B18 W0.heap.size _ _ _ _ W1 _ (by first | rfl | kernel_rfl) (by first | rfl | kernel_rfl) (by (try simp only [sxA, sxB, sxC, Act.put, sxD, sxE, sxF]); first | done | with_reducible rfl | rfl) s1 (hid (e1.cell b14_0.out)) (hid (e1.cell b14_1.out)) (hid ((e1.frozen (cell_lt b14_0.out)).trans d14_0.out)) (hid ((e1.frozen (cell_lt b14_1.out)).trans d14_1.out)) z14 nb0 nb1 nd0 nd1 (hid s0.size) (hid (fun e => by have h9 := cell_lt b14_0.out; dsimp only at h9; omega))
  exact AllReadyH.nil
 have N1_7 : ∀ (B19 : Nat) (v2_ v9_ : Value) (f_ : Nat) (l_ : Array Bool) (W0 : World) (a_ : Act), f_ = 4 → l_ = #[true, true, true, true, true, true, true, true, true, true, true, true, true, false, false, true, false, false] → a_ = ({ tmps := #[yA,yB,yC,yD,yE,yF,yG,yH,yI,yJ,yK,.int .i64 (M : Int),.slice (some ⟨g1, e1, none⟩) n k1,yN,yO,yP,.slice (some ⟨g2, e2, none⟩) n k2,yR,yS,.pointer (some ⟨B19, 0, none⟩),yU,yV,yW,yX,yY,yZ,zA,zB,zC,zD,zE,zF,zG,zH,zI,zJ,zK,zL,zM,zN,zO,zP,zQ,zR,zS,zT,zU,zV,zW,zX,zY,zZ,uA,uB,uC,uD,uE,uF,uG,uH,uI,uJ,uK,uL,uM,uN,uO,uP,uQ,uR,uS,uT,uU,uV,uW,uX,uY,uZ,iA,iB,iC,iD,iE,iF,iG,iH,iI,iJ,iK,iL,iM,iN,iO,iP,iQ,iR,iS,iT,iU,iV,iW,iX,iY,iZ,oA,oB,oC,oD,.slice (some ⟨g2, e2, none⟩) n k2,.int .i64 (M : Int),v2_,.int .i64 z2,.slice (some ⟨g2, e2, none⟩) n k2,.int .i64 S2,.agg #[.int .i64 XN, .int .i64 XD],.slice (some ⟨g1, e1, none⟩) n k1,.int .i64 (M : Int),v9_,.int .i64 z1,.slice (some ⟨g1, e1, none⟩) n k1,.int .i64 S1,oR,oS,oT,oU,oV,oW,oX,oY,oZ,qA,qB,qC,qD,qE,qF,qG,qH,qI,qJ,qK,qL,qM,qN,qO,qP,qQ,qR,qS,qT,qU], defers := [] } : Act) → Ext w W0 → Hid (W0.cell? ⟨B19, 0, none⟩ = some (.int .i64 0)) → Hid (W0.cell? ⟨B19, 1, none⟩ = some (.int .i64 0)) → Hid (W0.frozen? ⟨B19, 0, none⟩ = false) → Hid (W0.frozen? ⟨B19, 1, none⟩ = false) → Hid (w.heap.size ≤ B19) → F f_ l_ a_ W0 := by
  intro B19 v2_ v9_ f_ l_ W0 a_ hf_ hl_ ha_ s0 b15_0 b15_1 d15_0 d15_1 z15
  subst hf_ hl_ ha_
  refine (hF.out _ _ _ _).2 ?_
  clear N1_0 N1_1 N1_2 N1_5 N1_6
  refine wpAnyH_ready (rs := [13, 14]) (by kernel_rfl) (by simp) ?_
  refine AllReadyH.cons (o := _) rfl (fun K hK => ?_) ?_
  ·skip
   refine tk_call (by kernel_rfl) (hb1.out _) (by kernel_rfl) ?_; rintro e W1 ⟨rfl, e1⟩; refine ⟨_, rfl, ?_⟩
   have s1 := s0.trans e1
   refine hK.out _ _ s1 (fun _ => ?_)
   clear hK K
   try simp only [sxA, sxB, sxC, Act.put, sxD, sxE, sxF]
   refine (hF.out _ _ _ _).1 ?_
   exact N1_3 B19 _ _ _ _ W1 _ (by first | rfl | kernel_rfl) (by first | rfl | kernel_rfl) (by (try simp only [sxA, sxB, sxC, Act.put, sxD, sxE, sxF]); first | done | with_reducible rfl | rfl) s1 (hid (e1.cell b15_0.out)) (hid (e1.cell b15_1.out)) (hid ((e1.frozen (cell_lt b15_0.out)).trans d15_0.out)) (hid ((e1.frozen (cell_lt b15_1.out)).trans d15_1.out)) z15
  refine AllReadyH.cons (o := _) rfl (fun K hK => ?_) ?_
  ·skip
   go_simp
   refine hK.out _ _ (Ext.alloc s0 _) (fun _ => ?_)
   clear hK K
   try simp only [sxA, sxB, sxC, Act.put, sxD, sxE, sxF]
   refine name_any (fun W1 hW => ?_)
   have e1 : Ext W0 W1 := by rw [hW]; exact Ext.alloc (Ext.refl _) _
   have s1 := s0.trans e1
   have nb0 := hid (show W1.cell? ⟨W0.heap.size, 0, none⟩ = some (.int .i64 0) by rw [hW]; simp [go_sem])
   have nb1 := hid (show W1.cell? ⟨W0.heap.size, 1, none⟩ = some (.int .i64 0) by rw [hW]; simp [go_sem])
   have nd0 := hid (show W1.frozen? ⟨W0.heap.size, 0, none⟩ = false by rw [hW]; simp [go_sem])
   have nd1 := hid (show W1.frozen? ⟨W0.heap.size, 1, none⟩ = false by rw [hW]; simp [go_sem])
   clear hW
   refine (hF.out _ _ _ _).1 ?_
   exact N1_4 W0.heap.size B19 _ _ _ _ W1 _ (by first | rfl | kernel_rfl) (by first | rfl | kernel_rfl) (by (try simp only [sxA, sxB, sxC, Act.put, sxD, sxE, sxF]); first | done | with_reducible rfl | rfl) s1 nb0 nb1 nd0 nd1 (hid s0.size) (hid (e1.cell b15_0.out)) (hid (e1.cell b15_1.out)) (hid ((e1.frozen (cell_lt b15_0.out)).trans d15_0.out)) (hid ((e1.frozen (cell_lt b15_1.out)).trans d15_1.out)) z15 (hid (fun e => by have h9 := cell_lt b15_0.out; dsimp only at h9; omega))
  exact AllReadyH.nil
 have N1_8 : ∀ (B18 : Nat) (B19 : Nat) (v2_ v9_ : Value) (f_ : Nat) (l_ : Array Bool) (W0 : World) (a_ : Act), f_ = 4 → l_ = #[true, true, true, true, true, true, true, true, true, true, true, true, false, false, true, true, false, false] → a_ = ({ tmps := #[yA,yB,yC,yD,yE,yF,yG,yH,yI,yJ,yK,.int .i64 (M : Int),.slice (some ⟨g1, e1, none⟩) n k1,yN,yO,yP,.slice (some ⟨g2, e2, none⟩) n k2,yR,.pointer (some ⟨B18, 0, none⟩),.pointer (some ⟨B19, 0, none⟩),yU,yV,yW,yX,yY,yZ,zA,zB,zC,zD,zE,zF,zG,zH,zI,zJ,zK,zL,zM,zN,zO,zP,zQ,zR,zS,zT,zU,zV,zW,zX,zY,zZ,uA,uB,uC,uD,uE,uF,uG,uH,uI,uJ,uK,uL,uM,uN,uO,uP,uQ,uR,uS,uT,uU,uV,uW,uX,uY,uZ,iA,iB,iC,iD,iE,iF,iG,iH,iI,iJ,iK,iL,iM,iN,iO,iP,iQ,iR,iS,iT,iU,iV,iW,iX,iY,iZ,oA,oB,oC,oD,.slice (some ⟨g2, e2, none⟩) n k2,.int .i64 (M : Int),v2_,.int .i64 z2,.slice (some ⟨g2, e2, none⟩) n k2,.int .i64 S2,.agg #[.int .i64 XN, .int .i64 XD],.slice (some ⟨g1, e1, none⟩) n k1,.int .i64 (M : Int),v9_,.int .i64 z1,.slice (some ⟨g1, e1, none⟩) n k1,oQ,oR,oS,oT,oU,oV,oW,oX,oY,oZ,qA,qB,qC,qD,qE,qF,qG,qH,qI,qJ,qK,qL,qM,qN,qO,qP,qQ,qR,qS,qT,qU], defers := [] } : Act) → Ext w W0 → Hid (W0.cell? ⟨B18, 0, none⟩ = some (.int .i64 0)) → Hid (W0.cell? ⟨B18, 1, none⟩ = some (.int .i64 0)) → Hid (W0.frozen? ⟨B18, 0, none⟩ = false) → Hid (W0.frozen? ⟨B18, 1, none⟩ = false) → Hid (w.heap.size ≤ B18) → Hid (W0.cell? ⟨B19, 0, none⟩ = some (.int .i64 0)) → Hid (W0.cell? ⟨B19, 1, none⟩ = some (.int .i64 0)) → Hid (W0.frozen? ⟨B19, 0, none⟩ = false) → Hid (W0.frozen? ⟨B19, 1, none⟩ = false) → Hid (w.heap.size ≤ B19) → Hid (B18 ≠ B19) → F f_ l_ a_ W0 := by
  intro B18 B19 v2_ v9_ f_ l_ W0 a_ hf_ hl_ ha_ s0 b14_0 b14_1 d14_0 d14_1 z14 b15_0 b15_1 d15_0 d15_1 z15 n14_15
  subst hf_ hl_ ha_
  refine (hF.out _ _ _ _).2 ?_
  clear N1_0 N1_1 N1_2 N1_3 N1_5 N1_6 N1_7
  refine wpAnyH_ready (rs := [12]) (by kernel_rfl) (by simp) ?_
  refine AllReadyH.cons (o := _) rfl (fun K hK => ?_) AllReadyH.nil
  refine tk_call (by kernel_rfl) (hs1.out _ s0) (by kernel_rfl) ?_; rintro e W1 ⟨rfl, e1⟩; refine ⟨_, rfl, ?_⟩
  have s1 := s0.trans e1
  refine hK.out _ _ s1 (fun _ => ?_)
  clear hK K
  try simp only [sxA, sxB, sxC, Act.put, sxD, sxE, sxF]
  refine (hF.out _ _ _ _).1 ?_
  exact N1_4 B18 B19 _ _ _ _ W1 _ (by first | rfl | kernel_rfl) (by first | rfl | kernel_rfl) (by (try simp only [sxA, sxB, sxC, Act.put, sxD, sxE, sxF]); first | done | with_reducible rfl | rfl) s1 (hid (e1.cell b14_0.out)) (hid (e1.cell b14_1.out)) (hid ((e1.frozen (cell_lt b14_0.out)).trans d14_0.out)) (hid ((e1.frozen (cell_lt b14_1.out)).trans d14_1.out)) z14 (hid (e1.cell b15_0.out)) (hid (e1.cell b15_1.out)) (hid ((e1.frozen (cell_lt b15_0.out)).trans d15_0.out)) (hid ((e1.frozen (cell_lt b15_1.out)).trans d15_1.out)) z15 n14_15
 have N1_9 : ∀ (v2_ v9_ : Value) (f_ : Nat) (l_ : Array Bool) (W0 : World) (a_ : Act), f_ = 5 → l_ = #[true, true, true, true, true, true, true, true, true, true, true, true, true, false, false, false, false, false] → a_ = ({ tmps := #[yA,yB,yC,yD,yE,yF,yG,yH,yI,yJ,yK,.int .i64 (M : Int),.slice (some ⟨g1, e1, none⟩) n k1,yN,yO,yP,.slice (some ⟨g2, e2, none⟩) n k2,yR,yS,yT,yU,yV,yW,yX,yY,yZ,zA,zB,zC,zD,zE,zF,zG,zH,zI,zJ,zK,zL,zM,zN,zO,zP,zQ,zR,zS,zT,zU,zV,zW,zX,zY,zZ,uA,uB,uC,uD,uE,uF,uG,uH,uI,uJ,uK,uL,uM,uN,uO,uP,uQ,uR,uS,uT,uU,uV,uW,uX,uY,uZ,iA,iB,iC,iD,iE,iF,iG,iH,iI,iJ,iK,iL,iM,iN,iO,iP,iQ,iR,iS,iT,iU,iV,iW,iX,iY,iZ,oA,oB,oC,oD,.slice (some ⟨g2, e2, none⟩) n k2,.int .i64 (M : Int),v2_,.int .i64 z2,.slice (some ⟨g2, e2, none⟩) n k2,.int .i64 S2,.agg #[.int .i64 XN, .int .i64 XD],.slice (some ⟨g1, e1, none⟩) n k1,.int .i64 (M : Int),v9_,.int .i64 z1,.slice (some ⟨g1, e1, none⟩) n k1,.int .i64 S1,oR,oS,oT,oU,oV,oW,oX,oY,oZ,qA,qB,qC,qD,qE,qF,qG,qH,qI,qJ,qK,qL,qM,qN,qO,qP,qQ,qR,qS,qT,qU], defers := [] } : Act) → Ext w W0 → F f_ l_ a_ W0 := by
  intro v2_ v9_ f_ l_ W0 a_ hf_ hl_ ha_ s0
  subst hf_ hl_ ha_
  refine (hF.out _ _ _ _).2 ?_
  clear N1_0 N1_1 N1_2 N1_3 N1_4 N1_8
  refine wpAnyH_ready (rs := [13, 14, 15]) (by kernel_rfl) (by simp) ?_
  refine AllReadyH.cons (o := _) rfl (fun K hK => ?_) ?_
  ·skip
   refine tk_call (by kernel_rfl) (hb1.out _) (by kernel_rfl) ?_; rintro e W1 ⟨rfl, e1⟩; refine ⟨_, rfl, ?_⟩
   have s1 := s0.trans e1
   refine hK.out _ _ s1 (fun _ => ?_)
   clear hK K
   try simp only [sxA, sxB, sxC, Act.put, sxD, sxE, sxF]
   refine (hF.out _ _ _ _).1 ?_
   exact N1_5 _ _ _ _ W1 _ (by first | rfl | kernel_rfl) (by first | rfl | kernel_rfl) (by (try simp only [sxA, sxB, sxC, Act.put, sxD, sxE, sxF]); first | done | with_reducible rfl | rfl) s1
  refine AllReadyH.cons (o := _) rfl (fun K hK => ?_) ?_
  ·skip
   go_simp
   refine hK.out _ _ (Ext.alloc s0 _) (fun _ => ?_)
   clear hK K
   try simp only [sxA, sxB, sxC, Act.put, sxD, sxE, sxF]
   refine name_any (fun W1 hW => ?_)
   have e1 : Ext W0 W1 := by rw [hW]; exact Ext.alloc (Ext.refl _) _
   have s1 := s0.trans e1
   have nb0 := hid (show W1.cell? ⟨W0.heap.size, 0, none⟩ = some (.int .i64 0) by rw [hW]; simp [go_sem])
   have nb1 := hid (show W1.cell? ⟨W0.heap.size, 1, none⟩ = some (.int .i64 0) by rw [hW]; simp [go_sem])
   have nd0 := hid (show W1.frozen? ⟨W0.heap.size, 0, none⟩ = false by rw [hW]; simp [go_sem])
   have nd1 := hid (show W1.frozen? ⟨W0.heap.size, 1, none⟩ = false by rw [hW]; simp [go_sem])
   clear hW
   refine (hF.out _ _ _ _).1 ?_
   exact N1_6 W0.heap.size _ _ _ _ W1 _ (by first | rfl | kernel_rfl) (by first | rfl | kernel_rfl) (by (try simp only [sxA, sxB, sxC, Act.put, sxD, sxE, sxF]); first | done | with_reducible rfl | rfl) s1 nb0 nb1 nd0 nd1 (hid s0.size)
  refine AllReadyH.cons (o := _) rfl (fun K hK => ?_) ?_
  ·skip
   go_simp
   refine hK.out _ _ (Ext.alloc s0 _) (fun _ => ?_)
   clear hK K
   try simp only [sxA, sxB, sxC, Act.put, sxD, sxE, sxF]
   refine name_any (fun W1 hW => ?_)
   have e1 : Ext W0 W1 := by rw [hW]; exact Ext.alloc (Ext.refl _) _
   have s1 := s0.trans e1
   have nb0 := hid (show W1.cell? ⟨W0.heap.size, 0, none⟩ = some (.int .i64 0) by rw [hW]; simp [go_sem])
   have nb1 := hid (show W1.cell? ⟨W0.heap.size, 1, none⟩ = some (.int .i64 0) by rw [hW]; simp [go_sem])
   have nd0 := hid (show W1.frozen? ⟨W0.heap.size, 0, none⟩ = false by rw [hW]; simp [go_sem])
   have nd1 := hid (show W1.frozen? ⟨W0.heap.size, 1, none⟩ = false by rw [hW]; simp [go_sem])
   clear hW
   refine (hF.out _ _ _ _).1 ?_
   exact N1_7 W0.heap.size _ _ _ _ W1 _ (by first | rfl | kernel_rfl) (by first | rfl | kernel_rfl) (by (try simp only [sxA, sxB, sxC, Act.put, sxD, sxE, sxF]); first | done | with_reducible rfl | rfl) s1 nb0 nb1 nd0 nd1 (hid s0.size)
  exact AllReadyH.nil
 have N1_10 : ∀ (B18 : Nat) (v2_ v9_ : Value) (f_ : Nat) (l_ : Array Bool) (W0 : World) (a_ : Act), f_ = 5 → l_ = #[true, true, true, true, true, true, true, true, true, true, true, true, false, false, true, false, false, false] → a_ = ({ tmps := #[yA,yB,yC,yD,yE,yF,yG,yH,yI,yJ,yK,.int .i64 (M : Int),.slice (some ⟨g1, e1, none⟩) n k1,yN,yO,yP,.slice (some ⟨g2, e2, none⟩) n k2,yR,.pointer (some ⟨B18, 0, none⟩),yT,yU,yV,yW,yX,yY,yZ,zA,zB,zC,zD,zE,zF,zG,zH,zI,zJ,zK,zL,zM,zN,zO,zP,zQ,zR,zS,zT,zU,zV,zW,zX,zY,zZ,uA,uB,uC,uD,uE,uF,uG,uH,uI,uJ,uK,uL,uM,uN,uO,uP,uQ,uR,uS,uT,uU,uV,uW,uX,uY,uZ,iA,iB,iC,iD,iE,iF,iG,iH,iI,iJ,iK,iL,iM,iN,iO,iP,iQ,iR,iS,iT,iU,iV,iW,iX,iY,iZ,oA,oB,oC,oD,.slice (some ⟨g2, e2, none⟩) n k2,.int .i64 (M : Int),v2_,.int .i64 z2,.slice (some ⟨g2, e2, none⟩) n k2,.int .i64 S2,.agg #[.int .i64 XN, .int .i64 XD],.slice (some ⟨g1, e1, none⟩) n k1,.int .i64 (M : Int),v9_,.int .i64 z1,.slice (some ⟨g1, e1, none⟩) n k1,oQ,oR,oS,oT,oU,oV,oW,oX,oY,oZ,qA,qB,qC,qD,qE,qF,qG,qH,qI,qJ,qK,qL,qM,qN,qO,qP,qQ,qR,qS,qT,qU], defers := [] } : Act) → Ext w W0 → Hid (W0.cell? ⟨B18, 0, none⟩ = some (.int .i64 0)) → Hid (W0.cell? ⟨B18, 1, none⟩ = some (.int .i64 0)) → Hid (W0.frozen? ⟨B18, 0, none⟩ = false) → Hid (W0.frozen? ⟨B18, 1, none⟩ = false) → Hid (w.heap.size ≤ B18) → F f_ l_ a_ W0 := by
  intro B18 v2_ v9_ f_ l_ W0 a_ hf_ hl_ ha_ s0 b14_0 b14_1 d14_0 d14_1 z14
  subst hf_ hl_ ha_
  refine (hF.out _ _ _ _).2 ?_
  clear N1_0 N1_1 N1_2 N1_3 N1_4 N1_5 N1_7 N1_9
  refine wpAnyH_ready (rs := [12, 15]) (by kernel_rfl) (by simp) ?_
  refine AllReadyH.cons (o := _) rfl (fun K hK => ?_) ?_
  ·skip
   refine tk_call (by kernel_rfl) (hs1.out _ s0) (by kernel_rfl) ?_; rintro e W1 ⟨rfl, e1⟩; refine ⟨_, rfl, ?_⟩
   have s1 := s0.trans e1
   refine hK.out _ _ s1 (fun _ => ?_)
   clear hK K
   try simp only [sxA, sxB, sxC, Act.put, sxD, sxE, sxF]
   refine (hF.out _ _ _ _).1 ?_
   exact N1_6 B18 _ _ _ _ W1 _ (by first | rfl | kernel_rfl) (by first | rfl | kernel_rfl) (by (try simp only [sxA, sxB, sxC, Act.put, sxD, sxE, sxF]); first | done | with_reducible rfl | rfl) s1 (hid (e1.cell b14_0.out)) (hid (e1.cell b14_1.out)) (hid ((e1.frozen (cell_lt b14_0.out)).trans d14_0.out)) (hid ((e1.frozen (cell_lt b14_1.out)).trans d14_1.out)) z14
  refine AllReadyH.cons (o := _) rfl (fun K hK => ?_) ?_
  ·skip
   go_simp
   refine hK.out _ _ (Ext.alloc s0 _) (fun _ => ?_)
   clear hK K
   try simp only [sxA, sxB, sxC, Act.put, sxD, sxE, sxF]
   refine name_any (fun W1 hW => ?_)
   have e1 : Ext W0 W1 := by rw [hW]; exact Ext.alloc (Ext.refl _) _
   have s1 := s0.trans e1
   have nb0 := hid (show W1.cell? ⟨W0.heap.size, 0, none⟩ = some (.int .i64 0) by rw [hW]; simp [go_sem])
   have nb1 := hid (show W1.cell? ⟨W0.heap.size, 1, none⟩ = some (.int .i64 0) by rw [hW]; simp [go_sem])
   have nd0 := hid (show W1.frozen? ⟨W0.heap.size, 0, none⟩ = false by rw [hW]; simp [go_sem])
   have nd1 := hid (show W1.frozen? ⟨W0.heap.size, 1, none⟩ = false by rw [hW]; simp [go_sem])
   clear hW
   refine (hF.out _ _ _ _).1 ?_
   exact N1_8 B18 W0.heap.size _ _ _ _ W1 _ (by first | rfl | kernel_rfl) (by first | rfl | kernel_rfl) (by (try simp only [sxA, sxB, sxC, Act.put, sxD, sxE, sxF]); first | done | with_reducible rfl | rfl) s1 (hid (e1.cell b14_0.out)) (hid (e1.cell b14_1.out)) (hid ((e1.frozen (cell_lt b14_0.out)).trans d14_0.out)) (hid ((e1.frozen (cell_lt b14_1.out)).trans d14_1.out)) z14 nb0 nb1 nd0 nd1 (hid s0.size) (hid (fun e => by have h9 := cell_lt b14_0.out; dsimp only at h9; omega))
  exact AllReadyH.nil
 have N1_11 : ∀ (B19 : Nat) (v2_ v9_ : Value) (f_ : Nat) (l_ : Array Bool) (W0 : World) (a_ : Act), f_ = 5 → l_ = #[true, true, true, true, true, true, true, true, true, true, true, true, false, false, false, true, false, false] → a_ = ({ tmps := #[yA,yB,yC,yD,yE,yF,yG,yH,yI,yJ,yK,.int .i64 (M : Int),.slice (some ⟨g1, e1, none⟩) n k1,yN,yO,yP,.slice (some ⟨g2, e2, none⟩) n k2,yR,yS,.pointer (some ⟨B19, 0, none⟩),yU,yV,yW,yX,yY,yZ,zA,zB,zC,zD,zE,zF,zG,zH,zI,zJ,zK,zL,zM,zN,zO,zP,zQ,zR,zS,zT,zU,zV,zW,zX,zY,zZ,uA,uB,uC,uD,uE,uF,uG,uH,uI,uJ,uK,uL,uM,uN,uO,uP,uQ,uR,uS,uT,uU,uV,uW,uX,uY,uZ,iA,iB,iC,iD,iE,iF,iG,iH,iI,iJ,iK,iL,iM,iN,iO,iP,iQ,iR,iS,iT,iU,iV,iW,iX,iY,iZ,oA,oB,oC,oD,.slice (some ⟨g2, e2, none⟩) n k2,.int .i64 (M : Int),v2_,.int .i64 z2,.slice (some ⟨g2, e2, none⟩) n k2,.int .i64 S2,.agg #[.int .i64 XN, .int .i64 XD],.slice (some ⟨g1, e1, none⟩) n k1,.int .i64 (M : Int),v9_,.int .i64 z1,.slice (some ⟨g1, e1, none⟩) n k1,oQ,oR,oS,oT,oU,oV,oW,oX,oY,oZ,qA,qB,qC,qD,qE,qF,qG,qH,qI,qJ,qK,qL,qM,qN,qO,qP,qQ,qR,qS,qT,qU], defers := [] } : Act) → Ext w W0 → Hid (W0.cell? ⟨B19, 0, none⟩ = some (.int .i64 0)) → Hid (W0.cell? ⟨B19, 1, none⟩ = some (.int .i64 0)) → Hid (W0.frozen? ⟨B19, 0, none⟩ = false) → Hid (W0.frozen? ⟨B19, 1, none⟩ = false) → Hid (w.heap.size ≤ B19) → F f_ l_ a_ W0 := by
  intro B19 v2_ v9_ f_ l_ W0 a_ hf_ hl_ ha_ s0 b15_0 b15_1 d15_0 d15_1 z15
  subst hf_ hl_ ha_
  refine (hF.out _ _ _ _).2 ?_
  clear N1_0 N1_1 N1_2 N1_3 N1_4 N1_5 N1_6 N1_9 N1_10
  refine wpAnyH_ready (rs := [12, 14]) (by kernel_rfl) (by simp) ?_
  refine AllReadyH.cons (o := _) rfl (fun K hK => ?_) ?_
  ·skip
   refine tk_call (by kernel_rfl) (hs1.out _ s0) (by kernel_rfl) ?_; rintro e W1 ⟨rfl, e1⟩; refine ⟨_, rfl, ?_⟩
   have s1 := s0.trans e1
   refine hK.out _ _ s1 (fun _ => ?_)
   clear hK K
   try simp only [sxA, sxB, sxC, Act.put, sxD, sxE, sxF]
   refine (hF.out _ _ _ _).1 ?_
   exact N1_7 B19 _ _ _ _ W1 _ (by first | rfl | kernel_rfl) (by first | rfl | kernel_rfl) (by (try simp only [sxA, sxB, sxC, Act.put, sxD, sxE, sxF]); first | done | with_reducible rfl | rfl) s1 (hid (e1.cell b15_0.out)) (hid (e1.cell b15_1.out)) (hid ((e1.frozen (cell_lt b15_0.out)).trans d15_0.out)) (hid ((e1.frozen (cell_lt b15_1.out)).trans d15_1.out)) z15
  refine AllReadyH.cons (o := _) rfl (fun K hK => ?_) ?_
  ·skip
   go_simp
   refine hK.out _ _ (Ext.alloc s0 _) (fun _ => ?_)
   clear hK K
   try simp only [sxA, sxB, sxC, Act.put, sxD, sxE, sxF]
   refine name_any (fun W1 hW => ?_)
   have e1 : Ext W0 W1 := by rw [hW]; exact Ext.alloc (Ext.refl _) _
   have s1 := s0.trans e1
   have nb0 := hid (show W1.cell? ⟨W0.heap.size, 0, none⟩ = some (.int .i64 0) by rw [hW]; simp [go_sem])
   have nb1 := hid (show W1.cell? ⟨W0.heap.size, 1, none⟩ = some (.int .i64 0) by rw [hW]; simp [go_sem])
   have nd0 := hid (show W1.frozen? ⟨W0.heap.size, 0, none⟩ = false by rw [hW]; simp [go_sem])
   have nd1 := hid (show W1.frozen? ⟨W0.heap.size, 1, none⟩ = false by rw [hW]; simp [go_sem])
   clear hW
   refine (hF.out _ _ _ _).1 ?_
   exact N1_8 W0.heap.size B19 _ _ _ _ W1 _ (by first | rfl | kernel_rfl) (by first | rfl | kernel_rfl) (by (try simp only [sxA, sxB, sxC, Act.put, sxD, sxE, sxF]); first | done | with_reducible rfl | rfl) s1 nb0 nb1 nd0 nd1 (hid s0.size) (hid (e1.cell b15_0.out)) (hid (e1.cell b15_1.out)) (hid ((e1.frozen (cell_lt b15_0.out)).trans d15_0.out)) (hid ((e1.frozen (cell_lt b15_1.out)).trans d15_1.out)) z15 (hid (fun e => by have h9 := cell_lt b15_0.out; dsimp only at h9; omega))
  exact AllReadyH.nil
 have N1_12 : ∀ (B18 : Nat) (B19 : Nat) (v2_ v9_ : Value) (f_ : Nat) (l_ : Array Bool) (W0 : World) (a_ : Act), f_ = 5 → l_ = #[true, true, true, true, true, true, false, true, true, true, true, true, false, false, true, true, false, false] → a_ = ({ tmps := #[yA,yB,yC,yD,yE,yF,yG,yH,yI,yJ,yK,.int .i64 (M : Int),.slice (some ⟨g1, e1, none⟩) n k1,yN,yO,yP,.slice (some ⟨g2, e2, none⟩) n k2,yR,.pointer (some ⟨B18, 0, none⟩),.pointer (some ⟨B19, 0, none⟩),yU,yV,yW,yX,yY,yZ,zA,zB,zC,zD,zE,zF,zG,zH,zI,zJ,zK,zL,zM,zN,zO,zP,zQ,zR,zS,zT,zU,zV,zW,zX,zY,zZ,uA,uB,uC,uD,uE,uF,uG,uH,uI,uJ,uK,uL,uM,uN,uO,uP,uQ,uR,uS,uT,uU,uV,uW,uX,uY,uZ,iA,iB,iC,iD,iE,iF,iG,iH,iI,iJ,iK,iL,iM,iN,iO,iP,iQ,iR,iS,iT,iU,iV,iW,iX,iY,iZ,oA,oB,oC,oD,.slice (some ⟨g2, e2, none⟩) n k2,.int .i64 (M : Int),v2_,.int .i64 z2,.slice (some ⟨g2, e2, none⟩) n k2,.int .i64 S2,oK,.slice (some ⟨g1, e1, none⟩) n k1,.int .i64 (M : Int),v9_,.int .i64 z1,.slice (some ⟨g1, e1, none⟩) n k1,oQ,oR,oS,oT,oU,oV,oW,oX,oY,oZ,qA,qB,qC,qD,qE,qF,qG,qH,qI,qJ,qK,qL,qM,qN,qO,qP,qQ,qR,qS,qT,qU], defers := [] } : Act) → Ext w W0 → Hid (W0.cell? ⟨B18, 0, none⟩ = some (.int .i64 0)) → Hid (W0.cell? ⟨B18, 1, none⟩ = some (.int .i64 0)) → Hid (W0.frozen? ⟨B18, 0, none⟩ = false) → Hid (W0.frozen? ⟨B18, 1, none⟩ = false) → Hid (w.heap.size ≤ B18) → Hid (W0.cell? ⟨B19, 0, none⟩ = some (.int .i64 0)) → Hid (W0.cell? ⟨B19, 1, none⟩ = some (.int .i64 0)) → Hid (W0.frozen? ⟨B19, 0, none⟩ = false) → Hid (W0.frozen? ⟨B19, 1, none⟩ = false) → Hid (w.heap.size ≤ B19) → Hid (B18 ≠ B19) → F f_ l_ a_ W0 := by
  intro B18 B19 v2_ v9_ f_ l_ W0 a_ hf_ hl_ ha_ s0 b14_0 b14_1 d14_0 d14_1 z14 b15_0 b15_1 d15_0 d15_1 z15 n14_15
  subst hf_ hl_ ha_
  refine (hF.out _ _ _ _).2 ?_
  clear N1_0 N1_1 N1_2 N1_3 N1_4 N1_5 N1_6 N1_7 N1_9 N1_10 N1_11
  refine wpAnyH_ready (rs := [6]) (by kernel_rfl) (by simp) ?_
  refine AllReadyH.cons (o := _) rfl (fun K hK => ?_) AllReadyH.nil
  refine tk_call (by kernel_rfl) (hb2.out _) (by kernel_rfl) ?_; rintro e W1 ⟨rfl, e1⟩; refine ⟨_, rfl, ?_⟩
  have s1 := s0.trans e1
  refine hK.out _ _ s1 (fun _ => ?_)
  clear hK K
  try simp only [sxA, sxB, sxC, Act.put, sxD, sxE, sxF]
  refine (hF.out _ _ _ _).1 ?_
  exact N1_8 B18 B19 _ _ _ _ W1 _ (by first | rfl | kernel_rfl) (by first | rfl | kernel_rfl) (by (try simp only [sxA, sxB, sxC, Act.put, sxD, sxE, sxF]); first | done | with_reducible rfl | rfl) s1 (hid (e1.cell b14_0.out)) (hid (e1.cell b14_1.out)) (hid ((e1.frozen (cell_lt b14_0.out)).trans d14_0.out)) (hid ((e1.frozen (cell_lt b14_1.out)).trans d14_1.out)) z14 (hid (e1.cell b15_0.out)) (hid (e1.cell b15_1.out)) (hid ((e1.frozen (cell_lt b15_0.out)).trans d15_0.out)) (hid ((e1.frozen (cell_lt b15_1.out)).trans d15_1.out)) z15 n14_15
 have N1_13 : ∀ (v2_ v9_ : Value) (f_ : Nat) (l_ : Array Bool) (W0 : World) (a_ : Act), f_ = 6 → l_ = #[true, true, true, true, true, true, true, true, true, true, true, true, false, false, false, false, false, false] → a_ = ({ tmps := #[yA,yB,yC,yD,yE,yF,yG,yH,yI,yJ,yK,.int .i64 (M : Int),.slice (some ⟨g1, e1, none⟩) n k1,yN,yO,yP,.slice (some ⟨g2, e2, none⟩) n k2,yR,yS,yT,yU,yV,yW,yX,yY,yZ,zA,zB,zC,zD,zE,zF,zG,zH,zI,zJ,zK,zL,zM,zN,zO,zP,zQ,zR,zS,zT,zU,zV,zW,zX,zY,zZ,uA,uB,uC,uD,uE,uF,uG,uH,uI,uJ,uK,uL,uM,uN,uO,uP,uQ,uR,uS,uT,uU,uV,uW,uX,uY,uZ,iA,iB,iC,iD,iE,iF,iG,iH,iI,iJ,iK,iL,iM,iN,iO,iP,iQ,iR,iS,iT,iU,iV,iW,iX,iY,iZ,oA,oB,oC,oD,.slice (some ⟨g2, e2, none⟩) n k2,.int .i64 (M : Int),v2_,.int .i64 z2,.slice (some ⟨g2, e2, none⟩) n k2,.int .i64 S2,.agg #[.int .i64 XN, .int .i64 XD],.slice (some ⟨g1, e1, none⟩) n k1,.int .i64 (M : Int),v9_,.int .i64 z1,.slice (some ⟨g1, e1, none⟩) n k1,oQ,oR,oS,oT,oU,oV,oW,oX,oY,oZ,qA,qB,qC,qD,qE,qF,qG,qH,qI,qJ,qK,qL,qM,qN,qO,qP,qQ,qR,qS,qT,qU], defers := [] } : Act) → Ext w W0 → F f_ l_ a_ W0 := by
  intro v2_ v9_ f_ l_ W0 a_ hf_ hl_ ha_ s0
  subst hf_ hl_ ha_
  refine (hF.out _ _ _ _).2 ?_
  clear N1_0 N1_1 N1_2 N1_3 N1_4 N1_5 N1_6 N1_7 N1_8 N1_12
  refine wpAnyH_ready (rs := [12, 14, 15]) (by kernel_rfl) (by simp) ?_
  refine AllReadyH.cons (o := _) rfl (fun K hK => ?_) ?_
  ·skip
   refine tk_call (by kernel_rfl) (hs1.out _ s0) (by kernel_rfl) ?_; rintro e W1 ⟨rfl, e1⟩; refine ⟨_, rfl, ?_⟩
   have s1 := s0.trans e1
   refine hK.out _ _ s1 (fun _ => ?_)
   clear hK K
   try simp only [sxA, sxB, sxC, Act.put, sxD, sxE, sxF]
   refine (hF.out _ _ _ _).1 ?_
   exact N1_9 _ _ _ _ W1 _ (by first | rfl | kernel_rfl) (by first | rfl | kernel_rfl) (by (try simp only [sxA, sxB, sxC, Act.put, sxD, sxE, sxF]); first | done | with_reducible rfl | rfl) s1
  refine AllReadyH.cons (o := _) rfl (fun K hK => ?_) ?_
  ·skip
   go_simp
   refine hK.out _ _ (Ext.alloc s0 _) (fun _ => ?_)
   clear hK K
   try simp only [sxA, sxB, sxC, Act.put, sxD, sxE, sxF]
   refine name_any (fun W1 hW => ?_)
   have e1 : Ext W0 W1 := by rw [hW]; exact Ext.alloc (Ext.refl _) _
   have s1 := s0.trans e1
   have nb0 := hid (show W1.cell? ⟨W0.heap.size, 0, none⟩ = some (.int .i64 0) by rw [hW]; simp [go_sem])
   have nb1 := hid (show W1.cell? ⟨W0.heap.size, 1, none⟩ = some (.int .i64 0) by rw [hW]; simp [go_sem])
   have nd0 := hid (show W1.frozen? ⟨W0.heap.size, 0, none⟩ = false by rw [hW]; simp [go_sem])
   have nd1 := hid (show W1.frozen? ⟨W0.heap.size, 1, none⟩ = false by rw [hW]; simp [go_sem])
   clear hW
   refine (hF.out _ _ _ _).1 ?_
   exact N1_10 W0.heap.size _ _ _ _ W1 _ (by first | rfl | kernel_rfl) (by first | rfl | kernel_rfl) (by (try simp only [sxA, sxB, sxC, Act.put, sxD, sxE, sxF]); first | done | with_reducible rfl | rfl) s1 nb0 nb1 nd0 nd1 (hid s0.size)
  refine AllReadyH.cons (o := _) rfl (fun K hK => ?_) ?_
  ·skip
   go_simp
   refine hK.out _ _ (Ext.alloc s0 _) (fun _ => ?_)
   clear hK K
   try simp only [sxA, sxB, sxC, Act.put, sxD, sxE, sxF]
   refine name_any (fun W1 hW => ?_)
   have e1 : Ext W0 W1 := by rw [hW]; exact Ext.alloc (Ext.refl _) _
   have s1 := s0.trans e1
   have nb0 := hid (show W1.cell? ⟨W0.heap.size, 0, none⟩ = some (.int .i64 0) by rw [hW]; simp [go_sem])
   have nb1 := hid (show W1.cell? ⟨W0.heap.size, 1, none⟩ = some (.int .i64 0) by rw [hW]; simp [go_sem])
   have nd0 := hid (show W1.frozen? ⟨W0.heap.size, 0, none⟩ = false by rw [hW]; simp [go_sem])
   have nd1 := hid (show W1.frozen? ⟨W0.heap.size, 1, none⟩ = false by rw [hW]; simp [go_sem])
   clear hW
   refine (hF.out _ _ _ _).1 ?_
   exact N1_11 W0.heap.size _ _ _ _ W1 _ (by first | rfl | kernel_rfl) (by first | rfl | kernel_rfl) (by (try simp only [sxA, sxB, sxC, Act.put, sxD, sxE, sxF]); first | done | with_reducible rfl | rfl) s1 nb0 nb1 nd0 nd1 (hid s0.size)
  exact AllReadyH.nil
 have N1_14 : ∀ (B18 : Nat) (v2_ v9_ : Value) (f_ : Nat) (l_ : Array Bool) (W0 : World) (a_ : Act), f_ = 6 → l_ = #[true, true, true, true, true, true, false, true, true, true, true, true, false, false, true, false, false, false] → a_ = ({ tmps := #[yA,yB,yC,yD,yE,yF,yG,yH,yI,yJ,yK,.int .i64 (M : Int),.slice (some ⟨g1, e1, none⟩) n k1,yN,yO,yP,.slice (some ⟨g2, e2, none⟩) n k2,yR,.pointer (some ⟨B18, 0, none⟩),yT,yU,yV,yW,yX,yY,yZ,zA,zB,zC,zD,zE,zF,zG,zH,zI,zJ,zK,zL,zM,zN,zO,zP,zQ,zR,zS,zT,zU,zV,zW,zX,zY,zZ,uA,uB,uC,uD,uE,uF,uG,uH,uI,uJ,uK,uL,uM,uN,uO,uP,uQ,uR,uS,uT,uU,uV,uW,uX,uY,uZ,iA,iB,iC,iD,iE,iF,iG,iH,iI,iJ,iK,iL,iM,iN,iO,iP,iQ,iR,iS,iT,iU,iV,iW,iX,iY,iZ,oA,oB,oC,oD,.slice (some ⟨g2, e2, none⟩) n k2,.int .i64 (M : Int),v2_,.int .i64 z2,.slice (some ⟨g2, e2, none⟩) n k2,.int .i64 S2,oK,.slice (some ⟨g1, e1, none⟩) n k1,.int .i64 (M : Int),v9_,.int .i64 z1,.slice (some ⟨g1, e1, none⟩) n k1,oQ,oR,oS,oT,oU,oV,oW,oX,oY,oZ,qA,qB,qC,qD,qE,qF,qG,qH,qI,qJ,qK,qL,qM,qN,qO,qP,qQ,qR,qS,qT,qU], defers := [] } : Act) → Ext w W0 → Hid (W0.cell? ⟨B18, 0, none⟩ = some (.int .i64 0)) → Hid (W0.cell? ⟨B18, 1, none⟩ = some (.int .i64 0)) → Hid (W0.frozen? ⟨B18, 0, none⟩ = false) → Hid (W0.frozen? ⟨B18, 1, none⟩ = false) → Hid (w.heap.size ≤ B18) → F f_ l_ a_ W0 := by
  intro B18 v2_ v9_ f_ l_ W0 a_ hf_ hl_ ha_ s0 b14_0 b14_1 d14_0 d14_1 z14
  subst hf_ hl_ ha_
  refine (hF.out _ _ _ _).2 ?_
  clear N1_0 N1_1 N1_2 N1_3 N1_4 N1_5 N1_6 N1_7 N1_8 N1_9 N1_11 N1_13
  refine wpAnyH_ready (rs := [6, 15]) (by kernel_rfl) (by simp) ?_
  refine AllReadyH.cons (o := _) rfl (fun K hK => ?_) ?_
  ·skip
   refine tk_call (by kernel_rfl) (hb2.out _) (by kernel_rfl) ?_; rintro e W1 ⟨rfl, e1⟩; refine ⟨_, rfl, ?_⟩
   have s1 := s0.trans e1
   refine hK.out _ _ s1 (fun _ => ?_)
   clear hK K
   try simp only [sxA, sxB, sxC, Act.put, sxD, sxE, sxF]
   refine (hF.out _ _ _ _).1 ?_
   exact N1_10 B18 _ _ _ _ W1 _ (by first | rfl | kernel_rfl) (by first | rfl | kernel_rfl) (by (try simp only [sxA, sxB, sxC, Act.put, sxD, sxE, sxF]); first | done | with_reducible rfl | rfl) s1 (hid (e1.cell b14_0.out)) (hid (e1.cell b14_1.out)) (hid ((e1.frozen (cell_lt b14_0.out)).trans d14_0.out)) (hid ((e1.frozen (cell_lt b14_1.out)).trans d14_1.out)) z14
  refine AllReadyH.cons (o := _) rfl (fun K hK => ?_) ?_
  ·skip
   go_simp
   refine hK.out _ _ (Ext.alloc s0 _) (fun _ => ?_)
   clear hK K
   try simp only [sxA, sxB, sxC, Act.put, sxD, sxE, sxF]
   refine name_any (fun W1 hW => ?_)
   have e1 : Ext W0 W1 := by rw [hW]; exact Ext.alloc (Ext.refl _) _
   have s1 := s0.trans e1
   have nb0 := hid (show W1.cell? ⟨W0.heap.size, 0, none⟩ = some (.int .i64 0) by rw [hW]; simp [go_sem])
   have nb1 := hid (show W1.cell? ⟨W0.heap.size, 1, none⟩ = some (.int .i64 0) by rw [hW]; simp [go_sem])
   have nd0 := hid (show W1.frozen? ⟨W0.heap.size, 0, none⟩ = false by rw [hW]; simp [go_sem])
   have nd1 := hid (show W1.frozen? ⟨W0.heap.size, 1, none⟩ = false by rw [hW]; simp [go_sem])
   clear hW
   refine (hF.out _ _ _ _).1 ?_
   exact N1_12 B18 W0.heap.size _ _ _ _ W1 _ (by first | rfl | kernel_rfl) (by first | rfl | kernel_rfl) (by (try simp only [sxA, sxB, sxC, Act.put, sxD, sxE, sxF]); first | done | with_reducible rfl | rfl) s1 (hid (e1.cell b14_0.out)) (hid (e1.cell b14_1.out)) (hid ((e1.frozen (cell_lt b14_0.out)).trans d14_0.out)) (hid ((e1.frozen (cell_lt b14_1.out)).trans d14_1.out)) z14 nb0 nb1 nd0 nd1 (hid s0.size) (hid (fun e => by have h9 := cell_lt b14_0.out; dsimp only at h9; omega))
  exact AllReadyH.nil
 have N1_15 : ∀ (B19 : Nat) (v2_ v9_ : Value) (f_ : Nat) (l_ : Array Bool) (W0 : World) (a_ : Act), f_ = 6 → l_ = #[true, true, true, true, true, true, false, true, true, true, true, true, false, false, false, true, false, false] → a_ = ({ tmps := #[yA,yB,yC,yD,yE,yF,yG,yH,yI,yJ,yK,.int .i64 (M : Int),.slice (some ⟨g1, e1, none⟩) n k1,yN,yO,yP,.slice (some ⟨g2, e2, none⟩) n k2,yR,yS,.pointer (some ⟨B19, 0, none⟩),yU,yV,yW,yX,yY,yZ,zA,zB,zC,zD,zE,zF,zG,zH,zI,zJ,zK,zL,zM,zN,zO,zP,zQ,zR,zS,zT,zU,zV,zW,zX,zY,zZ,uA,uB,uC,uD,uE,uF,uG,uH,uI,uJ,uK,uL,uM,uN,uO,uP,uQ,uR,uS,uT,uU,uV,uW,uX,uY,uZ,iA,iB,iC,iD,iE,iF,iG,iH,iI,iJ,iK,iL,iM,iN,iO,iP,iQ,iR,iS,iT,iU,iV,iW,iX,iY,iZ,oA,oB,oC,oD,.slice (some ⟨g2, e2, none⟩) n k2,.int .i64 (M : Int),v2_,.int .i64 z2,.slice (some ⟨g2, e2, none⟩) n k2,.int .i64 S2,oK,.slice (some ⟨g1, e1, none⟩) n k1,.int .i64 (M : Int),v9_,.int .i64 z1,.slice (some ⟨g1, e1, none⟩) n k1,oQ,oR,oS,oT,oU,oV,oW,oX,oY,oZ,qA,qB,qC,qD,qE,qF,qG,qH,qI,qJ,qK,qL,qM,qN,qO,qP,qQ,qR,qS,qT,qU], defers := [] } : Act) → Ext w W0 → Hid (W0.cell? ⟨B19, 0, none⟩ = some (.int .i64 0)) → Hid (W0.cell? ⟨B19, 1, none⟩ = some (.int .i64 0)) → Hid (W0.frozen? ⟨B19, 0, none⟩ = false) → Hid (W0.frozen? ⟨B19, 1, none⟩ = false) → Hid (w.heap.size ≤ B19) → F f_ l_ a_ W0 := by
  intro B19 v2_ v9_ f_ l_ W0 a_ hf_ hl_ ha_ s0 b15_0 b15_1 d15_0 d15_1 z15
  subst hf_ hl_ ha_
  refine (hF.out _ _ _ _).2 ?_
  clear N1_0 N1_1 N1_2 N1_3 N1_4 N1_5 N1_6 N1_7 N1_8 N1_9 N1_10 N1_13 N1_14
  refine wpAnyH_ready (rs := [6, 14]) (by kernel_rfl) (by simp) ?_
  refine AllReadyH.cons (o := _) rfl (fun K hK => ?_) ?_
  ·skip
   refine tk_call (by kernel_rfl) (hb2.out _) (by kernel_rfl) ?_; rintro e W1 ⟨rfl, e1⟩; refine ⟨_, rfl, ?_⟩
   have s1 := s0.trans e1
   refine hK.out _ _ s1 (fun _ => ?_)
   clear hK K
   try simp only [sxA, sxB, sxC, Act.put, sxD, sxE, sxF]
   refine (hF.out _ _ _ _).1 ?_
   exact N1_11 B19 _ _ _ _ W1 _ (by first | rfl | kernel_rfl) (by first | rfl | kernel_rfl) (by (try simp only [sxA, sxB, sxC, Act.put, sxD, sxE, sxF]); first | done | with_reducible rfl | rfl) s1 (hid (e1.cell b15_0.out)) (hid (e1.cell b15_1.out)) (hid ((e1.frozen (cell_lt b15_0.out)).trans d15_0.out)) (hid ((e1.frozen (cell_lt b15_1.out)).trans d15_1.out)) z15
  refine AllReadyH.cons (o := _) rfl (fun K hK => ?_) ?_
  ·skip
   go_simp
   refine hK.out _ _ (Ext.alloc s0 _) (fun _ => ?_)
   clear hK K
   try simp only [sxA, sxB, sxC, Act.put, sxD, sxE, sxF]
   refine name_any (fun W1 hW => ?_)
   have e1 : Ext W0 W1 := by rw [hW]; exact Ext.alloc (Ext.refl _) _
   have s1 := s0.trans e1
   have nb0 := hid (show W1.cell? ⟨W0.heap.size, 0, none⟩ = some (.int .i64 0) by rw [hW]; simp [go_sem])
   have nb1 := hid (show W1.cell? ⟨W0.heap.size, 1, none⟩ = some (.int .i64 0) by rw [hW]; simp [go_sem])
   have nd0 := hid (show W1.frozen? ⟨W0.heap.size, 0, none⟩ = false by rw [hW]; simp [go_sem])
   have nd1 := hid (show W1.frozen? ⟨W0.heap.size, 1, none⟩ = false by rw [hW]; simp [go_sem])
   clear hW
   refine (hF.out _ _ _ _).1 ?_
   exact N1_12 W0.heap.size B19 _ _ _ _ W1 _ (by first | rfl | kernel_rfl) (by first | rfl | kernel_rfl) (by (try simp only [sxA, sxB, sxC, Act.put, sxD, sxE, sxF]); first | done | with_reducible rfl | rfl) s1 nb0 nb1 nd0 nd1 (hid s0.size) (hid (e1.cell b15_0.out)) (hid (e1.cell b15_1.out)) (hid ((e1.frozen (cell_lt b15_0.out)).trans d15_0.out)) (hid ((e1.frozen (cell_lt b15_1.out)).trans d15_1.out)) z15 (hid (fun e => by have h9 := cell_lt b15_0.out; dsimp only at h9; omega))
  exact AllReadyH.nil
 have N1_16 : ∀ (B18 : Nat) (B19 : Nat) (v2_ v9_ : Value) (f_ : Nat) (l_ : Array Bool) (W0 : World) (a_ : Act), f_ = 6 → l_ = #[true, true, true, true, true, false, false, true, true, true, true, true, false, false, true, true, false, false] → a_ = ({ tmps := #[yA,yB,yC,yD,yE,yF,yG,yH,yI,yJ,yK,.int .i64 (M : Int),.slice (some ⟨g1, e1, none⟩) n k1,yN,yO,yP,.slice (some ⟨g2, e2, none⟩) n k2,yR,.pointer (some ⟨B18, 0, none⟩),.pointer (some ⟨B19, 0, none⟩),yU,yV,yW,yX,yY,yZ,zA,zB,zC,zD,zE,zF,zG,zH,zI,zJ,zK,zL,zM,zN,zO,zP,zQ,zR,zS,zT,zU,zV,zW,zX,zY,zZ,uA,uB,uC,uD,uE,uF,uG,uH,uI,uJ,uK,uL,uM,uN,uO,uP,uQ,uR,uS,uT,uU,uV,uW,uX,uY,uZ,iA,iB,iC,iD,iE,iF,iG,iH,iI,iJ,iK,iL,iM,iN,iO,iP,iQ,iR,iS,iT,iU,iV,iW,iX,iY,iZ,oA,oB,oC,oD,.slice (some ⟨g2, e2, none⟩) n k2,.int .i64 (M : Int),v2_,.int .i64 z2,.slice (some ⟨g2, e2, none⟩) n k2,oJ,oK,.slice (some ⟨g1, e1, none⟩) n k1,.int .i64 (M : Int),v9_,.int .i64 z1,.slice (some ⟨g1, e1, none⟩) n k1,oQ,oR,oS,oT,oU,oV,oW,oX,oY,oZ,qA,qB,qC,qD,qE,qF,qG,qH,qI,qJ,qK,qL,qM,qN,qO,qP,qQ,qR,qS,qT,qU], defers := [] } : Act) → Ext w W0 → Hid (W0.cell? ⟨B18, 0, none⟩ = some (.int .i64 0)) → Hid (W0.cell? ⟨B18, 1, none⟩ = some (.int .i64 0)) → Hid (W0.frozen? ⟨B18, 0, none⟩ = false) → Hid (W0.frozen? ⟨B18, 1, none⟩ = false) → Hid (w.heap.size ≤ B18) → Hid (W0.cell? ⟨B19, 0, none⟩ = some (.int .i64 0)) → Hid (W0.cell? ⟨B19, 1, none⟩ = some (.int .i64 0)) → Hid (W0.frozen? ⟨B19, 0, none⟩ = false) → Hid (W0.frozen? ⟨B19, 1, none⟩ = false) → Hid (w.heap.size ≤ B19) → Hid (B18 ≠ B19) → F f_ l_ a_ W0 := by
  intro B18 B19 v2_ v9_ f_ l_ W0 a_ hf_ hl_ ha_ s0 b14_0 b14_1 d14_0 d14_1 z14 b15_0 b15_1 d15_0 d15_1 z15 n14_15
  subst hf_ hl_ ha_
  refine (hF.out _ _ _ _).2 ?_
  clear N1_0 N1_1 N1_2 N1_3 N1_4 N1_5 N1_6 N1_7 N1_8 N1_9 N1_10 N1_11 N1_13 N1_14 N1_15
  refine wpAnyH_ready (rs := [5]) (by kernel_rfl) (by simp) ?_
  refine AllReadyH.cons (o := _) rfl (fun K hK => ?_) AllReadyH.nil
  refine tk_call (by kernel_rfl) (hs2.out _ s0) (by kernel_rfl) ?_; rintro e W1 ⟨rfl, e1⟩; refine ⟨_, rfl, ?_⟩
  have s1 := s0.trans e1
  refine hK.out _ _ s1 (fun _ => ?_)
  clear hK K
  try simp only [sxA, sxB, sxC, Act.put, sxD, sxE, sxF]
  refine (hF.out _ _ _ _).1 ?_
  exact N1_12 B18 B19 _ _ _ _ W1 _ (by first | rfl | kernel_rfl) (by first | rfl | kernel_rfl) (by (try simp only [sxA, sxB, sxC, Act.put, sxD, sxE, sxF]); first | done | with_reducible rfl | rfl) s1 (hid (e1.cell b14_0.out)) (hid (e1.cell b14_1.out)) (hid ((e1.frozen (cell_lt b14_0.out)).trans d14_0.out)) (hid ((e1.frozen (cell_lt b14_1.out)).trans d14_1.out)) z14 (hid (e1.cell b15_0.out)) (hid (e1.cell b15_1.out)) (hid ((e1.frozen (cell_lt b15_0.out)).trans d15_0.out)) (hid ((e1.frozen (cell_lt b15_1.out)).trans d15_1.out)) z15 n14_15
 have N1_17 : ∀ (v2_ v9_ : Value) (f_ : Nat) (l_ : Array Bool) (W0 : World) (a_ : Act), f_ = 7 → l_ = #[true, true, true, true, true, true, false, true, true, true, true, true, false, false, false, false, false, false] → a_ = ({ tmps := #[yA,yB,yC,yD,yE,yF,yG,yH,yI,yJ,yK,.int .i64 (M : Int),.slice (some ⟨g1, e1, none⟩) n k1,yN,yO,yP,.slice (some ⟨g2, e2, none⟩) n k2,yR,yS,yT,yU,yV,yW,yX,yY,yZ,zA,zB,zC,zD,zE,zF,zG,zH,zI,zJ,zK,zL,zM,zN,zO,zP,zQ,zR,zS,zT,zU,zV,zW,zX,zY,zZ,uA,uB,uC,uD,uE,uF,uG,uH,uI,uJ,uK,uL,uM,uN,uO,uP,uQ,uR,uS,uT,uU,uV,uW,uX,uY,uZ,iA,iB,iC,iD,iE,iF,iG,iH,iI,iJ,iK,iL,iM,iN,iO,iP,iQ,iR,iS,iT,iU,iV,iW,iX,iY,iZ,oA,oB,oC,oD,.slice (some ⟨g2, e2, none⟩) n k2,.int .i64 (M : Int),v2_,.int .i64 z2,.slice (some ⟨g2, e2, none⟩) n k2,.int .i64 S2,oK,.slice (some ⟨g1, e1, none⟩) n k1,.int .i64 (M : Int),v9_,.int .i64 z1,.slice (some ⟨g1, e1, none⟩) n k1,oQ,oR,oS,oT,oU,oV,oW,oX,oY,oZ,qA,qB,qC,qD,qE,qF,qG,qH,qI,qJ,qK,qL,qM,qN,qO,qP,qQ,qR,qS,qT,qU], defers := [] } : Act) → Ext w W0 → F f_ l_ a_ W0 := by
  intro v2_ v9_ f_ l_ W0 a_ hf_ hl_ ha_ s0
  subst hf_ hl_ ha_
  refine (hF.out _ _ _ _).2 ?_
  clear N1_0 N1_1 N1_2 N1_3 N1_4 N1_5 N1_6 N1_7 N1_8 N1_9 N1_10 N1_11 N1_12 N1_16
  refine wpAnyH_ready (rs := [6, 14, 15]) (by kernel_rfl) (by simp) ?_
  refine AllReadyH.cons (o := _) rfl (fun K hK => ?_) ?_
  ·skip
   refine tk_call (by kernel_rfl) (hb2.out _) (by kernel_rfl) ?_; rintro e W1 ⟨rfl, e1⟩; refine ⟨_, rfl, ?_⟩
   have s1 := s0.trans e1
   refine hK.out _ _ s1 (fun _ => ?_)
   clear hK K
   try simp only [sxA, sxB, sxC, Act.put, sxD, sxE, sxF]
   refine (hF.out _ _ _ _).1 ?_
   exact N1_13 _ _ _ _ W1 _ (by first | rfl | kernel_rfl) (by first | rfl | kernel_rfl) (by (try simp only [sxA, sxB, sxC, Act.put, sxD, sxE, sxF]); first | done | with_reducible rfl | rfl) s1
  refine AllReadyH.cons (o := _) rfl (fun K hK => ?_) ?_
  ·skip
   go_simp
   refine hK.out _ _ (Ext.alloc s0 _) (fun _ => ?_)
   clear hK K
   try simp only [sxA, sxB, sxC, Act.put, sxD, sxE, sxF]
   refine name_any (fun W1 hW => ?_)
   have e1 : Ext W0 W1 := by rw [hW]; exact Ext.alloc (Ext.refl _) _
   have s1 := s0.trans e1
   have nb0 := hid (show W1.cell? ⟨W0.heap.size, 0, none⟩ = some (.int .i64 0) by rw [hW]; simp [go_sem])
   have nb1 := hid (show W1.cell? ⟨W0.heap.size, 1, none⟩ = some (.int .i64 0) by rw [hW]; simp [go_sem])
   have nd0 := hid (show W1.frozen? ⟨W0.heap.size, 0, none⟩ = false by rw [hW]; simp [go_sem])
   have nd1 := hid (show W1.frozen? ⟨W0.heap.size, 1, none⟩ = false by rw [hW]; simp [go_sem])
   clear hW
   refine (hF.out _ _ _ _).1 ?_
   exact N1_14 W0.heap.size _ _ _ _ W1 _ (by first | rfl | kernel_rfl) (by first | rfl | kernel_rfl) (by (try simp only [sxA, sxB, sxC, Act.put, sxD, sxE, sxF]); first | done | with_reducible rfl | rfl) s1 nb0 nb1 nd0 nd1 (hid s0.size)
  refine AllReadyH.cons (o := _) rfl (fun K hK => ?_) ?_
  ·skip
   go_simp
   refine hK.out _ _ (Ext.alloc s0 _) (fun _ => ?_)
   clear hK K
   try simp only [sxA, sxB, sxC, Act.put, sxD, sxE, sxF]
   refine name_any (fun W1 hW => ?_)
   have e1 : Ext W0 W1 := by rw [hW]; exact Ext.alloc (Ext.refl _) _
   have s1 := s0.trans e1
   have nb0 := hid (show W1.cell? ⟨W0.heap.size, 0, none⟩ = some (.int .i64 0) by rw [hW]; simp [go_sem])
   have nb1 := hid (show W1.cell? ⟨W0.heap.size, 1, none⟩ = some (.int .i64 0) by rw [hW]; simp [go_sem])
   have nd0 := hid (show W1.frozen? ⟨W0.heap.size, 0, none⟩ = false by rw [hW]; simp [go_sem])
   have nd1 := hid (show W1.frozen? ⟨W0.heap.size, 1, none⟩ = false by rw [hW]; simp [go_sem])
   clear hW
   refine (hF.out _ _ _ _).1 ?_
   exact N1_15 W0.heap.size _ _ _ _ W1 _ (by first | rfl | kernel_rfl) (by first | rfl | kernel_rfl) (by (try simp only [sxA, sxB, sxC, Act.put, sxD, sxE, sxF]); first | done | with_reducible rfl | rfl) s1 nb0 nb1 nd0 nd1 (hid s0.size)
  exact AllReadyH.nil
 have N1_18 : ∀ (B18 : Nat) (v2_ v9_ : Value) (f_ : Nat) (l_ : Array Bool) (W0 : World) (a_ : Act), f_ = 7 → l_ = #[true, true, true, true, true, false, false, true, true, true, true, true, false, false, true, false, false, false] → a_ = ({ tmps := #[yA,yB,yC,yD,yE,yF,yG,yH,yI,yJ,yK,.int .i64 (M : Int),.slice (some ⟨g1, e1, none⟩) n k1,yN,yO,yP,.slice (some ⟨g2, e2, none⟩) n k2,yR,.pointer (some ⟨B18, 0, none⟩),yT,yU,yV,yW,yX,yY,yZ,zA,zB,zC,zD,zE,zF,zG,zH,zI,zJ,zK,zL,zM,zN,zO,zP,zQ,zR,zS,zT,zU,zV,zW,zX,zY,zZ,uA,uB,uC,uD,uE,uF,uG,uH,uI,uJ,uK,uL,uM,uN,uO,uP,uQ,uR,uS,uT,uU,uV,uW,uX,uY,uZ,iA,iB,iC,iD,iE,iF,iG,iH,iI,iJ,iK,iL,iM,iN,iO,iP,iQ,iR,iS,iT,iU,iV,iW,iX,iY,iZ,oA,oB,oC,oD,.slice (some ⟨g2, e2, none⟩) n k2,.int .i64 (M : Int),v2_,.int .i64 z2,.slice (some ⟨g2, e2, none⟩) n k2,oJ,oK,.slice (some ⟨g1, e1, none⟩) n k1,.int .i64 (M : Int),v9_,.int .i64 z1,.slice (some ⟨g1, e1, none⟩) n k1,oQ,oR,oS,oT,oU,oV,oW,oX,oY,oZ,qA,qB,qC,qD,qE,qF,qG,qH,qI,qJ,qK,qL,qM,qN,qO,qP,qQ,qR,qS,qT,qU], defers := [] } : Act) → Ext w W0 → Hid (W0.cell? ⟨B18, 0, none⟩ = some (.int .i64 0)) → Hid (W0.cell? ⟨B18, 1, none⟩ = some (.int .i64 0)) → Hid (W0.frozen? ⟨B18, 0, none⟩ = false) → Hid (W0.frozen? ⟨B18, 1, none⟩ = false) → Hid (w.heap.size ≤ B18) → F f_ l_ a_ W0 := by
  intro B18 v2_ v9_ f_ l_ W0 a_ hf_ hl_ ha_ s0 b14_0 b14_1 d14_0 d14_1 z14
  subst hf_ hl_ ha_
  refine (hF.out _ _ _ _).2 ?_
  clear N1_0 N1_1 N1_2 N1_3 N1_4 N1_5 N1_6 N1_7 N1_8 N1_9 N1_10 N1_11 N1_12 N1_13 N1_15 N1_17
  refine wpAnyH_ready (rs := [5, 15]) (by kernel_rfl) (by simp) ?_
  refine AllReadyH.cons (o := _) rfl (fun K hK => ?_) ?_
  ·skip
   refine tk_call (by kernel_rfl) (hs2.out _ s0) (by kernel_rfl) ?_; rintro e W1 ⟨rfl, e1⟩; refine ⟨_, rfl, ?_⟩
   have s1 := s0.trans e1
   refine hK.out _ _ s1 (fun _ => ?_)
   clear hK K
   try simp only [sxA, sxB, sxC, Act.put, sxD, sxE, sxF]
   refine (hF.out _ _ _ _).1 ?_
   exact N1_14 B18 _ _ _ _ W1 _ (by first | rfl | kernel_rfl) (by first | rfl | kernel_rfl) (by (try simp only [sxA, sxB, sxC, Act.put, sxD, sxE, sxF]); first | done | with_reducible rfl | rfl) s1 (hid (e1.cell b14_0.out)) (hid (e1.cell b14_1.out)) (hid ((e1.frozen (cell_lt b14_0.out)).trans d14_0.out)) (hid ((e1.frozen (cell_lt b14_1.out)).trans d14_1.out)) z14
  refine AllReadyH.cons (o := _) rfl (fun K hK => ?_) ?_
  ·skip
   go_simp
   refine hK.out _ _ (Ext.alloc s0 _) (fun _ => ?_)
   clear hK K
   try simp only [sxA, sxB, sxC, Act.put, sxD, sxE, sxF]
   refine name_any (fun W1 hW => ?_)
   have e1 : Ext W0 W1 := by rw [hW]; exact Ext.alloc (Ext.refl _) _
   have s1 := s0.trans e1
   have nb0 := hid (show W1.cell? ⟨W0.heap.size, 0, none⟩ = some (.int .i64 0) by rw [hW]; simp [go_sem])
   have nb1 := hid (show W1.cell? ⟨W0.heap.size, 1, none⟩ = some (.int .i64 0) by rw [hW]; simp [go_sem])
   have nd0 := hid (show W1.frozen? ⟨W0.heap.size, 0, none⟩ = false by rw [hW]; simp [go_sem])
   have nd1 := hid (show W1.frozen? ⟨W0.heap.size, 1, none⟩ = false by rw [hW]; simp [go_sem])
   clear hW
   refine (hF.out _ _ _ _).1 ?_
   exact N1_16 B18 W0.heap.size _ _ _ _ W1 _ (by first | rfl | kernel_rfl) (by first | rfl | kernel_rfl) (by (try simp only [sxA, sxB, sxC, Act.put, sxD, sxE, sxF]); first | done | with_reducible rfl | rfl) s1 (hid (e1.cell b14_0.out)) (hid (e1.cell b14_1.out)) (hid ((e1.frozen (cell_lt b14_0.out)).trans d14_0.out)) (hid ((e1.frozen (cell_lt b14_1.out)).trans d14_1.out)) z14 nb0 nb1 nd0 nd1 (hid s0.size) (hid (fun e => by have h9 := cell_lt b14_0.out; dsimp only at h9; omega))
  exact AllReadyH.nil
 have N1_19 : ∀ (B19 : Nat) (v2_ v9_ : Value) (f_ : Nat) (l_ : Array Bool) (W0 : World) (a_ : Act), f_ = 7 → l_ = #[true, true, true, true, true, false, false, true, true, true, true, true, false, false, false, true, false, false] → a_ = ({ tmps := #[yA,yB,yC,yD,yE,yF,yG,yH,yI,yJ,yK,.int .i64 (M : Int),.slice (some ⟨g1, e1, none⟩) n k1,yN,yO,yP,.slice (some ⟨g2, e2, none⟩) n k2,yR,yS,.pointer (some ⟨B19, 0, none⟩),yU,yV,yW,yX,yY,yZ,zA,zB,zC,zD,zE,zF,zG,zH,zI,zJ,zK,zL,zM,zN,zO,zP,zQ,zR,zS,zT,zU,zV,zW,zX,zY,zZ,uA,uB,uC,uD,uE,uF,uG,uH,uI,uJ,uK,uL,uM,uN,uO,uP,uQ,uR,uS,uT,uU,uV,uW,uX,uY,uZ,iA,iB,iC,iD,iE,iF,iG,iH,iI,iJ,iK,iL,iM,iN,iO,iP,iQ,iR,iS,iT,iU,iV,iW,iX,iY,iZ,oA,oB,oC,oD,.slice (some ⟨g2, e2, none⟩) n k2,.int .i64 (M : Int),v2_,.int .i64 z2,.slice (some ⟨g2, e2, none⟩) n k2,oJ,oK,.slice (some ⟨g1, e1, none⟩) n k1,.int .i64 (M : Int),v9_,.int .i64 z1,.slice (some ⟨g1, e1, none⟩) n k1,oQ,oR,oS,oT,oU,oV,oW,oX,oY,oZ,qA,qB,qC,qD,qE,qF,qG,qH,qI,qJ,qK,qL,qM,qN,qO,qP,qQ,qR,qS,qT,qU], defers := [] } : Act) → Ext w W0 → Hid (W0.cell? ⟨B19, 0, none⟩ = some (.int .i64 0)) → Hid (W0.cell? ⟨B19, 1, none⟩ = some (.int .i64 0)) → Hid (W0.frozen? ⟨B19, 0, none⟩ = false) → Hid (W0.frozen? ⟨B19, 1, none⟩ = false) → Hid (w.heap.size ≤ B19) → F f_ l_ a_ W0 := by
  intro B19 v2_ v9_ f_ l_ W0 a_ hf_ hl_ ha_ s0 b15_0 b15_1 d15_0 d15_1 z15
  subst hf_ hl_ ha_
  refine (hF.out _ _ _ _).2 ?_
  clear N1_0 N1_1 N1_2 N1_3 N1_4 N1_5 N1_6 N1_7 N1_8 N1_9 N1_10 N1_11 N1_12 N1_13 N1_14 N1_17 N1_18
  refine wpAnyH_ready (rs := [5, 14]) (by kernel_rfl) (by simp) ?_
  refine AllReadyH.cons (o := _) rfl (fun K hK => ?_) ?_
  ·skip
   refine tk_call (by kernel_rfl) (hs2.out _ s0) (by kernel_rfl) ?_; rintro e W1 ⟨rfl, e1⟩; refine ⟨_, rfl, ?_⟩
   have s1 := s0.trans e1
   refine hK.out _ _ s1 (fun _ => ?_)
   clear hK K
   try simp only [sxA, sxB, sxC, Act.put, sxD, sxE, sxF]
   refine (hF.out _ _ _ _).1 ?_
   exact N1_15 B19 _ _ _ _ W1 _ (by first | rfl | kernel_rfl) (by first | rfl | kernel_rfl) (by (try simp only [sxA, sxB, sxC, Act.put, sxD, sxE, sxF]); first | done | with_reducible rfl | rfl) s1 (hid (e1.cell b15_0.out)) (hid (e1.cell b15_1.out)) (hid ((e1.frozen (cell_lt b15_0.out)).trans d15_0.out)) (hid ((e1.frozen (cell_lt b15_1.out)).trans d15_1.out)) z15
  refine AllReadyH.cons (o := _) rfl (fun K hK => ?_) ?_
  ·skip
   go_simp
   refine hK.out _ _ (Ext.alloc s0 _) (fun _ => ?_)
   clear hK K
   try simp only [sxA, sxB, sxC, Act.put, sxD, sxE, sxF]
   refine name_any (fun W1 hW => ?_)
   have e1 : Ext W0 W1 := by rw [hW]; exact Ext.alloc (Ext.refl _) _
   have s1 := s0.trans e1
   have nb0 := hid (show W1.cell? ⟨W0.heap.size, 0, none⟩ = some (.int .i64 0) by rw [hW]; simp [go_sem])
   have nb1 := hid (show W1.cell? ⟨W0.heap.size, 1, none⟩ = some (.int .i64 0) by rw [hW]; simp [go_sem])
   have nd0 := hid (show W1.frozen? ⟨W0.heap.size, 0, none⟩ = false by rw [hW]; simp [go_sem])
   have nd1 := hid (show W1.frozen? ⟨W0.heap.size, 1, none⟩ = false by rw [hW]; simp [go_sem])
   clear hW
   refine (hF.out _ _ _ _).1 ?_
   exact N1_16 W0.heap.size B19 _ _ _ _ W1 _ (by first | rfl | kernel_rfl) (by first | rfl | kernel_rfl) (by (try simp only [sxA, sxB, sxC, Act.put, sxD, sxE, sxF]); first | done | with_reducible rfl | rfl) s1 nb0 nb1 nd0 nd1 (hid s0.size) (hid (e1.cell b15_0.out)) (hid (e1.cell b15_1.out)) (hid ((e1.frozen (cell_lt b15_0.out)).trans d15_0.out)) (hid ((e1.frozen (cell_lt b15_1.out)).trans d15_1.out)) z15 (hid (fun e => by have h9 := cell_lt b15_0.out; dsimp only at h9; omega))
  exact AllReadyH.nil
 have N1_20 : ∀ (v2_ v9_ : Value) (f_ : Nat) (l_ : Array Bool) (W0 : World) (a_ : Act), f_ = 8 → l_ = #[true, true, true, true, true, false, false, true, true, true, true, true, false, false, false, false, false, false] → a_ = ({ tmps := #[yA,yB,yC,yD,yE,yF,yG,yH,yI,yJ,yK,.int .i64 (M : Int),.slice (some ⟨g1, e1, none⟩) n k1,yN,yO,yP,.slice (some ⟨g2, e2, none⟩) n k2,yR,yS,yT,yU,yV,yW,yX,yY,yZ,zA,zB,zC,zD,zE,zF,zG,zH,zI,zJ,zK,zL,zM,zN,zO,zP,zQ,zR,zS,zT,zU,zV,zW,zX,zY,zZ,uA,uB,uC,uD,uE,uF,uG,uH,uI,uJ,uK,uL,uM,uN,uO,uP,uQ,uR,uS,uT,uU,uV,uW,uX,uY,uZ,iA,iB,iC,iD,iE,iF,iG,iH,iI,iJ,iK,iL,iM,iN,iO,iP,iQ,iR,iS,iT,iU,iV,iW,iX,iY,iZ,oA,oB,oC,oD,.slice (some ⟨g2, e2, none⟩) n k2,.int .i64 (M : Int),v2_,.int .i64 z2,.slice (some ⟨g2, e2, none⟩) n k2,oJ,oK,.slice (some ⟨g1, e1, none⟩) n k1,.int .i64 (M : Int),v9_,.int .i64 z1,.slice (some ⟨g1, e1, none⟩) n k1,oQ,oR,oS,oT,oU,oV,oW,oX,oY,oZ,qA,qB,qC,qD,qE,qF,qG,qH,qI,qJ,qK,qL,qM,qN,qO,qP,qQ,qR,qS,qT,qU], defers := [] } : Act) → Ext w W0 → F f_ l_ a_ W0 := by
  intro v2_ v9_ f_ l_ W0 a_ hf_ hl_ ha_ s0
  subst hf_ hl_ ha_
  refine (hF.out _ _ _ _).2 ?_
  clear N1_0 N1_1 N1_2 N1_3 N1_4 N1_5 N1_6 N1_7 N1_8 N1_9 N1_10 N1_11 N1_12 N1_13 N1_14 N1_15 N1_16
  refine wpAnyH_ready (rs := [5, 14, 15]) (by kernel_rfl) (by simp) ?_
  refine AllReadyH.cons (o := _) rfl (fun K hK => ?_) ?_
  ·skip
   refine tk_call (by kernel_rfl) (hs2.out _ s0) (by kernel_rfl) ?_; rintro e W1 ⟨rfl, e1⟩; refine ⟨_, rfl, ?_⟩
   have s1 := s0.trans e1
   refine hK.out _ _ s1 (fun _ => ?_)
   clear hK K
   try simp only [sxA, sxB, sxC, Act.put, sxD, sxE, sxF]
   refine (hF.out _ _ _ _).1 ?_
   exact N1_17 _ _ _ _ W1 _ (by first | rfl | kernel_rfl) (by first | rfl | kernel_rfl) (by (try simp only [sxA, sxB, sxC, Act.put, sxD, sxE, sxF]); first | done | with_reducible rfl | rfl) s1
  refine AllReadyH.cons (o := _) rfl (fun K hK => ?_) ?_
  ·skip
   go_simp
   refine hK.out _ _ (Ext.alloc s0 _) (fun _ => ?_)
   clear hK K
   try simp only [sxA, sxB, sxC, Act.put, sxD, sxE, sxF]
   refine name_any (fun W1 hW => ?_)
   have e1 : Ext W0 W1 := by rw [hW]; exact Ext.alloc (Ext.refl _) _
   have s1 := s0.trans e1
   have nb0 := hid (show W1.cell? ⟨W0.heap.size, 0, none⟩ = some (.int .i64 0) by rw [hW]; simp [go_sem])
   have nb1 := hid (show W1.cell? ⟨W0.heap.size, 1, none⟩ = some (.int .i64 0) by rw [hW]; simp [go_sem])
   have nd0 := hid (show W1.frozen? ⟨W0.heap.size, 0, none⟩ = false by rw [hW]; simp [go_sem])
   have nd1 := hid (show W1.frozen? ⟨W0.heap.size, 1, none⟩ = false by rw [hW]; simp [go_sem])
   clear hW
   refine (hF.out _ _ _ _).1 ?_
   exact N1_18 W0.heap.size _ _ _ _ W1 _ (by first | rfl | kernel_rfl) (by first | rfl | kernel_rfl) (by (try simp only [sxA, sxB, sxC, Act.put, sxD, sxE, sxF]); first | done | with_reducible rfl | rfl) s1 nb0 nb1 nd0 nd1 (hid s0.size)
  refine AllReadyH.cons (o := _) rfl (fun K hK => ?_) ?_
  ·skip
   go_simp
   refine hK.out _ _ (Ext.alloc s0 _) (fun _ => ?_)
   clear hK K
   try simp only [sxA, sxB, sxC, Act.put, sxD, sxE, sxF]
   refine name_any (fun W1 hW => ?_)
   have e1 : Ext W0 W1 := by rw [hW]; exact Ext.alloc (Ext.refl _) _
   have s1 := s0.trans e1
   have nb0 := hid (show W1.cell? ⟨W0.heap.size, 0, none⟩ = some (.int .i64 0) by rw [hW]; simp [go_sem])
   have nb1 := hid (show W1.cell? ⟨W0.heap.size, 1, none⟩ = some (.int .i64 0) by rw [hW]; simp [go_sem])
   have nd0 := hid (show W1.frozen? ⟨W0.heap.size, 0, none⟩ = false by rw [hW]; simp [go_sem])
   have nd1 := hid (show W1.frozen? ⟨W0.heap.size, 1, none⟩ = false by rw [hW]; simp [go_sem])
   clear hW
   refine (hF.out _ _ _ _).1 ?_
   exact N1_19 W0.heap.size _ _ _ _ W1 _ (by first | rfl | kernel_rfl) (by first | rfl | kernel_rfl) (by (try simp only [sxA, sxB, sxC, Act.put, sxD, sxE, sxF]); first | done | with_reducible rfl | rfl) s1 nb0 nb1 nd0 nd1 (hid s0.size)
  exact AllReadyH.nil
 rw [hA_.out]
 refine (hF.out _ _ _ _).2 ?_
 refine tkB (i := 0) (v := ?_) rfl hpan ?yl ?_
 case yl => (intro w hSw; (try dsimp only at hSw);  go_simp); with_reducible rfl
 try simp only [sxA, sxB, sxC, Act.put, sxD, sxE, sxF]
 refine tkB (i := 1) (v := ?_) rfl hpan ?yl ?_
 case yl => (intro w hSw; (try dsimp only at hSw);  go_simp); with_reducible rfl
 try simp only [sxA, sxB, sxC, Act.put, sxD, sxE, sxF]
 refine tkB (i := 2) (v := ?_) rfl hpan ?yl ?_
 case yl => (intro w hSw; have k_ := hRD_.out w hSw; go_simp); with_reducible rfl
 try simp only [sxA, sxB, sxC, Act.put, sxD, sxE, sxF]
 refine tkB (i := 3) (v := ?_) rfl hpan ?yl ?_
 case yl => (intro w hSw; have k_ := hRD_.out w hSw; go_simp); with_reducible rfl
 try simp only [sxA, sxB, sxC, Act.put, sxD, sxE, sxF]
 refine tkB (i := 4) (v := ?_) rfl hpan ?yl ?_
 case yl => (intro w hSw; (try dsimp only at hSw);  go_simp); with_reducible rfl
 try simp only [sxA, sxB, sxC, Act.put, sxD, sxE, sxF]
 refine tkB (i := 7) (v := ?_) rfl hpan ?yl ?_
 case yl => (intro w hSw; (try dsimp only at hSw);  go_simp); with_reducible rfl
 try simp only [sxA, sxB, sxC, Act.put, sxD, sxE, sxF]
 refine tkB (i := 8) (v := ?_) rfl hpan ?yl ?_
 case yl => (intro w hSw; (try dsimp only at hSw);  go_simp); with_reducible rfl
 try simp only [sxA, sxB, sxC, Act.put, sxD, sxE, sxF]
 refine tkB (i := 9) (v := ?_) rfl hpan ?yl ?_
 case yl => (intro w hSw; have k_ := hRD_.out w hSw; go_simp); with_reducible rfl
 try simp only [sxA, sxB, sxC, Act.put, sxD, sxE, sxF]
 refine tkB (i := 10) (v := ?_) rfl hpan ?yl ?_
 case yl => (intro w hSw; have k_ := hRD_.out w hSw; go_simp); with_reducible rfl
 try simp only [sxA, sxB, sxC, Act.put, sxD, sxE, sxF]
 refine tkB (i := 11) (v := ?_) rfl hpan ?yl ?_
 case yl => (intro w hSw; (try dsimp only at hSw);  go_simp); with_reducible rfl
 try simp only [sxA, sxB, sxC, Act.put, sxD, sxE, sxF]
 refine (hF.out _ _ _ _).1 ?_
 exact N1_20 _ _ _ _ W0 _ (by first | rfl | kernel_rfl) (by first | rfl | kernel_rfl) (by (try simp only [sxA, sxB, sxC, Act.put, sxD, sxE, sxF]); first | done | with_reducible rfl | rfl) s0
set_option maxHeartbeats 16000000 in
theorem alloyHeld_any (l : List Met) (q : FitM l) (a : Option Addr) (cap : Nat) (u c : Int) (s : Bool) (p : List Int) (hp : ∀ i, 0 ≤ nth p i ∧ nth p i ≤ 65535) (ap : Option Addr) (cpp : Nat) (k : Int) (w : World) (hM : Mts w a l) (hl : l.length ≤ 9223372036854775807) (iu : I64 u) (ic : I64 c) (hP : Wrds w ap p) (hlp : p.length ≤ 9223372036854775807) (ik : 0 ≤ k ∧ k ≤ 255) :
 Calls Try.prog 12 #[.slice a l.length cap, (.agg #[.int .i64 (u), .int .i64 (c)]), .bool s, .slice ap p.length cpp, .int .u8 k] w fun e w' => e = .returned (.bool true) ∧ Ext w w' := by
 have hf := hid (fun W (x : Ext w W) => fineL_any l q hl a cap u c W (hM.ext x))
 by_cases g : chkB l u c = 0
 case neg =>
  rw [decide_eq_false g] at hf
  replace g := hid g
  clear hM hP
  go_enter Try.func12, Try.ntmps12
  go_wp2_with fail
  refine (hf.out _ exE).mono ?_; rintro e w1 ⟨rfl, hE⟩
  have x1 := hid (show Ext w w1 from exE)
  go_wp2_with fail
  refine (works_any _).mono ?_; rintro e w2 ⟨rfl, hE2⟩
  go_wp2_with fail
  go_ret
  exact ⟨rfl, by have := x1.out; exact exE⟩
 rw [decide_eq_true g] at hf
 by_cases gpp : 20 < p.length
 ·have gIp : (20 : Int) < (p.length : Int) := by omega
  replace g := hid g
  clear hM hP
  go_enter Try.func12, Try.ntmps12
  go_wp2_with fail
  refine (hf.out _ exE).mono ?_; rintro e w1 ⟨rfl, hE⟩
  have x1 := hid (show Ext w w1 from exE)
  go_wp2_with fail
  refine (works_any _).mono ?_; rintro e w2 ⟨rfl, hE2⟩
  go_wp2_with fail
  go_ret
  exact ⟨rfl, by have := x1.out; exact exE⟩
 have gIp : ¬ (20 : Int) < (p.length : Int) := by omega
 obtain ⟨v, hu, hc⟩ := chkB_ok g
 have n1 := v.n1; have n6 := v.n6
 have hl2 : l.length ≤ 1000 := by omega
 have hcm : chkM l = 0 := by by_cases h : chkM l = 0; exact h; (unfold chkB at g; rw [if_neg h] at g; exact absurd g h)
 have hmxx := hid (fun W (x : Ext w W) => mixedL_any l.length n6 p hp hlp ap cpp W (hP.ext x))
 have vxx := pln_vld (m := l.length) hp n1
 obtain ⟨x, hdfx⟩ : ∃ x, pln l.length p = x := ⟨_, rfl⟩
 rw [hdfx] at hmxx vxx
 have fx : Hid (∀ i, I64 (nth x i)) := hid fun i => ⟨by have := vxx.nn i; omega, by have := vxx.le i; omega⟩
 have xl := hid vxx.len
 have xl2 : x.length ≤ 1000 := by rw [xl.out]; omega
 obtain ⟨K, hK0⟩ : ∃ K : Nat, k = (K : Int) := ⟨k.toNat, by omega⟩
 subst hK0
 have n0 : 0 < l.length := by omega
 have hml := Nat.mod_lt K n0
 have hmod : ((K : Int)).tmod (l.length : Int) = ((K % l.length : Nat) : Int) := by rw [Int.tmod_eq_emod_of_nonneg (by omega)]; rfl
 obtain ⟨M, hMd⟩ : ∃ M, K % l.length = M := ⟨_, rfl⟩
 rw [hMd] at hml hmod
 have hct := hid (che_two g s)
 have hgd := gx_des (u := u) (c := c) g (s := s) vxx
 have hdt := des_two (u := u) (c := c) g s vxx
 have hgc := gx_che (u := u) (c := c) g s
 have h17 : Hid (¬ cheE l u c s = 0 → desE l u c s x = 17) := hid fun h => hdt.resolve_left fun e => h (hgc.2 ⟨x, hgd.1 e⟩)
 have hxs := share_small n6 vxx hml
 have hdt2 := hid hdt
 have hsh : Hid (cheE l u c s = 0 → ShOk l u c s M (nth (shX l u c s (M : Int)) 0) (nth (shX l u c s (M : Int)) 1) (nth (shX l u c s (M : Int)) 2) (nth (shX l u c s (M : Int)) 3)) := hid fun h => sh_all g hml h
 have hsz : Hid (¬ cheE l u c s = 0 → shX l u c s (M : Int) = [0, 0, 0, 0]) := hid fun h => shX_no g hml h
 have hcv := hid (fun h : cheE l u c s = 0 => And.intro (chp_vld (s := s) g h).1 (And.intro (share_small n6 (chp_vld (s := s) g h).1 hml) (chp_gx g h).1))
 have hcr : Hid (cheE l u c s = 0 → chpR l u c s = chpL l u c s) := hid fun h => by unfold chpR; rw [if_pos h]
 have hSh := hid (fun W h => by have := share_any l q hl2 a cap u c iu ic s (M : Int) ⟨by omega, by omega⟩ W h; rw [she_che g s hml] at this; exact this)
 have hCh := hid (fun W h => cheapestP_any l q hl2 a cap u c iu ic s W h)
 have hD1 := hid (fun a1 c1 W h1 h2 => by have := deserves_any l q hl2 a cap u c iu ic s x fx.out xl2 a1 c1 W h1 h2; rw [xl.out] at this; exact this)
 have hD2 := hid (fun (h : cheE l u c s = 0) a1 c1 W h1 h2 => by have hv := (hcv.out h).1; have := deservesR_any l q hl2 a cap u c s (chpL l u c s) (fun i => ⟨by have := hv.nn i; omega, by have := hv.le i; omega⟩) (by rw [hv.len]; exact hl2) a1 c1 W h1 h2; rw [hv.len, (gx_des (u := u) (c := c) g (s := s) hv).2 (hcv.out h).2.2] at this; exact this)
 have hS1 := hid (fun a1 c1 W h2 => by have := sumR_any x (fun i => ⟨vxx.nn i, by have := vxx.le i; omega⟩) xl2 a1 c1 W h2; rw [xl.out] at this; exact this)
 have hS2 := hid (fun (h : cheE l u c s = 0) a1 c1 W h2 => by have hv := (hcv.out h).1; have := sumR_any (chpL l u c s) (fun i => ⟨hv.nn i, by have := hv.le i; omega⟩) (by rw [hv.len]; exact hl2) a1 c1 W h2; rw [hv.len] at this; exact this)
 have hB1 := hid (fun W => byR_any (nth x M) (psum x) (by have := vxx.nn M; omega) (by have := vxx.le M; omega) vxx.ps (by have := psum_le n6 vxx.len vxx.le vxx.nn; omega) W)
 have hB2 := hid (fun (h : cheE l u c s = 0) W => by have hv := (hcv.out h).1; exact byR_any (nth (chpL l u c s) M) (psum (chpL l u c s)) (by have := hv.nn M; omega) (by have := hv.le M; omega) hv.ps (by have := psum_le n6 hv.len hv.le hv.nn; omega) W)
 change Hid (∀ W, Calls Try.prog 48 #[.int .i64 (nth x M), .int .i64 (psum x)] W fun e w' => e = .returned (.agg #[.int .i64 (shN M x), .int .i64 (shD M x)]) ∧ Ext W w') at hB1
 change Hid (cheE l u c s = 0 → ∀ W, Calls Try.prog 48 #[.int .i64 (nth (chpL l u c s) M), .int .i64 (psum (chpL l u c s))] W fun e w' => e = .returned (.agg #[.int .i64 (shN M (chpL l u c s)), .int .i64 (shD M (chpL l u c s))]) ∧ Ext W w') at hB2
 have hlen : Hid (cheE l u c s = 0 → (chpL l u c s).length = l.length) := hid fun h => (hcv.out h).1.len
 have hxo := hid hxs.1
 have hyo : Hid (cheE l u c s = 0 → OkS (shN M (chpL l u c s)) (shD M (chpL l u c s)) ∧ lessB (shN M (chpL l u c s)) (shD M (chpL l u c s)) (nth (shX l u c s (M : Int)) 0) (nth (shX l u c s (M : Int)) 1) = false ∧ lessB (nth (shX l u c s (M : Int)) 2) (nth (shX l u c s (M : Int)) 3) (shN M (chpL l u c s)) (shD M (chpL l u c s)) = false) := hid fun h => ⟨(hcv.out h).2.1.1, (hsh.out h).lo _ (hcv.out h).2.2, (hsh.out h).hi _ (hcv.out h).2.2⟩
 have hzo : Hid (desE l u c s x = 0 → cheE l u c s = 0 → lessB (shN M x) (shD M x) (nth (shX l u c s (M : Int)) 0) (nth (shX l u c s (M : Int)) 1) = false ∧ lessB (nth (shX l u c s (M : Int)) 2) (nth (shX l u c s (M : Int)) 3) (shN M x) (shD M x) = false) := hid fun e h => ⟨(hsh.out h).lo _ (hgd.1 e), (hsh.out h).hi _ (hgd.1 e)⟩
 have hab : Hid (cheE l u c s = 0 → OkS (nth (shX l u c s (M : Int)) 0) (nth (shX l u c s (M : Int)) 1) ∧ OkS (nth (shX l u c s (M : Int)) 2) (nth (shX l u c s (M : Int)) 3) ∧ lessB (nth (shX l u c s (M : Int)) 2) (nth (shX l u c s (M : Int)) 3) (nth (shX l u c s (M : Int)) 0) (nth (shX l u c s (M : Int)) 1) = false ∧ ¬ nth (shX l u c s (M : Int)) 3 < nth (shX l u c s (M : Int)) 2) := hid fun h => ⟨(hsh.out h).o1, (hsh.out h).o2, (hsh.out h).le, (hsh.out h).one⟩
 replace hM := hid hM
 replace g := hid g
 clear q v hu hc hcm vxx hdfx gpp hdt hgd hgc hl2 hxs hcv hsh
 replace hP := hid hP
 obtain ⟨n, hn⟩ : ∃ n, l.length = n := ⟨_, rfl⟩
 rw [hn] at hf hmxx n1 n6 n0 hml hmod xl hSh hCh hD1 hD2 hS1 hS2 hlen ⊢
 replace hn := hid hn
 replace hMd := hid hMd
 rcases hct.out with gE | gE
 ·have k1 := (hab.out gE).1; have k2 := (hab.out gE).2.1; have k3 := (hyo.out gE).1; have hxo2 := hxo.out
  have hlf := hid (hab.out gE).2.2.1; have h1n := (hab.out gE).2.2.2; have hy1 := hid (hyo.out gE).2.1; have hy2 := hid (hyo.out gE).2.2
  rw [hcr.out gE] at hCh
  have hs1 := hid (fun W => smallL_any _ _ k1 W); have hs2 := hid (fun W => smallL_any _ _ k2 W)
  have hl1 := hid (fun W => lessR_any _ _ _ _ (OkS.mul k2 k1) (OkS.mul k1 k2) W)
  have hl2 := hid (fun W => lessR_any _ _ _ _ (OkS.mul k3 k1) (OkS.mul k1 k3) W); have hl3 := hid (fun W => lessR_any _ _ _ _ (OkS.mul k2 k3) (OkS.mul k3 k2) W)
  have hl4 := hid (fun W => lessR_any _ _ _ _ (OkS.mul hxo2 k1) (OkS.mul k1 hxo2) W); have hl5 := hid (fun W => lessR_any _ _ _ _ (OkS.mul k2 hxo2) (OkS.mul hxo2 k2) W)
  clear k1 k2 k3 hxo2 hxo hyo hab hcr h17 hct hsz
  generalize cheE l u c s = EC at *
  generalize desE l u c s x = DE at *
  generalize chpL l u c s = CL at *
  generalize chpR l u c s = CR at *
  generalize nth (shX l u c s (M : Int)) 0 = A0 at *
  generalize nth (shX l u c s (M : Int)) 1 = A1 at *
  generalize nth (shX l u c s (M : Int)) 2 = A2 at *
  generalize nth (shX l u c s (M : Int)) 3 = A3 at *
  generalize shN M x = XN at *
  generalize shD M x = XD at *
  generalize shN M CL = YN at *
  generalize shD M CL = YD at *
  subst gE
  rcases hdt2.out with gD | gD
  ·have hz1 := hid (hzo.out gD rfl).1; have hz2 := hid (hzo.out gD rfl).2
   subst gD
   clear hzo hdt2
   have hn2 : (0 : Int) < (n : Int) := by omega
   have e0 : ((n : Int) == 0) = false := by rw [beq_eq_false_iff_ne]; omega
   have e3 : (n : Int) ≠ 0 := by omega
   have e4 : ¬ (n : Int) = 0 := by omega
   go_enter Try.func12, Try.ntmps12
   go_wp2_with fail
   refine (hf.out _ exE).mono ?_; rintro e w1 ⟨rfl, hE⟩
   have X := hid (show Ext w w1 from exE)
   have t := hid (show C2 w1 w.heap.size (u) (c) from ⟨hE.cell (p := ⟨w.heap.size, 0, none⟩) (v := .int .i64 (u)) (by simp [go_sem]), hE.cell (p := ⟨w.heap.size, 1, none⟩) (v := .int .i64 (c)) (by simp [go_sem])⟩)
   replace hM := hid (hM.out.ext X.out)
   obtain ⟨T, hT⟩ : ∃ T, w.heap.size = T := ⟨_, rfl⟩
   rw [hT] at t ⊢
   clear hE hf hT
   go_wp2_with fail
   refine name_c (fun v1 hv => ?_)
   have x1 : Ext w1 v1 := by rw [hv]; exact exE
   replace X := hid (X.out.trans x1); replace hM := hid (hM.out.ext x1); replace t := hid (t.out.ext x1)
   clear hv x1
   refine (hmxx.out _ X.out).mono ?_; rintro e u2 ⟨a1, k1, rfl, hI, hE⟩
   replace X := hid (X.out.trans hE); replace hM := hid (hM.out.ext hE); replace t := hid (t.out.ext hE)
   clear hE
   replace hI := hid hI
   rw [xl.out]
   obtain ⟨o0, o1⟩ := t.out; have lo0 := cell_lt o0; dsimp only at lo0
   go_wp2_with fail
   refine name_c (fun v3 hv => ?_)
   have x1 : Ext u2 v3 := by rw [hv]; exact exE
   replace X := hid (X.out.trans x1); replace hM := hid (hM.out.ext x1); replace t := hid (t.out.ext x1); replace hI := hid (hI.out.ext x1)
   clear o0 o1 lo0
   clear hv x1
   refine (hSh.out _ hM.out).mono ?_; rintro e u4 ⟨rfl, hE⟩
   replace X := hid (X.out.trans hE); replace hM := hid (hM.out.ext hE); replace t := hid (t.out.ext hE); replace hI := hid (hI.out.ext hE)
   clear hE
   obtain ⟨o0, o1⟩ := t.out; have lo0 := cell_lt o0; dsimp only at lo0
   go_wp2_with fail
   refine name_c (fun v5 hv => ?_)
   have x1 : Ext u4 v5 := by rw [hv]; exact exE
   have b13 := hid (show C2 v5 u4.heap.size (A0) (A1) from ⟨by rw [hv]; simp [go_sem], by rw [hv]; simp [go_sem]⟩)
   have b14 := hid (show C2 v5 (u4.heap.size + 1) (A2) (A3) from ⟨by rw [hv]; simp [go_sem], by rw [hv]; simp [go_sem]⟩)
   replace X := hid (X.out.trans x1); replace hM := hid (hM.out.ext x1); replace t := hid (t.out.ext x1); replace hI := hid (hI.out.ext x1)
   clear o0 o1 lo0
   clear hv x1
   obtain ⟨Bb13, hBn⟩ : ∃ z, u4.heap.size = z := ⟨_, rfl⟩
   rw [hBn] at b13 b14 ⊢
   clear hBn
   refine (hCh.out _ hM.out).mono ?_; rintro e u6 ⟨a2, k2, rfl, hJ, hE⟩
   replace X := hid (X.out.trans hE); replace hM := hid (hM.out.ext hE); replace t := hid (t.out.ext hE); replace hI := hid (hI.out.ext hE)
   replace b13 := hid (b13.out.ext hE); replace b14 := hid (b14.out.ext hE)
   clear hE
   replace hJ := hid hJ
   rw [hlen.out (by trivial)]
   obtain ⟨o0, o1⟩ := b13.out; have lo0 := cell_lt o0; dsimp only at lo0
   obtain ⟨o2, o3⟩ := b14.out; have lo2 := cell_lt o2; dsimp only at lo2
   go_wp2_with fail
   refine name_c (fun v7 hv => ?_)
   have x1 : Ext u6 v7 := by rw [hv]; exact exE
   replace X := hid (X.out.trans x1); replace hM := hid (hM.out.ext x1); replace t := hid (t.out.ext x1); replace hI := hid (hI.out.ext x1)
   replace b13 := hid (b13.out.ext x1); replace b14 := hid (b14.out.ext x1); replace hJ := hid (hJ.out.ext x1)
   clear o0 o1 lo0 o2 o3 lo2
   clear hv x1
   refine (hs1.out _).mono ?_; rintro e u8 ⟨rfl, hE⟩
   replace X := hid (X.out.trans hE); replace hM := hid (hM.out.ext hE); replace t := hid (t.out.ext hE); replace hI := hid (hI.out.ext hE)
   replace b13 := hid (b13.out.ext hE); replace b14 := hid (b14.out.ext hE); replace hJ := hid (hJ.out.ext hE)
   clear hE
   obtain ⟨o0, o1⟩ := b13.out; have lo0 := cell_lt o0; dsimp only at lo0
   obtain ⟨o2, o3⟩ := b14.out; have lo2 := cell_lt o2; dsimp only at lo2
   go_wp2_with fail
   refine name_c (fun v9 hv => ?_)
   have x1 : Ext u8 v9 := by rw [hv]; exact exE
   replace X := hid (X.out.trans x1); replace hM := hid (hM.out.ext x1); replace t := hid (t.out.ext x1); replace hI := hid (hI.out.ext x1)
   replace b13 := hid (b13.out.ext x1); replace b14 := hid (b14.out.ext x1); replace hJ := hid (hJ.out.ext x1)
   clear o0 o1 lo0 o2 o3 lo2
   clear hv x1
   refine (hs2.out _).mono ?_; rintro e u10 ⟨rfl, hE⟩
   replace X := hid (X.out.trans hE); replace hM := hid (hM.out.ext hE); replace t := hid (t.out.ext hE); replace hI := hid (hI.out.ext hE)
   replace b13 := hid (b13.out.ext hE); replace b14 := hid (b14.out.ext hE); replace hJ := hid (hJ.out.ext hE)
   clear hE
   obtain ⟨o0, o1⟩ := b13.out; have lo0 := cell_lt o0; dsimp only at lo0
   obtain ⟨o2, o3⟩ := b14.out; have lo2 := cell_lt o2; dsimp only at lo2
   go_wp2_with fail
   refine name_c (fun v11 hv => ?_)
   have x1 : Ext u10 v11 := by rw [hv]; exact exE
   replace X := hid (X.out.trans x1); replace hM := hid (hM.out.ext x1); replace t := hid (t.out.ext x1); replace hI := hid (hI.out.ext x1)
   replace b13 := hid (b13.out.ext x1); replace b14 := hid (b14.out.ext x1); replace hJ := hid (hJ.out.ext x1)
   clear o0 o1 lo0 o2 o3 lo2
   clear hv x1
   refine (hl1.out _).mono ?_; rintro e u12 ⟨rfl, hE⟩
   replace X := hid (X.out.trans hE); replace hM := hid (hM.out.ext hE); replace t := hid (t.out.ext hE); replace hI := hid (hI.out.ext hE)
   replace b13 := hid (b13.out.ext hE); replace b14 := hid (b14.out.ext hE); replace hJ := hid (hJ.out.ext hE)
   clear hE
   rw [hlf.out]
   obtain ⟨o0, o1⟩ := t.out; have lo0 := cell_lt o0; dsimp only at lo0
   obtain ⟨o2, o3⟩ := b13.out; have lo2 := cell_lt o2; dsimp only at lo2
   obtain ⟨o4, o5⟩ := b14.out; have lo4 := cell_lt o4; dsimp only at lo4
   go_wp2_with fail
   refine name_c (fun v13 hv => ?_)
   have x1 : Ext u12 v13 := by rw [hv]; exact exE
   replace X := hid (X.out.trans x1); replace hM := hid (hM.out.ext x1); replace t := hid (t.out.ext x1); replace hI := hid (hI.out.ext x1)
   replace b13 := hid (b13.out.ext x1); replace b14 := hid (b14.out.ext x1); replace hJ := hid (hJ.out.ext x1)
   clear o0 o1 lo0 o2 o3 lo2 o4 o5 lo4
   clear hv x1
   refine (hD2.out (by trivial) _ _ _ hM.out hJ.out).mono ?_; rintro e u14 ⟨rfl, hE⟩
   replace X := hid (X.out.trans hE); replace hM := hid (hM.out.ext hE); replace t := hid (t.out.ext hE); replace hI := hid (hI.out.ext hE)
   replace b13 := hid (b13.out.ext hE); replace b14 := hid (b14.out.ext hE); replace hJ := hid (hJ.out.ext hE)
   clear hE
   go_upto_region 13 with (fail)
   refine name_wp (fun v15 hv => ?_)
   have x1 : Ext u14 v15 := by rw [hv]; exact exE
   replace X := hid (X.out.trans x1); replace hM := hid (hM.out.ext x1); replace t := hid (t.out.ext x1); replace hI := hid (hI.out.ext x1)
   replace b13 := hid (b13.out.ext x1); replace b14 := hid (b14.out.ext x1); replace hJ := hid (hJ.out.ext x1)
   clear hv x1
   obtain ⟨g1, e1, hA1, hb1, hIc⟩ := hI.out.at (by rw [xl.out]; omega)
   obtain ⟨g2, e2, hA2, hb2, hJc⟩ := hJ.out.at (by rw [hlen.out (by trivial)]; omega)
   subst hA1; subst hA2
   have hIm := hid (hIc M (by rw [xl.out]; exact hml))
   have hJm := hid (hJc M (by rw [hlen.out (by trivial)]; exact hml))
   clear hIc hJc hb1 hb2
   have hiM : (M : Int) < (n : Int) := by omega
   refine wp_mono (stD13 rfl hiM (fun W hW => hS2.out (by trivial) _ _ W (hJ.out.ext hW)) (fun W hW => hS1.out _ _ W (hI.out.ext hW)) (hB2.out (by trivial)) hB1.out hIm.out hJm.out) ?_
   rintro e a' v98 ⟨rfl, B18, B19, v2_, v9_, rfl, x, c14_0, c14_1, fz14_0, fz14_1, z14, c15_0, c15_1, fz15_0, fz15_1, z15, n15_14⟩
   have b18 := hid (show C2 v98 B18 YN YD from ⟨c14_0, c14_1⟩)
   have b19 := hid (show C2 v98 B19 XN XD from ⟨c15_0, c15_1⟩)
   replace X := hid (X.out.trans x); replace hM := hid (hM.out.ext x); replace t := hid (t.out.ext x); replace hI := hid (hI.out.ext x)
   replace b13 := hid (b13.out.ext x); replace b14 := hid (b14.out.ext x); replace hJ := hid (hJ.out.ext x)
   clear x
   obtain ⟨o0, o1⟩ := b18.out; have lo0 := cell_lt o0; dsimp only at lo0
   obtain ⟨o2, o3⟩ := b13.out; have lo2 := cell_lt o2; dsimp only at lo2
   go_wp2_with fail
   refine name_c (fun v16 hv => ?_)
   have x1 : Ext v98 v16 := by rw [hv]; exact exE
   replace X := hid (X.out.trans x1); replace hM := hid (hM.out.ext x1); replace t := hid (t.out.ext x1); replace hI := hid (hI.out.ext x1)
   replace b13 := hid (b13.out.ext x1); replace b14 := hid (b14.out.ext x1); replace hJ := hid (hJ.out.ext x1); replace b18 := hid (b18.out.ext x1)
   replace b19 := hid (b19.out.ext x1)
   clear o0 o1 lo0 o2 o3 lo2
   clear hv x1
   refine (hl2.out _).mono ?_; rintro e u17 ⟨rfl, hE⟩
   replace X := hid (X.out.trans hE); replace hM := hid (hM.out.ext hE); replace t := hid (t.out.ext hE); replace hI := hid (hI.out.ext hE)
   replace b13 := hid (b13.out.ext hE); replace b14 := hid (b14.out.ext hE); replace hJ := hid (hJ.out.ext hE); replace b18 := hid (b18.out.ext hE)
   replace b19 := hid (b19.out.ext hE)
   clear hE
   rw [hy1.out]
   obtain ⟨o0, o1⟩ := b14.out; have lo0 := cell_lt o0; dsimp only at lo0
   obtain ⟨o2, o3⟩ := b18.out; have lo2 := cell_lt o2; dsimp only at lo2
   go_wp2_with fail
   refine name_c (fun v18 hv => ?_)
   have x1 : Ext u17 v18 := by rw [hv]; exact exE
   replace X := hid (X.out.trans x1); replace hM := hid (hM.out.ext x1); replace t := hid (t.out.ext x1); replace hI := hid (hI.out.ext x1)
   replace b13 := hid (b13.out.ext x1); replace b14 := hid (b14.out.ext x1); replace hJ := hid (hJ.out.ext x1); replace b18 := hid (b18.out.ext x1)
   replace b19 := hid (b19.out.ext x1)
   clear o0 o1 lo0 o2 o3 lo2
   clear hv x1
   refine (hl3.out _).mono ?_; rintro e u19 ⟨rfl, hE⟩
   replace X := hid (X.out.trans hE); replace hM := hid (hM.out.ext hE); replace t := hid (t.out.ext hE); replace hI := hid (hI.out.ext hE)
   replace b13 := hid (b13.out.ext hE); replace b14 := hid (b14.out.ext hE); replace hJ := hid (hJ.out.ext hE); replace b18 := hid (b18.out.ext hE)
   replace b19 := hid (b19.out.ext hE)
   clear hE
   rw [hy2.out]
   obtain ⟨o0, o1⟩ := t.out; have lo0 := cell_lt o0; dsimp only at lo0
   go_wp2_with fail
   refine name_c (fun v20 hv => ?_)
   have x1 : Ext u19 v20 := by rw [hv]; exact exE
   replace X := hid (X.out.trans x1); replace hM := hid (hM.out.ext x1); replace t := hid (t.out.ext x1); replace hI := hid (hI.out.ext x1)
   replace b13 := hid (b13.out.ext x1); replace b14 := hid (b14.out.ext x1); replace hJ := hid (hJ.out.ext x1); replace b18 := hid (b18.out.ext x1)
   replace b19 := hid (b19.out.ext x1)
   clear o0 o1 lo0
   clear hv x1
   refine (hD1.out _ _ _ hM.out hI.out).mono ?_; rintro e u21 ⟨rfl, hE⟩
   replace X := hid (X.out.trans hE); replace hM := hid (hM.out.ext hE); replace t := hid (t.out.ext hE); replace hI := hid (hI.out.ext hE)
   replace b13 := hid (b13.out.ext hE); replace b14 := hid (b14.out.ext hE); replace hJ := hid (hJ.out.ext hE); replace b18 := hid (b18.out.ext hE)
   replace b19 := hid (b19.out.ext hE)
   clear hE
   obtain ⟨o0, o1⟩ := b19.out; have lo0 := cell_lt o0; dsimp only at lo0
   obtain ⟨o2, o3⟩ := b13.out; have lo2 := cell_lt o2; dsimp only at lo2
   go_wp2_with fail
   refine name_c (fun v22 hv => ?_)
   have x1 : Ext u21 v22 := by rw [hv]; exact exE
   replace X := hid (X.out.trans x1); replace hM := hid (hM.out.ext x1); replace t := hid (t.out.ext x1); replace hI := hid (hI.out.ext x1)
   replace b13 := hid (b13.out.ext x1); replace b14 := hid (b14.out.ext x1); replace hJ := hid (hJ.out.ext x1); replace b18 := hid (b18.out.ext x1)
   replace b19 := hid (b19.out.ext x1)
   clear o0 o1 lo0 o2 o3 lo2
   clear hv x1
   refine (hl4.out _).mono ?_; rintro e u23 ⟨rfl, hE⟩
   replace X := hid (X.out.trans hE); replace hM := hid (hM.out.ext hE); replace t := hid (t.out.ext hE); replace hI := hid (hI.out.ext hE)
   replace b13 := hid (b13.out.ext hE); replace b14 := hid (b14.out.ext hE); replace hJ := hid (hJ.out.ext hE); replace b18 := hid (b18.out.ext hE)
   replace b19 := hid (b19.out.ext hE)
   clear hE
   rw [hz1.out]
   obtain ⟨o0, o1⟩ := b14.out; have lo0 := cell_lt o0; dsimp only at lo0
   obtain ⟨o2, o3⟩ := b19.out; have lo2 := cell_lt o2; dsimp only at lo2
   go_wp2_with fail
   refine name_c (fun v24 hv => ?_)
   have x1 : Ext u23 v24 := by rw [hv]; exact exE
   replace X := hid (X.out.trans x1); replace hM := hid (hM.out.ext x1); replace t := hid (t.out.ext x1); replace hI := hid (hI.out.ext x1)
   replace b13 := hid (b13.out.ext x1); replace b14 := hid (b14.out.ext x1); replace hJ := hid (hJ.out.ext x1); replace b18 := hid (b18.out.ext x1)
   replace b19 := hid (b19.out.ext x1)
   clear o0 o1 lo0 o2 o3 lo2
   clear hv x1
   refine (hl5.out _).mono ?_; rintro e u25 ⟨rfl, hE⟩
   replace X := hid (X.out.trans hE); replace hM := hid (hM.out.ext hE); replace t := hid (t.out.ext hE); replace hI := hid (hI.out.ext hE)
   replace b13 := hid (b13.out.ext hE); replace b14 := hid (b14.out.ext hE); replace hJ := hid (hJ.out.ext hE); replace b18 := hid (b18.out.ext hE)
   replace b19 := hid (b19.out.ext hE)
   clear hE
   rw [hz2.out]
   go_wp2_with fail
   refine (works_any _).mono ?_; rintro e w9 ⟨rfl, hE9⟩
   have X9 := hid (X.out.trans (show Ext u25 w9 from exE))
   go_wp2_with fail
   go_ret
   exact ⟨rfl, X9.out⟩
  ·subst gD
   clear hzo hdt2
   have hn2 : (0 : Int) < (n : Int) := by omega
   have e0 : ((n : Int) == 0) = false := by rw [beq_eq_false_iff_ne]; omega
   have e3 : (n : Int) ≠ 0 := by omega
   have e4 : ¬ (n : Int) = 0 := by omega
   go_enter Try.func12, Try.ntmps12
   go_wp2_with fail
   refine (hf.out _ exE).mono ?_; rintro e w1 ⟨rfl, hE⟩
   have X := hid (show Ext w w1 from exE)
   have t := hid (show C2 w1 w.heap.size (u) (c) from ⟨hE.cell (p := ⟨w.heap.size, 0, none⟩) (v := .int .i64 (u)) (by simp [go_sem]), hE.cell (p := ⟨w.heap.size, 1, none⟩) (v := .int .i64 (c)) (by simp [go_sem])⟩)
   replace hM := hid (hM.out.ext X.out)
   obtain ⟨T, hT⟩ : ∃ T, w.heap.size = T := ⟨_, rfl⟩
   rw [hT] at t ⊢
   clear hE hf hT
   go_wp2_with fail
   refine name_c (fun v1 hv => ?_)
   have x1 : Ext w1 v1 := by rw [hv]; exact exE
   replace X := hid (X.out.trans x1); replace hM := hid (hM.out.ext x1); replace t := hid (t.out.ext x1)
   clear hv x1
   refine (hmxx.out _ X.out).mono ?_; rintro e u2 ⟨a1, k1, rfl, hI, hE⟩
   replace X := hid (X.out.trans hE); replace hM := hid (hM.out.ext hE); replace t := hid (t.out.ext hE)
   clear hE
   replace hI := hid hI
   rw [xl.out]
   obtain ⟨o0, o1⟩ := t.out; have lo0 := cell_lt o0; dsimp only at lo0
   go_wp2_with fail
   refine name_c (fun v3 hv => ?_)
   have x1 : Ext u2 v3 := by rw [hv]; exact exE
   replace X := hid (X.out.trans x1); replace hM := hid (hM.out.ext x1); replace t := hid (t.out.ext x1); replace hI := hid (hI.out.ext x1)
   clear o0 o1 lo0
   clear hv x1
   refine (hSh.out _ hM.out).mono ?_; rintro e u4 ⟨rfl, hE⟩
   replace X := hid (X.out.trans hE); replace hM := hid (hM.out.ext hE); replace t := hid (t.out.ext hE); replace hI := hid (hI.out.ext hE)
   clear hE
   obtain ⟨o0, o1⟩ := t.out; have lo0 := cell_lt o0; dsimp only at lo0
   go_wp2_with fail
   refine name_c (fun v5 hv => ?_)
   have x1 : Ext u4 v5 := by rw [hv]; exact exE
   have b13 := hid (show C2 v5 u4.heap.size (A0) (A1) from ⟨by rw [hv]; simp [go_sem], by rw [hv]; simp [go_sem]⟩)
   have b14 := hid (show C2 v5 (u4.heap.size + 1) (A2) (A3) from ⟨by rw [hv]; simp [go_sem], by rw [hv]; simp [go_sem]⟩)
   replace X := hid (X.out.trans x1); replace hM := hid (hM.out.ext x1); replace t := hid (t.out.ext x1); replace hI := hid (hI.out.ext x1)
   clear o0 o1 lo0
   clear hv x1
   obtain ⟨Bb13, hBn⟩ : ∃ z, u4.heap.size = z := ⟨_, rfl⟩
   rw [hBn] at b13 b14 ⊢
   clear hBn
   refine (hCh.out _ hM.out).mono ?_; rintro e u6 ⟨a2, k2, rfl, hJ, hE⟩
   replace X := hid (X.out.trans hE); replace hM := hid (hM.out.ext hE); replace t := hid (t.out.ext hE); replace hI := hid (hI.out.ext hE)
   replace b13 := hid (b13.out.ext hE); replace b14 := hid (b14.out.ext hE)
   clear hE
   replace hJ := hid hJ
   rw [hlen.out (by trivial)]
   obtain ⟨o0, o1⟩ := b13.out; have lo0 := cell_lt o0; dsimp only at lo0
   obtain ⟨o2, o3⟩ := b14.out; have lo2 := cell_lt o2; dsimp only at lo2
   go_wp2_with fail
   refine name_c (fun v7 hv => ?_)
   have x1 : Ext u6 v7 := by rw [hv]; exact exE
   replace X := hid (X.out.trans x1); replace hM := hid (hM.out.ext x1); replace t := hid (t.out.ext x1); replace hI := hid (hI.out.ext x1)
   replace b13 := hid (b13.out.ext x1); replace b14 := hid (b14.out.ext x1); replace hJ := hid (hJ.out.ext x1)
   clear o0 o1 lo0 o2 o3 lo2
   clear hv x1
   refine (hs1.out _).mono ?_; rintro e u8 ⟨rfl, hE⟩
   replace X := hid (X.out.trans hE); replace hM := hid (hM.out.ext hE); replace t := hid (t.out.ext hE); replace hI := hid (hI.out.ext hE)
   replace b13 := hid (b13.out.ext hE); replace b14 := hid (b14.out.ext hE); replace hJ := hid (hJ.out.ext hE)
   clear hE
   obtain ⟨o0, o1⟩ := b13.out; have lo0 := cell_lt o0; dsimp only at lo0
   obtain ⟨o2, o3⟩ := b14.out; have lo2 := cell_lt o2; dsimp only at lo2
   go_wp2_with fail
   refine name_c (fun v9 hv => ?_)
   have x1 : Ext u8 v9 := by rw [hv]; exact exE
   replace X := hid (X.out.trans x1); replace hM := hid (hM.out.ext x1); replace t := hid (t.out.ext x1); replace hI := hid (hI.out.ext x1)
   replace b13 := hid (b13.out.ext x1); replace b14 := hid (b14.out.ext x1); replace hJ := hid (hJ.out.ext x1)
   clear o0 o1 lo0 o2 o3 lo2
   clear hv x1
   refine (hs2.out _).mono ?_; rintro e u10 ⟨rfl, hE⟩
   replace X := hid (X.out.trans hE); replace hM := hid (hM.out.ext hE); replace t := hid (t.out.ext hE); replace hI := hid (hI.out.ext hE)
   replace b13 := hid (b13.out.ext hE); replace b14 := hid (b14.out.ext hE); replace hJ := hid (hJ.out.ext hE)
   clear hE
   obtain ⟨o0, o1⟩ := b13.out; have lo0 := cell_lt o0; dsimp only at lo0
   obtain ⟨o2, o3⟩ := b14.out; have lo2 := cell_lt o2; dsimp only at lo2
   go_wp2_with fail
   refine name_c (fun v11 hv => ?_)
   have x1 : Ext u10 v11 := by rw [hv]; exact exE
   replace X := hid (X.out.trans x1); replace hM := hid (hM.out.ext x1); replace t := hid (t.out.ext x1); replace hI := hid (hI.out.ext x1)
   replace b13 := hid (b13.out.ext x1); replace b14 := hid (b14.out.ext x1); replace hJ := hid (hJ.out.ext x1)
   clear o0 o1 lo0 o2 o3 lo2
   clear hv x1
   refine (hl1.out _).mono ?_; rintro e u12 ⟨rfl, hE⟩
   replace X := hid (X.out.trans hE); replace hM := hid (hM.out.ext hE); replace t := hid (t.out.ext hE); replace hI := hid (hI.out.ext hE)
   replace b13 := hid (b13.out.ext hE); replace b14 := hid (b14.out.ext hE); replace hJ := hid (hJ.out.ext hE)
   clear hE
   rw [hlf.out]
   obtain ⟨o0, o1⟩ := t.out; have lo0 := cell_lt o0; dsimp only at lo0
   obtain ⟨o2, o3⟩ := b13.out; have lo2 := cell_lt o2; dsimp only at lo2
   obtain ⟨o4, o5⟩ := b14.out; have lo4 := cell_lt o4; dsimp only at lo4
   go_wp2_with fail
   refine name_c (fun v13 hv => ?_)
   have x1 : Ext u12 v13 := by rw [hv]; exact exE
   replace X := hid (X.out.trans x1); replace hM := hid (hM.out.ext x1); replace t := hid (t.out.ext x1); replace hI := hid (hI.out.ext x1)
   replace b13 := hid (b13.out.ext x1); replace b14 := hid (b14.out.ext x1); replace hJ := hid (hJ.out.ext x1)
   clear o0 o1 lo0 o2 o3 lo2 o4 o5 lo4
   clear hv x1
   refine (hD2.out (by trivial) _ _ _ hM.out hJ.out).mono ?_; rintro e u14 ⟨rfl, hE⟩
   replace X := hid (X.out.trans hE); replace hM := hid (hM.out.ext hE); replace t := hid (t.out.ext hE); replace hI := hid (hI.out.ext hE)
   replace b13 := hid (b13.out.ext hE); replace b14 := hid (b14.out.ext hE); replace hJ := hid (hJ.out.ext hE)
   clear hE
   go_upto_region 13 with (fail)
   refine name_wp (fun v15 hv => ?_)
   have x1 : Ext u14 v15 := by rw [hv]; exact exE
   replace X := hid (X.out.trans x1); replace hM := hid (hM.out.ext x1); replace t := hid (t.out.ext x1); replace hI := hid (hI.out.ext x1)
   replace b13 := hid (b13.out.ext x1); replace b14 := hid (b14.out.ext x1); replace hJ := hid (hJ.out.ext x1)
   clear hv x1
   obtain ⟨g1, e1, hA1, hb1, hIc⟩ := hI.out.at (by rw [xl.out]; omega)
   obtain ⟨g2, e2, hA2, hb2, hJc⟩ := hJ.out.at (by rw [hlen.out (by trivial)]; omega)
   subst hA1; subst hA2
   have hIm := hid (hIc M (by rw [xl.out]; exact hml))
   have hJm := hid (hJc M (by rw [hlen.out (by trivial)]; exact hml))
   clear hIc hJc hb1 hb2
   have hiM : (M : Int) < (n : Int) := by omega
   refine wp_mono (stD13 rfl hiM (fun W hW => hS2.out (by trivial) _ _ W (hJ.out.ext hW)) (fun W hW => hS1.out _ _ W (hI.out.ext hW)) (hB2.out (by trivial)) hB1.out hIm.out hJm.out) ?_
   rintro e a' v98 ⟨rfl, B18, B19, v2_, v9_, rfl, x, c14_0, c14_1, fz14_0, fz14_1, z14, c15_0, c15_1, fz15_0, fz15_1, z15, n15_14⟩
   have b18 := hid (show C2 v98 B18 YN YD from ⟨c14_0, c14_1⟩)
   have b19 := hid (show C2 v98 B19 XN XD from ⟨c15_0, c15_1⟩)
   replace X := hid (X.out.trans x); replace hM := hid (hM.out.ext x); replace t := hid (t.out.ext x); replace hI := hid (hI.out.ext x)
   replace b13 := hid (b13.out.ext x); replace b14 := hid (b14.out.ext x); replace hJ := hid (hJ.out.ext x)
   clear x
   obtain ⟨o0, o1⟩ := b18.out; have lo0 := cell_lt o0; dsimp only at lo0
   obtain ⟨o2, o3⟩ := b13.out; have lo2 := cell_lt o2; dsimp only at lo2
   go_wp2_with fail
   refine name_c (fun v16 hv => ?_)
   have x1 : Ext v98 v16 := by rw [hv]; exact exE
   replace X := hid (X.out.trans x1); replace hM := hid (hM.out.ext x1); replace t := hid (t.out.ext x1); replace hI := hid (hI.out.ext x1)
   replace b13 := hid (b13.out.ext x1); replace b14 := hid (b14.out.ext x1); replace hJ := hid (hJ.out.ext x1); replace b18 := hid (b18.out.ext x1)
   replace b19 := hid (b19.out.ext x1)
   clear o0 o1 lo0 o2 o3 lo2
   clear hv x1
   refine (hl2.out _).mono ?_; rintro e u17 ⟨rfl, hE⟩
   replace X := hid (X.out.trans hE); replace hM := hid (hM.out.ext hE); replace t := hid (t.out.ext hE); replace hI := hid (hI.out.ext hE)
   replace b13 := hid (b13.out.ext hE); replace b14 := hid (b14.out.ext hE); replace hJ := hid (hJ.out.ext hE); replace b18 := hid (b18.out.ext hE)
   replace b19 := hid (b19.out.ext hE)
   clear hE
   rw [hy1.out]
   obtain ⟨o0, o1⟩ := b14.out; have lo0 := cell_lt o0; dsimp only at lo0
   obtain ⟨o2, o3⟩ := b18.out; have lo2 := cell_lt o2; dsimp only at lo2
   go_wp2_with fail
   refine name_c (fun v18 hv => ?_)
   have x1 : Ext u17 v18 := by rw [hv]; exact exE
   replace X := hid (X.out.trans x1); replace hM := hid (hM.out.ext x1); replace t := hid (t.out.ext x1); replace hI := hid (hI.out.ext x1)
   replace b13 := hid (b13.out.ext x1); replace b14 := hid (b14.out.ext x1); replace hJ := hid (hJ.out.ext x1); replace b18 := hid (b18.out.ext x1)
   replace b19 := hid (b19.out.ext x1)
   clear o0 o1 lo0 o2 o3 lo2
   clear hv x1
   refine (hl3.out _).mono ?_; rintro e u19 ⟨rfl, hE⟩
   replace X := hid (X.out.trans hE); replace hM := hid (hM.out.ext hE); replace t := hid (t.out.ext hE); replace hI := hid (hI.out.ext hE)
   replace b13 := hid (b13.out.ext hE); replace b14 := hid (b14.out.ext hE); replace hJ := hid (hJ.out.ext hE); replace b18 := hid (b18.out.ext hE)
   replace b19 := hid (b19.out.ext hE)
   clear hE
   rw [hy2.out]
   obtain ⟨o0, o1⟩ := t.out; have lo0 := cell_lt o0; dsimp only at lo0
   go_wp2_with fail
   refine name_c (fun v20 hv => ?_)
   have x1 : Ext u19 v20 := by rw [hv]; exact exE
   replace X := hid (X.out.trans x1); replace hM := hid (hM.out.ext x1); replace t := hid (t.out.ext x1); replace hI := hid (hI.out.ext x1)
   replace b13 := hid (b13.out.ext x1); replace b14 := hid (b14.out.ext x1); replace hJ := hid (hJ.out.ext x1); replace b18 := hid (b18.out.ext x1)
   replace b19 := hid (b19.out.ext x1)
   clear o0 o1 lo0
   clear hv x1
   refine (hD1.out _ _ _ hM.out hI.out).mono ?_; rintro e u21 ⟨rfl, hE⟩
   replace X := hid (X.out.trans hE); replace hM := hid (hM.out.ext hE); replace t := hid (t.out.ext hE); replace hI := hid (hI.out.ext hE)
   replace b13 := hid (b13.out.ext hE); replace b14 := hid (b14.out.ext hE); replace hJ := hid (hJ.out.ext hE); replace b18 := hid (b18.out.ext hE)
   replace b19 := hid (b19.out.ext hE)
   clear hE
   go_wp2_with fail
   refine (works_any _).mono ?_; rintro e w9 ⟨rfl, hE9⟩
   have X9 := hid (X.out.trans (show Ext u21 w9 from exE))
   go_wp2_with fail
   go_ret
   exact ⟨rfl, X9.out⟩
 ·have hne : ¬ cheE l u c s = 0 := by rw [gE]; decide
  have gD := h17.out hne
  rw [hsz.out hne, show nth ([0, 0, 0, 0] : List Int) 0 = 0 from rfl, show nth ([0, 0, 0, 0] : List Int) 1 = 0 from rfl, show nth ([0, 0, 0, 0] : List Int) 2 = 0 from rfl, show nth ([0, 0, 0, 0] : List Int) 3 = 0 from rfl] at hSh
  clear hab hyo hzo hxo hcr h17 hct hsz hlen hB1 hB2 hS1 hS2 hD2 hdt2 hne
  generalize cheE l u c s = EC at *
  generalize desE l u c s x = DE at *
  generalize chpR l u c s = CR at *
  subst gE; subst gD
  have hn2 : (0 : Int) < (n : Int) := by omega
  have e0 : ((n : Int) == 0) = false := by rw [beq_eq_false_iff_ne]; omega
  have e3 : (n : Int) ≠ 0 := by omega
  have e4 : ¬ (n : Int) = 0 := by omega
  go_enter Try.func12, Try.ntmps12
  go_wp2_with fail
  refine (hf.out _ exE).mono ?_; rintro e w1 ⟨rfl, hE⟩
  have X := hid (show Ext w w1 from exE)
  have t := hid (show C2 w1 w.heap.size (u) (c) from ⟨hE.cell (p := ⟨w.heap.size, 0, none⟩) (v := .int .i64 (u)) (by simp [go_sem]), hE.cell (p := ⟨w.heap.size, 1, none⟩) (v := .int .i64 (c)) (by simp [go_sem])⟩)
  replace hM := hid (hM.out.ext X.out)
  obtain ⟨T, hT⟩ : ∃ T, w.heap.size = T := ⟨_, rfl⟩
  rw [hT] at t ⊢
  clear hE hf hT
  go_wp2_with fail
  refine name_c (fun v1 hv => ?_)
  have x1 : Ext w1 v1 := by rw [hv]; exact exE
  replace X := hid (X.out.trans x1); replace hM := hid (hM.out.ext x1); replace t := hid (t.out.ext x1)
  clear hv x1
  refine (hmxx.out _ X.out).mono ?_; rintro e u2 ⟨a1, k1, rfl, hI, hE⟩
  replace X := hid (X.out.trans hE); replace hM := hid (hM.out.ext hE); replace t := hid (t.out.ext hE)
  clear hE
  replace hI := hid hI
  rw [xl.out]
  obtain ⟨o0, o1⟩ := t.out; have lo0 := cell_lt o0; dsimp only at lo0
  go_wp2_with fail
  refine name_c (fun v3 hv => ?_)
  have x1 : Ext u2 v3 := by rw [hv]; exact exE
  replace X := hid (X.out.trans x1); replace hM := hid (hM.out.ext x1); replace t := hid (t.out.ext x1); replace hI := hid (hI.out.ext x1)
  clear o0 o1 lo0
  clear hv x1
  refine (hSh.out _ hM.out).mono ?_; rintro e u4 ⟨rfl, hE⟩
  replace X := hid (X.out.trans hE); replace hM := hid (hM.out.ext hE); replace t := hid (t.out.ext hE); replace hI := hid (hI.out.ext hE)
  clear hE
  obtain ⟨o0, o1⟩ := t.out; have lo0 := cell_lt o0; dsimp only at lo0
  go_wp2_with fail
  refine name_c (fun v5 hv => ?_)
  have x1 : Ext u4 v5 := by rw [hv]; exact exE
  have b13 := hid (show C2 v5 u4.heap.size (0) (0) from ⟨by rw [hv]; simp [go_sem], by rw [hv]; simp [go_sem]⟩)
  have b14 := hid (show C2 v5 (u4.heap.size + 1) (0) (0) from ⟨by rw [hv]; simp [go_sem], by rw [hv]; simp [go_sem]⟩)
  replace X := hid (X.out.trans x1); replace hM := hid (hM.out.ext x1); replace t := hid (t.out.ext x1); replace hI := hid (hI.out.ext x1)
  clear o0 o1 lo0
  clear hv x1
  obtain ⟨Bb13, hBn⟩ : ∃ z, u4.heap.size = z := ⟨_, rfl⟩
  rw [hBn] at b13 b14 ⊢
  clear hBn
  refine (hCh.out _ hM.out).mono ?_; rintro e u6 ⟨a2, k2, rfl, hJ, hE⟩
  replace X := hid (X.out.trans hE); replace hM := hid (hM.out.ext hE); replace t := hid (t.out.ext hE); replace hI := hid (hI.out.ext hE)
  replace b13 := hid (b13.out.ext hE); replace b14 := hid (b14.out.ext hE)
  clear hE
  replace hJ := hid hJ
  obtain ⟨o0, o1⟩ := t.out; have lo0 := cell_lt o0; dsimp only at lo0
  go_wp2_with fail
  refine name_c (fun v7 hv => ?_)
  have x1 : Ext u6 v7 := by rw [hv]; exact exE
  replace X := hid (X.out.trans x1); replace hM := hid (hM.out.ext x1); replace t := hid (t.out.ext x1); replace hI := hid (hI.out.ext x1)
  replace b13 := hid (b13.out.ext x1); replace b14 := hid (b14.out.ext x1); replace hJ := hid (hJ.out.ext x1)
  clear o0 o1 lo0
  clear hv x1
  refine (hD1.out _ _ _ hM.out hI.out).mono ?_; rintro e u8 ⟨rfl, hE⟩
  replace X := hid (X.out.trans hE); replace hM := hid (hM.out.ext hE); replace t := hid (t.out.ext hE); replace hI := hid (hI.out.ext hE)
  replace b13 := hid (b13.out.ext hE); replace b14 := hid (b14.out.ext hE); replace hJ := hid (hJ.out.ext hE)
  clear hE
  go_wp2_with fail
  refine (works_any _).mono ?_; rintro e w9 ⟨rfl, hE9⟩
  have X9 := hid (X.out.trans (show Ext u8 w9 from exE))
  go_wp2_with fail
  go_ret
  exact ⟨rfl, X9.out⟩
end Go.Proofs.Ytpnfhcnnodolbaa
