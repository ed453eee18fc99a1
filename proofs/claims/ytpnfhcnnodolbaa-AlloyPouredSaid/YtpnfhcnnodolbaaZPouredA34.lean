/- Texts of one proof, laid together: LaOa, LaG, LaO. -/
import Derived.Test.YtpnfhcnnodolbaaZB10
import Derived.Test.YtpnfhcnnodolbaaWk
import Derived.Test.YtpnfhcnnodolbaaZPouredA33
namespace Go.Proofs.Ytpnfhcnnodolbaa
set_option linter.unusedVariables false
set_option linter.unusedSimpArgs false
set_option linter.unusedSectionVars false
set_option linter.unnecessarySimpa false
open Go Go.RowKit Game
set_option maxRecDepth 100000
set_option maxHeartbeats 40000000 in
theorem stO14 {A_ : Act} {yB yD yE yF yH yI yJ yK yO yP yQ yR yS yT yU yV yW yX yY yZ zA zB zC zD zE zF zG zH zI zJ zK zL zM zN zO zP zQ zR zS zT zU zV zW zX zY zZ uA uB uC uD uE uF uG uH uI uJ uK uL uM uN uO uP uQ uR uS uT uU uV uW uX uY uZ iA iB iC iD iE iF iG iH iI iJ iK iL iM iN iO iP iQ iR iS iT iU iV iW iX iY iZ oA oB oC oD oE oF oG oH oI oJ oK oL oM oN oO oP oQ oR oS oT oU oV oW oX oY oZ qA qB qC qD qE qF qG qH qI qJ qK qL qM qN qO qP qQ qR qS qT qU qV qW : Value} {l : List Met} {a a1 a2 a3 : Option Addr} {n cap c1 c2 c3 T : Nat} {x1 x2 x3 : List Int} {u c : Int} {s : Bool} {w : World} (hA0_ : A_ = { tmps := #[.slice a n cap, yB, .bool s, yD, yE, yF, .pointer (some ⟨T, 0, none⟩), yH, yI, yJ, yK, .slice a1 n c1, .slice a2 n c2, .slice a3 n c3, yO, yP, yQ, yR, yS, yT, yU, yV, yW, yX, yY, yZ, zA, zB, zC, zD, zE, zF, zG, zH, zI, zJ, zK, zL, zM, zN, zO, zP, zQ, zR, zS, zT, zU, zV, zW, zX, zY, zZ, uA, uB, uC, uD, uE, uF, uG, uH, uI, uJ, uK, uL, uM, uN, uO, uP, uQ, uR, uS, uT, uU, uV, uW, uX, uY, uZ, iA, iB, iC, iD, iE, iF, iG, iH, iI, iJ, iK, iL, iM, iN, iO, iP, iQ, iR, iS, iT, iU, iV, iW, iX, iY, iZ, oA, oB, oC, oD, oE, oF, oG, oH, oI, oJ, oK, oL, oM, oN, oO, oP, oQ, oR, oS, oT, oU, oV, oW, oX, oY, oZ, qA, qB, qC, qD, qE, qF, qG, qH, qI, qJ, qK, qL, qM, qN, qO, qP, qQ, qR, qS, qT, qU, qV, qW], defers := [] }) (hq : FitM l) (hl : l.length ≤ 1000) (iu : I64 u) (ic : I64 c) (fx1 : ∀ i, I64 (nth x1 i)) (lx1 : x1.length ≤ 1000) (fx2 : ∀ i, I64 (nth x2 i)) (lx2 : x2.length ≤ 1000) (fx3 : ∀ i, I64 (nth x3 i)) (lx3 : x3.length ≤ 1000) (hn : l.length = n) (en1 : x1.length = n) (en2 : x2.length = n) (en3 : x3.length = n) (hm : Mts w a l) (ji1 : Ints w a1 x1) (ji2 : Ints w a2 x2) (ji3 : Ints w a3 x3) (t0 : w.cell? ⟨T, 0, none⟩ = some (.int .i64 u)) (t1 : w.cell? ⟨T, 1, none⟩ = some (.int .i64 c)) :
 Code.wp Try.prog (rgn Try.f11 14) (fun e a' w' => e = .normal ∧ a' = ({ tmps := #[.slice a n cap,yB,.bool s,yD,yE,yF,.pointer (some ⟨T, 0, none⟩),yH,yI,yJ,yK,.slice a1 n c1,.slice a2 n c2,.slice a3 n c3,yO,yP,.int .i64 (desE l u c s x1),yR,.int .i64 (desE l u c s x2),yT,.int .i64 (desE l u c s x3),yV,yW,yX,yY,yZ,zA,zB,zC,zD,zE,zF,zG,zH,zI,zJ,zK,zL,zM,zN,zO,zP,zQ,zR,zS,zT,zU,zV,zW,zX,zY,zZ,uA,uB,uC,uD,uE,uF,uG,uH,uI,uJ,uK,uL,uM,uN,uO,uP,uQ,uR,uS,uT,uU,uV,uW,uX,uY,uZ,iA,iB,iC,iD,iE,iF,iG,iH,iI,iJ,iK,iL,iM,iN,iO,iP,iQ,iR,iS,iT,iU,iV,iW,iX,iY,iZ,oA,oB,oC,oD,oE,oF,oG,oH,oI,oJ,oK,oL,oM,oN,oO,oP,oQ,oR,oS,oT,oU,.slice a n cap,.agg #[.int .i64 u, .int .i64 c],.bool s,.slice a1 n c1,.int .i64 (desE l u c s x1),.slice a n cap,.agg #[.int .i64 u, .int .i64 c],.bool s,.slice a2 n c2,.int .i64 (desE l u c s x2),.slice a n cap,.agg #[.int .i64 u, .int .i64 c],.bool s,.slice a3 n c3,.int .i64 (desE l u c s x3),qK,qL,qM,qN,qO,qP,qQ,qR,qS,qT,qU,qV,qW], defers := [] } : Act) ∧ Ext w w') A_ w := by
 conv => arg 2; whnf
 refine st_intro (fun Q2 hQ2 => ?_)
 have hA_ := hid hA0_
 clear hA0_
 have hpan : ∀ c a a' w w', Q2 (.panic c) a w → Q2 (.panic c) a' w' := by rw [hQ2]; rintro c a a' w w' ⟨h, _⟩; cases h
 replace hQ2 := hid hQ2
 replace hq := hid hq
 replace hl := hid hl
 replace iu := hid iu
 replace ic := hid ic
 replace fx1 := hid fx1
 replace lx1 := hid lx1
 replace fx2 := hid fx2
 replace lx2 := hid lx2
 replace fx3 := hid fx3
 replace lx3 := hid lx3
 replace hn := hid hn
 replace en1 := hid en1
 replace en2 := hid en2
 replace en3 := hid en3
 replace hm := hid hm
 replace ji1 := hid ji1
 replace ji2 := hid ji2
 replace ji3 := hid ji3
 have hd1 := hid (fun W h1 h2 => by have := deserves_any l hq.out hl.out a cap u c iu.out ic.out s x1 fx1.out lx1.out a1 c1 W h1 h2; rw [hn.out, en1.out] at this; exact this)
 have hd2 := hid (fun W h1 h2 => by have := deserves_any l hq.out hl.out a cap u c iu.out ic.out s x2 fx2.out lx2.out a2 c2 W h1 h2; rw [hn.out, en2.out] at this; exact this)
 have hd3 := hid (fun W h1 h2 => by have := deserves_any l hq.out hl.out a cap u c iu.out ic.out s x3 fx3.out lx3.out a3 c3 W h1 h2; rw [hn.out, en3.out] at this; exact this)
 have hRD_ := hid (fun w' (x_ : Ext w w') => And.intro (Ext.cell x_ t0) (Ext.cell x_ t1))
 refine wp_region_held_drew (S := fun w' => Ext w w') (by kernel_rfl) exE fun hHeld => ?_
 try simp only [List.append_eq, List.cons_append, List.nil_append]
 refine name_any (fun W0 hW => ?_)
 have s0 : Ext w W0 := by rw [hW]; exact hHeld
 clear hW hHeld
 refine wpF_intro 18 (by kernel_rfl) (fun F hF => ?_)
 replace hF := hid hF
 have N1_0 : ∀ (f_ : Nat) (l_ : Array Bool) (W0 : World) (a_ : Act), f_ = 4 → l_ = #[true, true, true, true, true, true, true, true, true, true, true, true, true, true, false, false, false, false] → a_ = ({ tmps := #[.slice a n cap,yB,.bool s,yD,yE,yF,.pointer (some ⟨T, 0, none⟩),yH,yI,yJ,yK,.slice a1 n c1,.slice a2 n c2,.slice a3 n c3,yO,yP,yQ,yR,yS,yT,yU,yV,yW,yX,yY,yZ,zA,zB,zC,zD,zE,zF,zG,zH,zI,zJ,zK,zL,zM,zN,zO,zP,zQ,zR,zS,zT,zU,zV,zW,zX,zY,zZ,uA,uB,uC,uD,uE,uF,uG,uH,uI,uJ,uK,uL,uM,uN,uO,uP,uQ,uR,uS,uT,uU,uV,uW,uX,uY,uZ,iA,iB,iC,iD,iE,iF,iG,iH,iI,iJ,iK,iL,iM,iN,iO,iP,iQ,iR,iS,iT,iU,iV,iW,iX,iY,iZ,oA,oB,oC,oD,oE,oF,oG,oH,oI,oJ,oK,oL,oM,oN,oO,oP,oQ,oR,oS,oT,oU,.slice a n cap,.agg #[.int .i64 u, .int .i64 c],.bool s,.slice a1 n c1,.int .i64 (desE l u c s x1),.slice a n cap,.agg #[.int .i64 u, .int .i64 c],.bool s,.slice a2 n c2,.int .i64 (desE l u c s x2),.slice a n cap,.agg #[.int .i64 u, .int .i64 c],.bool s,.slice a3 n c3,qJ,qK,qL,qM,qN,qO,qP,qQ,qR,qS,qT,qU,qV,qW], defers := [] } : Act) → Ext w W0 → F f_ l_ a_ W0 := by
  intro  f_ l_ W0 a_ hf_ hl_ ha_ s0
  subst hf_ hl_ ha_
  refine (hF.out _ _ _ _).2 ?_
  refine wpAnyH_ready (rs := [14]) (by kernel_rfl) (by simp) ?_
  refine AllReadyH.cons (o := _) rfl (fun K hK => ?_) AllReadyH.nil
  refine tk_call (by kernel_rfl) (hd3.out _ (hm.out.ext s0) (ji3.out.ext s0)) (by kernel_rfl) ?_; rintro e W1 ⟨rfl, e1⟩; refine ⟨_, rfl, ?_⟩
  have s1 := s0.trans e1
  refine hK.out _ _ s1 (fun _ => ?_)
  clear hK K
  try simp only [sxA, sxB, sxC, Act.put, sxD, sxE, sxF]
  refine tkB (i := 15) (v := ?_) rfl hpan ?yl ?_
  case yl => (intro w hSw; (try dsimp only at hSw);  go_simp); with_reducible rfl
  try simp only [sxA, sxB, sxC, Act.put, sxD, sxE, sxF]
  refine tkB (i := 16) (v := ?_) rfl hpan ?yl ?_
  case yl => (intro w hSw; (try dsimp only at hSw);  go_simp); with_reducible rfl
  try simp only [sxA, sxB, sxC, Act.put, sxD, sxE, sxF]
  refine tkB (i := 17) (v := ?_) rfl hpan ?yl ?_
  case yl => (intro w hSw; (try dsimp only at hSw);  go_simp); with_reducible rfl
  try simp only [sxA, sxB, sxC, Act.put, sxD, sxE, sxF]
  refine wpAnyH_done (by kernel_rfl) ?_ _
  try simp only [sxA, sxB, sxC, Act.put, sxD, sxE, sxF]
  rw [hQ2.out]
  refine ⟨rfl, ?eq1_1, s1⟩
  case eq1_1 => (first | with_reducible rfl | rfl)
 have N1_1 : ∀ (f_ : Nat) (l_ : Array Bool) (W0 : World) (a_ : Act), f_ = 5 → l_ = #[true, true, true, true, true, true, true, true, true, false, true, true, true, true, false, false, false, false] → a_ = ({ tmps := #[.slice a n cap,yB,.bool s,yD,yE,yF,.pointer (some ⟨T, 0, none⟩),yH,yI,yJ,yK,.slice a1 n c1,.slice a2 n c2,.slice a3 n c3,yO,yP,yQ,yR,yS,yT,yU,yV,yW,yX,yY,yZ,zA,zB,zC,zD,zE,zF,zG,zH,zI,zJ,zK,zL,zM,zN,zO,zP,zQ,zR,zS,zT,zU,zV,zW,zX,zY,zZ,uA,uB,uC,uD,uE,uF,uG,uH,uI,uJ,uK,uL,uM,uN,uO,uP,uQ,uR,uS,uT,uU,uV,uW,uX,uY,uZ,iA,iB,iC,iD,iE,iF,iG,iH,iI,iJ,iK,iL,iM,iN,iO,iP,iQ,iR,iS,iT,iU,iV,iW,iX,iY,iZ,oA,oB,oC,oD,oE,oF,oG,oH,oI,oJ,oK,oL,oM,oN,oO,oP,oQ,oR,oS,oT,oU,.slice a n cap,.agg #[.int .i64 u, .int .i64 c],.bool s,.slice a1 n c1,.int .i64 (desE l u c s x1),.slice a n cap,.agg #[.int .i64 u, .int .i64 c],.bool s,.slice a2 n c2,qE,.slice a n cap,.agg #[.int .i64 u, .int .i64 c],.bool s,.slice a3 n c3,qJ,qK,qL,qM,qN,qO,qP,qQ,qR,qS,qT,qU,qV,qW], defers := [] } : Act) → Ext w W0 → F f_ l_ a_ W0 := by
  intro  f_ l_ W0 a_ hf_ hl_ ha_ s0
  subst hf_ hl_ ha_
  refine (hF.out _ _ _ _).2 ?_
  refine wpAnyH_ready (rs := [9]) (by kernel_rfl) (by simp) ?_
  refine AllReadyH.cons (o := _) rfl (fun K hK => ?_) AllReadyH.nil
  refine tk_call (by kernel_rfl) (hd2.out _ (hm.out.ext s0) (ji2.out.ext s0)) (by kernel_rfl) ?_; rintro e W1 ⟨rfl, e1⟩; refine ⟨_, rfl, ?_⟩
  have s1 := s0.trans e1
  refine hK.out _ _ s1 (fun _ => ?_)
  clear hK K
  try simp only [sxA, sxB, sxC, Act.put, sxD, sxE, sxF]
  refine (hF.out _ _ _ _).1 ?_
  exact N1_0 _ _ W1 _ (by first | rfl | kernel_rfl) (by first | rfl | kernel_rfl) (by (try simp only [sxA, sxB, sxC, Act.put, sxD, sxE, sxF]); first | done | with_reducible rfl | rfl) s1
 have N1_2 : ∀ (f_ : Nat) (l_ : Array Bool) (W0 : World) (a_ : Act), f_ = 6 → l_ = #[true, true, true, true, false, true, true, true, true, false, true, true, true, true, false, false, false, false] → a_ = ({ tmps := #[.slice a n cap,yB,.bool s,yD,yE,yF,.pointer (some ⟨T, 0, none⟩),yH,yI,yJ,yK,.slice a1 n c1,.slice a2 n c2,.slice a3 n c3,yO,yP,yQ,yR,yS,yT,yU,yV,yW,yX,yY,yZ,zA,zB,zC,zD,zE,zF,zG,zH,zI,zJ,zK,zL,zM,zN,zO,zP,zQ,zR,zS,zT,zU,zV,zW,zX,zY,zZ,uA,uB,uC,uD,uE,uF,uG,uH,uI,uJ,uK,uL,uM,uN,uO,uP,uQ,uR,uS,uT,uU,uV,uW,uX,uY,uZ,iA,iB,iC,iD,iE,iF,iG,iH,iI,iJ,iK,iL,iM,iN,iO,iP,iQ,iR,iS,iT,iU,iV,iW,iX,iY,iZ,oA,oB,oC,oD,oE,oF,oG,oH,oI,oJ,oK,oL,oM,oN,oO,oP,oQ,oR,oS,oT,oU,.slice a n cap,.agg #[.int .i64 u, .int .i64 c],.bool s,.slice a1 n c1,oZ,.slice a n cap,.agg #[.int .i64 u, .int .i64 c],.bool s,.slice a2 n c2,qE,.slice a n cap,.agg #[.int .i64 u, .int .i64 c],.bool s,.slice a3 n c3,qJ,qK,qL,qM,qN,qO,qP,qQ,qR,qS,qT,qU,qV,qW], defers := [] } : Act) → Ext w W0 → F f_ l_ a_ W0 := by
  intro  f_ l_ W0 a_ hf_ hl_ ha_ s0
  subst hf_ hl_ ha_
  refine (hF.out _ _ _ _).2 ?_
  clear N1_0
  refine wpAnyH_ready (rs := [4]) (by kernel_rfl) (by simp) ?_
  refine AllReadyH.cons (o := _) rfl (fun K hK => ?_) AllReadyH.nil
  refine tk_call (by kernel_rfl) (hd1.out _ (hm.out.ext s0) (ji1.out.ext s0)) (by kernel_rfl) ?_; rintro e W1 ⟨rfl, e1⟩; refine ⟨_, rfl, ?_⟩
  have s1 := s0.trans e1
  refine hK.out _ _ s1 (fun _ => ?_)
  clear hK K
  try simp only [sxA, sxB, sxC, Act.put, sxD, sxE, sxF]
  refine (hF.out _ _ _ _).1 ?_
  exact N1_1 _ _ W1 _ (by first | rfl | kernel_rfl) (by first | rfl | kernel_rfl) (by (try simp only [sxA, sxB, sxC, Act.put, sxD, sxE, sxF]); first | done | with_reducible rfl | rfl) s1
 rw [hA_.out]
 refine (hF.out _ _ _ _).2 ?_
 refine tkB (i := 0) (v := ?_) rfl hpan ?yl ?_
 case yl => (intro w hSw; (try dsimp only at hSw);  go_simp); with_reducible rfl
 try simp only [sxA, sxB, sxC, Act.put, sxD, sxE, sxF]
 refine tkB (i := 1) (v := ?_) rfl hpan ?yl ?_
 case yl => (intro w hSw; have k_ := hRD_.out w hSw; go_simp); with_reducible rfl
 try simp only [sxA, sxB, sxC, Act.put, sxD, sxE, sxF]
 refine tkB (i := 2) (v := ?_) rfl hpan ?yl ?_
 case yl => (intro w hSw; (try dsimp only at hSw);  go_simp); with_reducible rfl
 try simp only [sxA, sxB, sxC, Act.put, sxD, sxE, sxF]
 refine tkB (i := 3) (v := ?_) rfl hpan ?yl ?_
 case yl => (intro w hSw; (try dsimp only at hSw);  go_simp); with_reducible rfl
 try simp only [sxA, sxB, sxC, Act.put, sxD, sxE, sxF]
 refine tkB (i := 5) (v := ?_) rfl hpan ?yl ?_
 case yl => (intro w hSw; (try dsimp only at hSw);  go_simp); with_reducible rfl
 try simp only [sxA, sxB, sxC, Act.put, sxD, sxE, sxF]
 refine tkB (i := 6) (v := ?_) rfl hpan ?yl ?_
 case yl => (intro w hSw; have k_ := hRD_.out w hSw; go_simp); with_reducible rfl
 try simp only [sxA, sxB, sxC, Act.put, sxD, sxE, sxF]
 refine tkB (i := 7) (v := ?_) rfl hpan ?yl ?_
 case yl => (intro w hSw; (try dsimp only at hSw);  go_simp); with_reducible rfl
 try simp only [sxA, sxB, sxC, Act.put, sxD, sxE, sxF]
 refine tkB (i := 8) (v := ?_) rfl hpan ?yl ?_
 case yl => (intro w hSw; (try dsimp only at hSw);  go_simp); with_reducible rfl
 try simp only [sxA, sxB, sxC, Act.put, sxD, sxE, sxF]
 refine tkB (i := 10) (v := ?_) rfl hpan ?yl ?_
 case yl => (intro w hSw; (try dsimp only at hSw);  go_simp); with_reducible rfl
 try simp only [sxA, sxB, sxC, Act.put, sxD, sxE, sxF]
 refine tkB (i := 11) (v := ?_) rfl hpan ?yl ?_
 case yl => (intro w hSw; have k_ := hRD_.out w hSw; go_simp); with_reducible rfl
 try simp only [sxA, sxB, sxC, Act.put, sxD, sxE, sxF]
 refine tkB (i := 12) (v := ?_) rfl hpan ?yl ?_
 case yl => (intro w hSw; (try dsimp only at hSw);  go_simp); with_reducible rfl
 try simp only [sxA, sxB, sxC, Act.put, sxD, sxE, sxF]
 refine tkB (i := 13) (v := ?_) rfl hpan ?yl ?_
 case yl => (intro w hSw; (try dsimp only at hSw);  go_simp); with_reducible rfl
 try simp only [sxA, sxB, sxC, Act.put, sxD, sxE, sxF]
 refine (hF.out _ _ _ _).1 ?_
 exact N1_2 _ _ W0 _ (by first | rfl | kernel_rfl) (by first | rfl | kernel_rfl) (by (try simp only [sxA, sxB, sxC, Act.put, sxD, sxE, sxF]); first | done | with_reducible rfl | rfl) s0

end Go.Proofs.Ytpnfhcnnodolbaa
namespace Go.Proofs.Ytpnfhcnnodolbaa
set_option linter.unusedVariables false
set_option linter.unusedSimpArgs false
set_option linter.unusedSectionVars false
set_option linter.unnecessarySimpa false
open Go Go.RowKit Game
set_option maxRecDepth 100000
theorem greatL_any (a : Option Addr) (cap n : Nat) (a2 : Option Addr) (c2 k : Nat) (hn : n ≤ 9223372036854775807) (hk : k ≤ 9223372036854775807) (w : World) :
 Calls Try.prog 17 #[.slice a n cap, .slice a2 k c2] w fun e w' => e = .returned (.bool (decide (12 < n) || decide (12 < k))) ∧ Ext w w' := by
 by_cases g : 12 < n
 ·have gI : (12 : Int) < (n : Int) := by omega
  have H := hid (show (decide (12 < n) || decide (12 < k)) = true by simp [g])
  go_enter Try.func17, Try.ntmps17
  go_wp2_with fail
  go_ret
  first | exact ⟨ret_bool H.out.symm, exE⟩ | exact ⟨rfl, exE⟩
 ·have gI : ¬ (12 : Int) < (n : Int) := by omega
  by_cases g2 : 12 < k
  ·have gI2 : (12 : Int) < (k : Int) := by omega
   have H := hid (show (decide (12 < n) || decide (12 < k)) = true by simp [g2])
   go_enter Try.func17, Try.ntmps17
   go_wp2_with fail
   go_ret
   first | exact ⟨ret_bool H.out.symm, exE⟩ | exact ⟨rfl, exE⟩
  ·have gI2 : ¬ (12 : Int) < (k : Int) := by omega
   have H := hid (show (decide (12 < n) || decide (12 < k)) = false by simp [g, g2])
   go_enter Try.func17, Try.ntmps17
   go_wp2_with fail
   go_ret
   first | exact ⟨ret_bool H.out.symm, exE⟩ | exact ⟨rfl, exE⟩
set_option maxHeartbeats 800000 in
theorem fineL_any (l : List Met) (q : FitM l) (hl : l.length ≤ 9223372036854775807) (a : Option Addr) (cap : Nat) (u c : Int) (w : World) (hM : Mts w a l) :
 Calls Try.prog 42 #[.slice a l.length cap, (.agg #[.int .i64 (u), .int .i64 (c)])] w fun e w' => e = .returned (.bool (decide (chkB l u c = 0))) ∧ Ext w w' := by
 have hg := hid (fun W => greatL_any a cap l.length none 0 0 hl (by decide) W)
 by_cases g : 12 < l.length
 ·rw [show (decide (12 < l.length) || decide (12 < 0)) = true by simp [g]] at hg
  have H := hid (show decide (chkB l u c = 0) = false by
   rw [decide_eq_false_iff_not]
   intro h
   have := (chkB_ok h).1.n6
   omega)
  replace g := hid g
  go_enter Try.func42, Try.ntmps42
  go_wp2_with fail
  refine (hg.out _).mono ?_; rintro e w1 ⟨rfl, hE⟩
  have x1 : Ext w w1 := exE
  go_wp2_with fail
  go_ret
  exact ⟨ret_bool H.out.symm, exE⟩
 rw [show (decide (12 < l.length) || decide (12 < 0)) = false by simp [g]] at hg
 have hcm := hid (fun W (y : Ext w W) => checkMetalsR_any l q (by omega) a cap W (hM.ext y))
 by_cases g1 : chkM l = 0
 ·rw [g1] at hcm
  have hct := hid (fun W => checkTouchR_any u c W)
  have H := hid (show decide (chkB l u c = 0) = decide (chkU u c = 0) by unfold chkB; rw [if_pos g1])
  obtain ⟨E, hE⟩ : ∃ E, chkU u c = E := ⟨_, rfl⟩
  rw [hE] at hct H
  replace g := hid g
  replace g1 := hid g1
  clear hE q hM
  have H2 := hid (show (E == 0) = decide (E = 0) from rfl)
  go_enter Try.func42, Try.ntmps42
  go_wp2_with fail
  refine (hg.out _).mono ?_; rintro e w1 ⟨rfl, hE⟩
  have t0 := hE.cell (p := ⟨w.heap.size, 0, none⟩) (v := .int .i64 u) (by simp [go_sem])
  have t1 := hE.cell (p := ⟨w.heap.size, 1, none⟩) (v := .int .i64 c) (by simp [go_sem])
  have x1 := hid (show Ext w w1 from exE)
  clear hE
  go_wp2_with fail
  refine (hcm.out _ (by have := x1.out; exact exE)).mono ?_; rintro e w2 ⟨rfl, hE⟩
  replace t0 := hE.cell t0
  replace t1 := hE.cell t1
  have x2 := hid (show Ext w w2 by have := x1.out; exact exE)
  clear hE
  go_wp2_with fail
  refine (hct.out _).mono ?_; rintro e w3 ⟨rfl, hE⟩
  have x3 := hid (show Ext w w3 by have := x2.out; exact exE)
  go_wp2_with fail
  go_ret
  exact ⟨ret_bool (by rw [H.out, ← H2.out]), x3.out⟩
 ·have H := hid (show decide (chkB l u c = 0) = false by rw [decide_eq_false_iff_not]; unfold chkB; rw [if_neg g1]; exact g1)
  have g2 : (chkM l == 0) = false := by rw [beq_eq_false_iff_ne]; exact g1
  obtain ⟨E, hE⟩ : ∃ E, chkM l = E := ⟨_, rfl⟩
  rw [hE] at hcm g2
  replace g := hid g
  replace g1 := hid g1
  clear hE q hM
  go_enter Try.func42, Try.ntmps42
  go_wp2_with fail
  refine (hg.out _).mono ?_; rintro e w1 ⟨rfl, hE⟩
  have x1 := hid (show Ext w w1 from exE)
  clear hE
  go_wp2_with fail
  refine (hcm.out _ (by have := x1.out; exact exE)).mono ?_; rintro e w2 ⟨rfl, hE⟩
  have x2 := hid (show Ext w w2 by have := x1.out; exact exE)
  go_wp2_with fail
  go_ret
  exact ⟨ret_bool H.out.symm, x2.out⟩

end Go.Proofs.Ytpnfhcnnodolbaa
namespace Go.Proofs.Ytpnfhcnnodolbaa
set_option linter.unusedVariables false
set_option linter.unusedSimpArgs false
set_option linter.unusedSectionVars false
set_option linter.unnecessarySimpa false
open Go Go.RowKit Game
set_option maxRecDepth 100000
set_option maxHeartbeats 8000000 in
theorem alloyPoured_any (l : List Met) (q : FitM l) (a : Option Addr) (cap : Nat) (u c : Int) (s : Bool) (p : List Int) (hp : ∀ i, 0 ≤ nth p i ∧ nth p i ≤ 65535) (ap : Option Addr) (cpp : Nat) (p' : List Int) (hp' : ∀ i, 0 ≤ nth p' i ∧ nth p' i ≤ 65535) (ap' : Option Addr) (cpp' : Nat) (w : World) (hM : Mts w a l) (hl : l.length ≤ 9223372036854775807) (iu : I64 u) (ic : I64 c) (hP : Wrds w ap p) (hlp : p.length ≤ 9223372036854775807) (hP' : Wrds w ap' p') (hlp' : p'.length ≤ 9223372036854775807) :
 Calls Try.prog 11 #[.slice a l.length cap, (.agg #[.int .i64 (u), .int .i64 (c)]), .bool s, .slice ap p.length cpp, .slice ap' p'.length cpp'] w fun e w' => e = .returned (.bool true) ∧ Ext w w' := by
 have hf := hid (fun W (x : Ext w W) => fineL_any l q hl a cap u c W (hM.ext x))
 by_cases g : chkB l u c = 0
 case neg =>
  rw [decide_eq_false g] at hf
  replace g := hid g
  clear hM hP hP'
  go_enter Try.func11, Try.ntmps11
  go_wp2_with fail
  refine (hf.out _ exE).mono ?_; rintro e w1 ⟨rfl, hE⟩
  have x1 := hid (show Ext w w1 from exE)
  go_wp2_with fail
  refine (works_any _).mono ?_; rintro e w2 ⟨rfl, hE2⟩
  go_wp2_with fail
  go_ret
  exact ⟨rfl, by have := x1.out; exact exE⟩
 rw [decide_eq_true g] at hf
 by_cases gp : 20 < p.length
 ·have gI : (20 : Int) < (p.length : Int) := by omega
  replace g := hid g
  clear hM hP hP'
  go_enter Try.func11, Try.ntmps11
  go_wp2_with fail
  refine (hf.out _ exE).mono ?_; rintro e w1 ⟨rfl, hE⟩
  have x1 := hid (show Ext w w1 from exE)
  go_wp2_with fail
  refine (works_any _).mono ?_; rintro e w2 ⟨rfl, hE2⟩
  go_wp2_with fail
  go_ret
  exact ⟨rfl, by have := x1.out; exact exE⟩
 have gI : ¬ (20 : Int) < (p.length : Int) := by omega
 by_cases gp' : 20 < p'.length
 ·have gI' : (20 : Int) < (p'.length : Int) := by omega
  replace g := hid g
  clear hM hP hP'
  go_enter Try.func11, Try.ntmps11
  go_wp2_with fail
  refine (hf.out _ exE).mono ?_; rintro e w1 ⟨rfl, hE⟩
  have x1 := hid (show Ext w w1 from exE)
  go_wp2_with fail
  refine (works_any _).mono ?_; rintro e w2 ⟨rfl, hE2⟩
  go_wp2_with fail
  go_ret
  exact ⟨rfl, by have := x1.out; exact exE⟩
 have gI' : ¬ (20 : Int) < (p'.length : Int) := by omega
 obtain ⟨v, hu, hc⟩ := chkB_ok g
 have n1 := v.n1; have n6 := v.n6
 have hl2 : l.length ≤ 1000 := by omega
 have hmx := hid (fun W (x : Ext w W) => mixedL_any l.length n6 p hp hlp ap cpp W (hP.ext x))
 have hmx' := hid (fun W (x : Ext w W) => mixedL_any l.length n6 p' hp' hlp' ap' cpp' W (hP'.ext x))
 have hcm : chkM l = 0 := by by_cases h : chkM l = 0; exact h; (unfold chkB at g; rw [if_neg h] at g; exact absurd g h)
 have v1 := pln_vld (m := l.length) hp n1
 have v2 := pln_vld (m := l.length) hp' n1
 have le1 := pln_le (m := l.length) hp
 have le2 := pln_le (m := l.length) hp'
 obtain ⟨x, hx⟩ : ∃ x, pln l.length p = x := ⟨_, rfl⟩
 obtain ⟨y, hy⟩ : ∃ x, pln l.length p' = x := ⟨_, rfl⟩
 rw [hx] at hmx v1 le1
 rw [hy] at hmx' v2 le2
 have v3 := ad_vld v1 v2 le1 le2
 have c1 := cost_3 hcm (mixE_ok.2 v1)
 have c2 := cost_3 hcm (mixE_ok.2 v2)
 have c3 := cost_3 hcm (mixE_ok.2 v3)
 have fx : Hid (∀ i, I64 (nth x i)) := hid fun i => ⟨by have := v1.nn i; omega, by have := v1.le i; omega⟩
 have fy : Hid (∀ i, I64 (nth y i)) := hid fun i => ⟨by have := v2.nn i; omega, by have := v2.le i; omega⟩
 have fz : Hid (∀ i, I64 (nth (adL l.length x y) i)) := hid fun i => ⟨by have := v3.nn i; omega, by have := v3.le i; omega⟩
 have k1 := cost_small v v1 (psum_le n6 v1.len v1.le v1.nn)
 have k2 := cost_small v v2 (psum_le n6 v2.len v2.le v2.nn)
 have k3 := cost_small v v3 (psum_le n6 v3.len v3.le v3.nn)
 have hbx := hid (And.intro v1.nn le1); have hby := hid (And.intro v2.nn le2)
 have e3 : costN l (adL l.length x y) l.length = costN l x l.length + costN l y l.length := adS x y (fun i => (mtl l i).p)
 have e4 := ad_sum v1.len v2.len
 have hmed := med_lt (p := costN l x l.length) (r := costN l y l.length) v1.ps v2.ps
 have h31 := rat_lt (p := costN l (adL l.length x y) l.length) (r := costN l x l.length) v3.ps v1.ps
 have h32 := rat_lt (p := costN l (adL l.length x y) l.length) (r := costN l y l.length) v3.ps v2.ps
 have h13 := rat_lt (p := costN l x l.length) (r := costN l (adL l.length x y) l.length) v1.ps v3.ps
 have h23 := rat_lt (p := costN l y l.length) (r := costN l (adL l.length x y) l.length) v2.ps v3.ps
 rw [← c1.2.1, ← c1.2.2] at k1
 rw [← c2.2.1, ← c2.2.2] at k2
 rw [← c3.2.1, ← c3.2.2] at k3
 rw [← c1.2.1, ← c1.2.2, ← c3.2.1, ← c3.2.2] at h31 h13
 rw [← c2.2.1, ← c2.2.2, ← c3.2.1, ← c3.2.2] at h32 h23
 rw [e3, e4] at h31 h32 h13 h23
 have hdx : desE l u c s x = if isG l u c s x = true then 0 else 17 := by unfold desE; rw [if_neg (by rw [g]; decide), if_neg (by rw [mixE_ok.2 v1]; decide)]
 have hdy : desE l u c s y = if isG l u c s y = true then 0 else 17 := by unfold desE; rw [if_neg (by rw [g]; decide), if_neg (by rw [mixE_ok.2 v2]; decide)]
 have hdz : desE l u c s (adL l.length x y) = if isG l u c s (adL l.length x y) = true then 0 else 17 := by unfold desE; rw [if_neg (by rw [g]; decide), if_neg (by rw [mixE_ok.2 v3]; decide)]
 have hdd : Hid (desE l u c s x ≠ 0 ∨ desE l u c s y ≠ 0 ∨ desE l u c s (adL l.length x y) = 0) := hid (by
  by_cases g1 : isG l u c s x = true
  ·by_cases g2 : isG l u c s y = true
   ·right; right; rw [hdz, if_pos (ad_good v1.len v2.len g1 g2)]
   ·right; left; rw [hdy, if_neg g2]; decide
  ·left; rw [hdx, if_neg g1]; decide)
 have hless : Hid (∀ A B : Bool, lessB (costNE l (adL l.length x y)) (costDE l (adL l.length x y)) (costNE l x) (costDE l x) = A → lessB (costNE l x) (costDE l x) (costNE l (adL l.length x y)) (costDE l (adL l.length x y)) = B → (A = true → lessB (costNE l (adL l.length x y)) (costDE l (adL l.length x y)) (costNE l y) (costDE l y) = false) ∧ (B = true → lessB (costNE l y) (costDE l y) (costNE l (adL l.length x y)) (costDE l (adL l.length x y)) = false)) := hid fun A B hA hB => by
  rw [h31] at hA; rw [h13] at hB; rw [h32, h23]
  refine ⟨fun h => ?_, fun h => ?_⟩
  ·rw [h] at hA; rw [decide_eq_true_eq] at hA; rw [decide_eq_false_iff_not]; exact fun h' => hmed.1 ⟨hA, h'⟩
  ·rw [h] at hB; rw [decide_eq_true_eq] at hB; rw [decide_eq_false_iff_not]; exact fun h' => hmed.2 ⟨hB, h'⟩
 have m31 := hid (fun W => lessR_any _ _ _ _ (OkS.mul k3 k1) (OkS.mul k1 k3) W)
 have m13 := hid (fun W => lessR_any _ _ _ _ (OkS.mul k1 k3) (OkS.mul k3 k1) W)
 have m32 := hid (fun W => lessR_any _ _ _ _ (OkS.mul k3 k2) (OkS.mul k2 k3) W)
 have m23 := hid (fun W => lessR_any _ _ _ _ (OkS.mul k2 k3) (OkS.mul k3 k2) W)
 have s1 := hid (fun W => smallL_any _ _ k1 W)
 have s2 := hid (fun W => smallL_any _ _ k2 W)
 have s3 := hid (fun W => smallL_any _ _ k3 W)
 have hxl := hid v1.len; have hyl := hid v2.len
 have hzl := hid (adL_len l.length x y)
 have z1 := hid c1.1; have z2 := hid c2.1; have z3 := hid c3.1
 have hst : Hid (∀ n, mkL (n + 1) (fun i => nth x i + nth y i) = mkL n (fun i => nth x i + nth y i) ++ [nth x n + nth y n]) := hid fun n => mkL_snoc n _
 have hend : Hid (mkL l.length (fun i => nth x i + nth y i) = adL l.length x y) := hid rfl
 obtain ⟨z, hz⟩ : ∃ z, adL l.length x y = z := ⟨_, rfl⟩
 rw [hz] at hless hdd m31 m13 m32 m23 s3 hzl z3 hend fz
 have hxl2 : x.length ≤ 1000 := by rw [hxl.out]; omega
 have hyl2 : y.length ≤ 1000 := by rw [hyl.out]; omega
 have hzl2 : z.length ≤ 1000 := by rw [hzl.out]; omega
 replace hM := hid hM
 have hq := hid q
 replace g := hid g
 clear q v hu hc hcm v1 v2 v3 le1 le2 hx hy hP hP' c1 c2 c3 k1 k2 k3 e3 e4 hmed h31 h32 h13 h23 hdx hdy hdz hz gp gp'
 obtain ⟨n, hn⟩ : ∃ n, l.length = n := ⟨_, rfl⟩
 have hC1 := hid (fun a1 c1 W h1 h2 => by have := costC_any l hq.out hl2 a cap x fx.out hxl2 a1 c1 W h1 h2; rw [hxl.out, hn, z1.out] at this; exact this)
 have hC2 := hid (fun a1 c1 W h1 h2 => by have := costC_any l hq.out hl2 a cap y fy.out hyl2 a1 c1 W h1 h2; rw [hyl.out, hn, z2.out] at this; exact this)
 have hC3 := hid (fun a1 c1 W h1 h2 => by have := costC_any l hq.out hl2 a cap z fz.out hzl2 a1 c1 W h1 h2; rw [hzl.out, hn, z3.out] at this; exact this)
 rw [hn] at hf hmx hmx' n1 n6 hxl hyl hzl hend ⊢
 replace hn := hid hn
 go_enter Try.func11, Try.ntmps11
 go_wp2_with fail
 refine (hf.out _ exE).mono ?_; rintro e w1 ⟨rfl, hE⟩
 have X := hid (show Ext w w1 from exE)
 have t0 := hid (hE.cell (p := ⟨w.heap.size, 0, none⟩) (v := .int .i64 u) (by simp [go_sem]))
 have t1 := hid (hE.cell (p := ⟨w.heap.size, 1, none⟩) (v := .int .i64 c) (by simp [go_sem]))
 obtain ⟨T, hT⟩ : ∃ T, w.heap.size = T := ⟨_, rfl⟩
 rw [hT] at t0 t1 ⊢
 clear hE hf hT
 go_wp2_with fail
 refine (hmx.out _ (by have := X.out; exact exE)).mono ?_; rintro e w2 ⟨a1, c1, rfl, hI, hE⟩
 have x2 : Ext w1 w2 := exE
 replace t0 := hid (x2.cell t0.out); replace t1 := hid (x2.cell t1.out)
 replace X := hid (X.out.trans x2)
 replace hI := hid hI
 rw [hxl.out]
 clear hE x2 hmx
 go_wp2_with fail
 refine (hmx'.out _ (by have := X.out; exact exE)).mono ?_; rintro e w3 ⟨a2, c2, rfl, hJ, hE⟩
 have x3 : Ext w2 w3 := exE
 replace t0 := hid (x3.cell t0.out); replace t1 := hid (x3.cell t1.out)
 replace X := hid (X.out.trans x3)
 replace hM := hid (hM.out.ext X.out)
 replace hI := hid (hI.out.ext x3)
 replace hJ := hid hJ
 rw [hyl.out]
 clear hE x3 hmx'
 obtain ⟨b1, o1, ha1, hb1, hIc⟩ := hI.out.at (by rw [hxl.out]; omega)
 obtain ⟨b2, o2, ha2, hb2, hJc⟩ := hJ.out.at (by rw [hyl.out]; omega)
 subst ha1
 subst ha2
 replace hIc := hid hIc
 replace hJc := hid hJc
 rw [hxl.out] at hIc
 rw [hyl.out] at hJc
 go_wp2_with fail
 go_loopw [13, 14] (fun r i wr => ∃ j : Nat, j ≤ n ∧ i = .int .i64 j ∧ Hid (OwnI wr w3.heap.size 2 r (mkL j (fun i => nth x i + nth y i))) ∧ Hid (Ext w3 wr)) (fun _ i _ => (n - intOf i).toNat)
 case atStart => exact ⟨0, by omega, rfl, hid (OwnI.nil _ _ _), hid (Ext.refl _)⟩
 case round =>
  obtain ⟨j, hj, rfl, ho, hxx⟩ := hrel
  by_cases hjl : j < n
  ·have r1 := hIc.out j hjl
   have r2 := hJc.out j hjl
   have hlen := hid (mkL_len j (fun i => nth x i + nth y i))
   have hsr := hid (hst.out j)
   have q1 := hbx.out.1 j; have q2 := hbx.out.2 j; have q3 := hby.out.1 j; have q4 := hby.out.2 j
   have u3 := Go.IntWalk.i64_in ((j : Int) + 1) (by omega)
   have hjl2 : (j : Int) < (n : Int) := by omega
   have hbw1 := cell_lt r1; have hbw2 := cell_lt r2
   dsimp only at hbw1 hbw2
   obtain ⟨y1, hy1⟩ : ∃ y, nth x j = y := ⟨_, rfl⟩
   obtain ⟨y2, hy2⟩ : ∃ z, nth y j = z := ⟨_, rfl⟩
   rw [hy1] at r1 hsr q1 q2
   rw [hy2] at r2 hsr q3 q4
   have z1' := Go.IntWalk.i64_in (y1 + y2) (by omega)
   clear hy1 hy2 q1 q2 q3 q4
   go_wp2_with fail
   have hx3 := hxx.out
   refine wp_mono (Q := calmS _) ?_ calmS_of
   refine wp_region_held_drew (S := fun w' => Ext w3 w') (by kernel_rfl) exE fun hHeld => ?_
   (refine tkA (i := 0) (v := ?_) rfl (fun _ _ _ h => h) (Or.inl ⟨by rfl, ?yl⟩) (by assumption) ?_; (case yl => ((intro w hSw; (try dsimp only at hSw); have kk0 := hSw.cell r1; have kk1 := hSw.cell r2; go_simp); with_reducible rfl)); (try simp only [sxA, sxB, sxC, Act.put, sxD, sxE, sxF]))
   (refine tkA (i := 1) (v := ?_) rfl (fun _ _ _ h => h) (Or.inl ⟨by rfl, ?yl⟩) (by assumption) ?_; (case yl => ((intro w hSw; (try dsimp only at hSw); have kk0 := hSw.cell r1; have kk1 := hSw.cell r2; go_simp); with_reducible rfl)); (try simp only [sxA, sxB, sxC, Act.put, sxD, sxE, sxF]))
   (refine tkA (i := 2) (v := ?_) rfl (fun _ _ _ h => h) (Or.inl ⟨by rfl, ?yl⟩) (by assumption) ?_; (case yl => ((intro w hSw; (try dsimp only at hSw); have kk0 := hSw.cell r1; have kk1 := hSw.cell r2; go_simp); with_reducible rfl)); (try simp only [sxA, sxB, sxC, Act.put, sxD, sxE, sxF]))
   (refine tkA (i := 3) (v := ?_) rfl (fun _ _ _ h => h) (Or.inl ⟨by rfl, ?yl⟩) (by assumption) ?_; (case yl => ((intro w hSw; (try dsimp only at hSw); have kk0 := hSw.cell r1; have kk1 := hSw.cell r2; go_simp); with_reducible rfl)); (try simp only [sxA, sxB, sxC, Act.put, sxD, sxE, sxF]))
   (refine tkA (i := 4) (v := ?_) rfl (fun _ _ _ h => h) (Or.inl ⟨by rfl, ?yl⟩) (by assumption) ?_; (case yl => ((intro w hSw; (try dsimp only at hSw); have kk0 := hSw.cell r1; have kk1 := hSw.cell r2; go_simp); with_reducible rfl)); (try simp only [sxA, sxB, sxC, Act.put, sxD, sxE, sxF]))
   (refine tkA (i := 5) (v := ?_) rfl (fun _ _ _ h => h) (Or.inl ⟨by rfl, ?yl⟩) (by assumption) ?_; (case yl => ((intro w hSw; (try dsimp only at hSw); have kk0 := hSw.cell r1; have kk1 := hSw.cell r2; go_simp); with_reducible rfl)); (try simp only [sxA, sxB, sxC, Act.put, sxD, sxE, sxF]))
   (refine tkA (i := 6) (v := ?_) rfl (fun _ _ _ h => h) (Or.inl ⟨by rfl, ?yl⟩) (by assumption) ?_; (case yl => ((intro w hSw; (try dsimp only at hSw); have kk0 := hSw.cell r1; have kk1 := hSw.cell r2; go_simp); with_reducible rfl)); (try simp only [sxA, sxB, sxC, Act.put, sxD, sxE, sxF]))
   (refine tkA (i := 7) (v := ?_) rfl (fun _ _ _ h => h) (Or.inl ⟨by rfl, ?yl⟩) (by assumption) ?_; (case yl => ((intro w hSw; (try dsimp only at hSw); have kk0 := hSw.cell r1; have kk1 := hSw.cell r2; go_simp); with_reducible rfl)); (try simp only [sxA, sxB, sxC, Act.put, sxD, sxE, sxF]))
   (refine tkA (i := 8) (v := ?_) rfl (fun _ _ _ h => h) (Or.inl ⟨by rfl, ?yl⟩) (by assumption) ?_; (case yl => ((intro w hSw; (try dsimp only at hSw); have kk0 := hSw.cell r1; have kk1 := hSw.cell r2; go_simp); with_reducible rfl)); (try simp only [sxA, sxB, sxC, Act.put, sxD, sxE, sxF]))
   (refine tkA (i := 9) (v := ?_) rfl (fun _ _ _ h => h) (Or.inl ⟨by rfl, ?yl⟩) (by assumption) ?_; (case yl => ((intro w hSw; (try dsimp only at hSw); have kk0 := hSw.cell r1; have kk1 := hSw.cell r2; go_simp); with_reducible rfl)); (try simp only [sxA, sxB, sxC, Act.put, sxD, sxE, sxF]))
   (refine wpAnyH_ready (rs := [10]) (by kernel_rfl) (by simp) ?_; refine AllReadyH.cons (o := _) rfl (fun K hK => ?_) AllReadyH.nil)
   go_simp
   refine hK.out _ _ exE (fun hHeld => ?_)
   clear hK K
   (try simp only [sxA, sxB, sxC, Act.put, sxD, sxE, sxF])
   (refine wpAnyH_ready (rs := [11]) (by kernel_rfl) (by simp) ?_; refine AllReadyH.cons (o := _) rfl (fun K hK => ?_) AllReadyH.nil)
   rw [if_pos (by rfl)]
   refine appI_wp _ _ _ rfl 2 Try.underlying25 elemI64 w3.heap.size (mkL j (fun i => nth x i + nth y i)) [y1 + y2] _ rfl _ 1 rfl ?c0 ?c1 (by simp) ?c2 ?c3 ?_
   case c0 => exact ho.out.ext exE
   case c1 => exact lit1 rfl
   case c2 => rw [hlen.out]; simp; omega
   case c3 => have := Ext.size hxx.out; simp; omega
   intro b9 cp9 w9 own9 ext9 hb9
   have own9 := hid own9
   have hE9 := hid (ext9 w3 (by have := hxx.out; exact exE) (Nat.le_refl _))
   refine hK.out _ _ hE9.out (fun hHeld => ?_)
   clear hK K
   (try simp only [sxA, sxB, sxC, Act.put, sxD, sxE, sxF])
   (refine tkA (i := 12) (v := ?_) rfl (fun _ _ _ h => h) (Or.inl ⟨by rfl, ?yl⟩) (by assumption) ?_; (case yl => ((intro w hSw; (try dsimp only at hSw); have kk0 := hSw.cell r1; have kk1 := hSw.cell r2; go_simp); with_reducible rfl)); (try simp only [sxA, sxB, sxC, Act.put, sxD, sxE, sxF]))
   refine wpAnyH_done (by kernel_rfl) ?_ _
   simp only [calmS]
   go_wp2_with fail
   go_roundw
   case rel => exact ⟨j + 1, by omega, by go_num, hid (by rw [hsr.out]; have h := own9.out; simp only [List.length_append, List.length_singleton] at h; exact h), hE9⟩
   case measure => simp [intOf]; omega
  ·have hjn : j = n := by omega
   subst hjn
   have ho2 := ho.out
   rw [hend.out] at ho2
   obtain ⟨a3, c3, rfl, hK⟩ := ho2.slice
   have hK := hid hK
   replace t0 := hid (hxx.out.cell t0.out); replace t1 := hid (hxx.out.cell t1.out)
   replace X := hid (X.out.trans hxx.out)
   replace hM := hid (hM.out.ext hxx.out)
   replace hI := hid (hI.out.ext hxx.out)
   replace hJ := hid (hJ.out.ext hxx.out)
   rw [hzl.out]
   obtain ⟨N1, hN1⟩ : ∃ z, costNE l x = z := ⟨_, rfl⟩
   obtain ⟨D1, hD1⟩ : ∃ z, costDE l x = z := ⟨_, rfl⟩
   obtain ⟨N2, hN2⟩ : ∃ z, costNE l y = z := ⟨_, rfl⟩
   obtain ⟨D2, hD2⟩ : ∃ z, costDE l y = z := ⟨_, rfl⟩
   obtain ⟨N3, hN3⟩ : ∃ q, costNE l z = q := ⟨_, rfl⟩
   obtain ⟨D3, hD3⟩ : ∃ q, costDE l z = q := ⟨_, rfl⟩
   rw [hN1, hD1] at hC1 hless m31 m13 s1
   rw [hN2, hD2] at hC2 hless m32 m23 s2
   rw [hN3, hD3] at hC3 hless m31 m13 m32 m23 s3
   clear hN1 hD1 hN2 hD2 hN3 hD3
   obtain ⟨A, hA⟩ : ∃ A, lessB N3 D3 N1 D1 = A := ⟨_, rfl⟩
   obtain ⟨B, hB⟩ : ∃ A, lessB N1 D1 N3 D3 = A := ⟨_, rfl⟩
   have hl3 := hless.out A B hA hB
   rw [hA] at m31
   rw [hB] at m13
   have hlA := hid hl3.1
   have hlB := hid hl3.2
   clear hA hB hless hl3 ho2
   go_wp2_with fail
   refine (hC1.out _ _ _ (hM.out.ext exE) (hI.out.ext exE)).mono ?_; rintro e u1 ⟨rfl, hE⟩
   have x1 : Ext wr u1 := exE
   replace hM := hid (hM.out.ext x1)
   replace hI := hid (hI.out.ext x1)
   replace hJ := hid (hJ.out.ext x1)
   replace hK := hid (hK.out.ext x1)
   replace t0 := hid (x1.cell t0.out)
   replace t1 := hid (x1.cell t1.out)
   replace X := hid (X.out.trans x1)
   clear hE x1
   go_wp2_with fail
   refine name_c (fun v1 hv => ?_)
   have y1 : Ext u1 v1 := by rw [hv]; exact exE
   have b15_0 := hid (show v1.cell? ⟨u1.heap.size, 0, none⟩ = some (.int .i64 (N1)) by rw [hv]; simp [go_sem])
   have b15_1 := hid (show v1.cell? ⟨u1.heap.size, 1, none⟩ = some (.int .i64 (D1)) by rw [hv]; simp [go_sem])
   replace hM := hid (hM.out.ext y1)
   replace hI := hid (hI.out.ext y1)
   replace hJ := hid (hJ.out.ext y1)
   replace hK := hid (hK.out.ext y1)
   replace t0 := hid (y1.cell t0.out)
   replace t1 := hid (y1.cell t1.out)
   replace X := hid (X.out.trans y1)
   obtain ⟨B15, hB15⟩ : ∃ B, u1.heap.size = B := ⟨_, rfl⟩
   rw [hB15] at b15_0 b15_1 ⊢
   replace hB15 := hid hB15
   clear hv y1
   refine (hC2.out _ _ _ (hM.out.ext exE) (hJ.out.ext exE)).mono ?_; rintro e u2 ⟨rfl, hE⟩
   have x2 : Ext v1 u2 := exE
   replace hM := hid (hM.out.ext x2)
   replace hI := hid (hI.out.ext x2)
   replace hJ := hid (hJ.out.ext x2)
   replace hK := hid (hK.out.ext x2)
   replace t0 := hid (x2.cell t0.out)
   replace t1 := hid (x2.cell t1.out)
   replace b15_0 := hid (x2.cell b15_0.out)
   replace b15_1 := hid (x2.cell b15_1.out)
   replace X := hid (X.out.trans x2)
   clear hE x2
   go_wp2_with fail
   refine name_c (fun v2 hv => ?_)
   have y2 : Ext u2 v2 := by rw [hv]; exact exE
   have b17_0 := hid (show v2.cell? ⟨u2.heap.size, 0, none⟩ = some (.int .i64 (N2)) by rw [hv]; simp [go_sem])
   have b17_1 := hid (show v2.cell? ⟨u2.heap.size, 1, none⟩ = some (.int .i64 (D2)) by rw [hv]; simp [go_sem])
   replace hM := hid (hM.out.ext y2)
   replace hI := hid (hI.out.ext y2)
   replace hJ := hid (hJ.out.ext y2)
   replace hK := hid (hK.out.ext y2)
   replace t0 := hid (y2.cell t0.out)
   replace t1 := hid (y2.cell t1.out)
   replace b15_0 := hid (y2.cell b15_0.out)
   replace b15_1 := hid (y2.cell b15_1.out)
   replace X := hid (X.out.trans y2)
   obtain ⟨B17, hB17⟩ : ∃ B, u2.heap.size = B := ⟨_, rfl⟩
   rw [hB17] at b17_0 b17_1 ⊢
   replace hB17 := hid hB17
   clear hv y2
   refine (hC3.out _ _ _ (hM.out.ext exE) (hK.out.ext exE)).mono ?_; rintro e u3 ⟨rfl, hE⟩
   have x3 : Ext v2 u3 := exE
   replace hM := hid (hM.out.ext x3)
   replace hI := hid (hI.out.ext x3)
   replace hJ := hid (hJ.out.ext x3)
   replace hK := hid (hK.out.ext x3)
   replace t0 := hid (x3.cell t0.out)
   replace t1 := hid (x3.cell t1.out)
   replace b15_0 := hid (x3.cell b15_0.out)
   replace b15_1 := hid (x3.cell b15_1.out)
   replace b17_0 := hid (x3.cell b17_0.out)
   replace b17_1 := hid (x3.cell b17_1.out)
   replace X := hid (X.out.trans x3)
   clear hE x3
   go_upto_region 12 with (fail)
   refine name_wp (fun v3 hv => ?_)
   have y3 : Ext u3 v3 := by rw [hv]; exact exE
   have b19_0 := hid (show v3.cell? ⟨u3.heap.size, 0, none⟩ = some (.int .i64 (N3)) by rw [hv]; simp [go_sem])
   have b19_1 := hid (show v3.cell? ⟨u3.heap.size, 1, none⟩ = some (.int .i64 (D3)) by rw [hv]; simp [go_sem])
   replace hM := hid (hM.out.ext y3)
   replace hI := hid (hI.out.ext y3)
   replace hJ := hid (hJ.out.ext y3)
   replace hK := hid (hK.out.ext y3)
   replace t0 := hid (y3.cell t0.out)
   replace t1 := hid (y3.cell t1.out)
   replace b15_0 := hid (y3.cell b15_0.out)
   replace b15_1 := hid (y3.cell b15_1.out)
   replace b17_0 := hid (y3.cell b17_0.out)
   replace b17_1 := hid (y3.cell b17_1.out)
   replace X := hid (X.out.trans y3)
   obtain ⟨B19, hB19⟩ : ∃ B, u3.heap.size = B := ⟨_, rfl⟩
   rw [hB19] at b19_0 b19_1 ⊢
   replace hB19 := hid hB19
   clear hv y3
   have r150 := b15_0.out; have r151 := b15_1.out; have q15 := cell_lt r150; dsimp only at q15
   have r170 := b17_0.out; have r171 := b17_1.out; have q17 := cell_lt r170; dsimp only at q17
   have r190 := b19_0.out; have r191 := b19_1.out; have q19 := cell_lt r190; dsimp only at q19
   go_wp2_with fail
   refine (s1.out _).mono ?_; rintro e u4 ⟨rfl, hE⟩
   have x4 : Ext v3 u4 := exE
   clear r150 r151 q15 r170 r171 q17 r190 r191 q19
   replace hM := hid (hM.out.ext x4)
   replace hI := hid (hI.out.ext x4)
   replace hJ := hid (hJ.out.ext x4)
   replace hK := hid (hK.out.ext x4)
   replace t0 := hid (x4.cell t0.out)
   replace t1 := hid (x4.cell t1.out)
   replace b15_0 := hid (x4.cell b15_0.out)
   replace b15_1 := hid (x4.cell b15_1.out)
   replace b17_0 := hid (x4.cell b17_0.out)
   replace b17_1 := hid (x4.cell b17_1.out)
   replace b19_0 := hid (x4.cell b19_0.out)
   replace b19_1 := hid (x4.cell b19_1.out)
   replace X := hid (X.out.trans x4)
   clear hE x4
   have r150 := b15_0.out; have r151 := b15_1.out; have q15 := cell_lt r150; dsimp only at q15
   have r170 := b17_0.out; have r171 := b17_1.out; have q17 := cell_lt r170; dsimp only at q17
   have r190 := b19_0.out; have r191 := b19_1.out; have q19 := cell_lt r190; dsimp only at q19
   go_wp2_with fail
   refine (s2.out _).mono ?_; rintro e u5 ⟨rfl, hE⟩
   have x5 : Ext u4 u5 := exE
   clear r150 r151 q15 r170 r171 q17 r190 r191 q19
   replace hM := hid (hM.out.ext x5)
   replace hI := hid (hI.out.ext x5)
   replace hJ := hid (hJ.out.ext x5)
   replace hK := hid (hK.out.ext x5)
   replace t0 := hid (x5.cell t0.out)
   replace t1 := hid (x5.cell t1.out)
   replace b15_0 := hid (x5.cell b15_0.out)
   replace b15_1 := hid (x5.cell b15_1.out)
   replace b17_0 := hid (x5.cell b17_0.out)
   replace b17_1 := hid (x5.cell b17_1.out)
   replace b19_0 := hid (x5.cell b19_0.out)
   replace b19_1 := hid (x5.cell b19_1.out)
   replace X := hid (X.out.trans x5)
   clear hE x5
   have r150 := b15_0.out; have r151 := b15_1.out; have q15 := cell_lt r150; dsimp only at q15
   have r170 := b17_0.out; have r171 := b17_1.out; have q17 := cell_lt r170; dsimp only at q17
   have r190 := b19_0.out; have r191 := b19_1.out; have q19 := cell_lt r190; dsimp only at q19
   go_wp2_with fail
   refine (s3.out _).mono ?_; rintro e u6 ⟨rfl, hE⟩
   have x6 : Ext u5 u6 := exE
   clear r150 r151 q15 r170 r171 q17 r190 r191 q19
   replace hM := hid (hM.out.ext x6)
   replace hI := hid (hI.out.ext x6)
   replace hJ := hid (hJ.out.ext x6)
   replace hK := hid (hK.out.ext x6)
   replace t0 := hid (x6.cell t0.out)
   replace t1 := hid (x6.cell t1.out)
   replace b15_0 := hid (x6.cell b15_0.out)
   replace b15_1 := hid (x6.cell b15_1.out)
   replace b17_0 := hid (x6.cell b17_0.out)
   replace b17_1 := hid (x6.cell b17_1.out)
   replace b19_0 := hid (x6.cell b19_0.out)
   replace b19_1 := hid (x6.cell b19_1.out)
   replace X := hid (X.out.trans x6)
   clear hE x6
   have r150 := b15_0.out; have r151 := b15_1.out; have q15 := cell_lt r150; dsimp only at q15
   have r170 := b17_0.out; have r171 := b17_1.out; have q17 := cell_lt r170; dsimp only at q17
   have r190 := b19_0.out; have r191 := b19_1.out; have q19 := cell_lt r190; dsimp only at q19
   go_wp2_with fail
   cases A with
   | false =>
    refine (m31.out _).mono ?_; rintro e u7 ⟨rfl, hE⟩
    have x7 : Ext u6 u7 := exE
    clear r150 r151 q15 r170 r171 q17 r190 r191 q19
    replace hM := hid (hM.out.ext x7)
    replace hI := hid (hI.out.ext x7)
    replace hJ := hid (hJ.out.ext x7)
    replace hK := hid (hK.out.ext x7)
    replace t0 := hid (x7.cell t0.out)
    replace t1 := hid (x7.cell t1.out)
    replace b15_0 := hid (x7.cell b15_0.out)
    replace b15_1 := hid (x7.cell b15_1.out)
    replace b17_0 := hid (x7.cell b17_0.out)
    replace b17_1 := hid (x7.cell b17_1.out)
    replace b19_0 := hid (x7.cell b19_0.out)
    replace b19_1 := hid (x7.cell b19_1.out)
    replace X := hid (X.out.trans x7)
    clear hE x7
    have r150 := b15_0.out; have r151 := b15_1.out; have q15 := cell_lt r150; dsimp only at q15
    have r170 := b17_0.out; have r171 := b17_1.out; have q17 := cell_lt r170; dsimp only at q17
    have r190 := b19_0.out; have r191 := b19_1.out; have q19 := cell_lt r190; dsimp only at q19
    go_wp2_with fail
    cases B with
    | false =>
     refine (m13.out _).mono ?_; rintro e u8 ⟨rfl, hE⟩
     have x8 : Ext u7 u8 := exE
     clear r150 r151 q15 r170 r171 q17 r190 r191 q19
     replace hM := hid (hM.out.ext x8)
     replace hI := hid (hI.out.ext x8)
     replace hJ := hid (hJ.out.ext x8)
     replace hK := hid (hK.out.ext x8)
     replace t0 := hid (x8.cell t0.out)
     replace t1 := hid (x8.cell t1.out)
     replace b15_0 := hid (x8.cell b15_0.out)
     replace b15_1 := hid (x8.cell b15_1.out)
     replace b17_0 := hid (x8.cell b17_0.out)
     replace b17_1 := hid (x8.cell b17_1.out)
     replace b19_0 := hid (x8.cell b19_0.out)
     replace b19_1 := hid (x8.cell b19_1.out)
     replace X := hid (X.out.trans x8)
     clear hE x8
     have r150 := b15_0.out; have r151 := b15_1.out; have q15 := cell_lt r150; dsimp only at q15
     have r170 := b17_0.out; have r171 := b17_1.out; have q17 := cell_lt r170; dsimp only at q17
     have r190 := b19_0.out; have r191 := b19_1.out; have q19 := cell_lt r190; dsimp only at q19
     go_wp2_with fail
     clear r150 r151 q15 r170 r171 q17 r190 r191 q19
     go_upto_region 14 with (fail)
     refine wp_mono (stO14 rfl hq.out hl2 iu ic fx.out hxl2 fy.out hyl2 fz.out hzl2 hn.out hxl.out hyl.out hzl.out hM.out hI.out hJ.out hK.out t0.out t1.out) ?_
     rintro e a' v9 ⟨rfl, rfl, xx⟩
     replace X := hid (X.out.trans xx)
     have hd := hdd.out
     generalize desE l u c s x = E1 at *
     generalize desE l u c s y = E2 at *
     generalize desE l u c s z = E3 at *
     clear hdd
     by_cases h1 : E1 = 0
     ·subst h1
      by_cases h2 : E2 = 0
      ·subst h2
       have h3 : E3 = 0 := by rcases hd with h | h | h; exact absurd rfl h; exact absurd rfl h; exact h
       subst h3
       clear hd
       go_wp2_with fail
       refine (works_any _).mono ?_; rintro e v10 ⟨rfl, hE10⟩
       have X10 := hid (X.out.trans (show Ext v9 v10 from exE))
       go_wp2_with fail
       go_ret
       exact ⟨rfl, X10.out⟩
      ·have g2 : (E2 != 0) = true := by simpa using h2
       replace h2 := hid h2
       clear hd
       go_wp2_with fail
       refine (works_any _).mono ?_; rintro e v10 ⟨rfl, hE10⟩
       have X10 := hid (X.out.trans (show Ext v9 v10 from exE))
       go_wp2_with fail
       go_ret
       exact ⟨rfl, X10.out⟩
     ·have g1 : (E1 != 0) = true := by simpa using h1
      replace h1 := hid h1
      clear hd
      go_wp2_with fail
      refine (works_any _).mono ?_; rintro e v10 ⟨rfl, hE10⟩
      have X10 := hid (X.out.trans (show Ext v9 v10 from exE))
      go_wp2_with fail
      go_ret
      exact ⟨rfl, X10.out⟩
    | true =>
     have hl2B := hlB.out rfl
     rw [hl2B] at m23
     clear hl2B
     refine (m13.out _).mono ?_; rintro e u8 ⟨rfl, hE⟩
     have x8 : Ext u7 u8 := exE
     clear r150 r151 q15 r170 r171 q17 r190 r191 q19
     replace hM := hid (hM.out.ext x8)
     replace hI := hid (hI.out.ext x8)
     replace hJ := hid (hJ.out.ext x8)
     replace hK := hid (hK.out.ext x8)
     replace t0 := hid (x8.cell t0.out)
     replace t1 := hid (x8.cell t1.out)
     replace b15_0 := hid (x8.cell b15_0.out)
     replace b15_1 := hid (x8.cell b15_1.out)
     replace b17_0 := hid (x8.cell b17_0.out)
     replace b17_1 := hid (x8.cell b17_1.out)
     replace b19_0 := hid (x8.cell b19_0.out)
     replace b19_1 := hid (x8.cell b19_1.out)
     replace X := hid (X.out.trans x8)
     clear hE x8
     have r150 := b15_0.out; have r151 := b15_1.out; have q15 := cell_lt r150; dsimp only at q15
     have r170 := b17_0.out; have r171 := b17_1.out; have q17 := cell_lt r170; dsimp only at q17
     have r190 := b19_0.out; have r191 := b19_1.out; have q19 := cell_lt r190; dsimp only at q19
     go_wp2_with fail
     refine (m23.out _).mono ?_; rintro e u9 ⟨rfl, hE⟩
     have x9 : Ext u8 u9 := exE
     clear r150 r151 q15 r170 r171 q17 r190 r191 q19
     replace hM := hid (hM.out.ext x9)
     replace hI := hid (hI.out.ext x9)
     replace hJ := hid (hJ.out.ext x9)
     replace hK := hid (hK.out.ext x9)
     replace t0 := hid (x9.cell t0.out)
     replace t1 := hid (x9.cell t1.out)
     replace b15_0 := hid (x9.cell b15_0.out)
     replace b15_1 := hid (x9.cell b15_1.out)
     replace b17_0 := hid (x9.cell b17_0.out)
     replace b17_1 := hid (x9.cell b17_1.out)
     replace b19_0 := hid (x9.cell b19_0.out)
     replace b19_1 := hid (x9.cell b19_1.out)
     replace X := hid (X.out.trans x9)
     clear hE x9
     have r150 := b15_0.out; have r151 := b15_1.out; have q15 := cell_lt r150; dsimp only at q15
     have r170 := b17_0.out; have r171 := b17_1.out; have q17 := cell_lt r170; dsimp only at q17
     have r190 := b19_0.out; have r191 := b19_1.out; have q19 := cell_lt r190; dsimp only at q19
     go_wp2_with fail
     clear r150 r151 q15 r170 r171 q17 r190 r191 q19
     go_upto_region 14 with (fail)
     refine wp_mono (stO14 rfl hq.out hl2 iu ic fx.out hxl2 fy.out hyl2 fz.out hzl2 hn.out hxl.out hyl.out hzl.out hM.out hI.out hJ.out hK.out t0.out t1.out) ?_
     rintro e a' v9 ⟨rfl, rfl, xx⟩
     replace X := hid (X.out.trans xx)
     have hd := hdd.out
     generalize desE l u c s x = E1 at *
     generalize desE l u c s y = E2 at *
     generalize desE l u c s z = E3 at *
     clear hdd
     by_cases h1 : E1 = 0
     ·subst h1
      by_cases h2 : E2 = 0
      ·subst h2
       have h3 : E3 = 0 := by rcases hd with h | h | h; exact absurd rfl h; exact absurd rfl h; exact h
       subst h3
       clear hd
       go_wp2_with fail
       refine (works_any _).mono ?_; rintro e v10 ⟨rfl, hE10⟩
       have X10 := hid (X.out.trans (show Ext v9 v10 from exE))
       go_wp2_with fail
       go_ret
       exact ⟨rfl, X10.out⟩
      ·have g2 : (E2 != 0) = true := by simpa using h2
       replace h2 := hid h2
       clear hd
       go_wp2_with fail
       refine (works_any _).mono ?_; rintro e v10 ⟨rfl, hE10⟩
       have X10 := hid (X.out.trans (show Ext v9 v10 from exE))
       go_wp2_with fail
       go_ret
       exact ⟨rfl, X10.out⟩
     ·have g1 : (E1 != 0) = true := by simpa using h1
      replace h1 := hid h1
      clear hd
      go_wp2_with fail
      refine (works_any _).mono ?_; rintro e v10 ⟨rfl, hE10⟩
      have X10 := hid (X.out.trans (show Ext v9 v10 from exE))
      go_wp2_with fail
      go_ret
      exact ⟨rfl, X10.out⟩
   | true =>
    have hl2A := hlA.out rfl
    rw [hl2A] at m32
    clear hl2A
    refine (m31.out _).mono ?_; rintro e u7 ⟨rfl, hE⟩
    have x7 : Ext u6 u7 := exE
    clear r150 r151 q15 r170 r171 q17 r190 r191 q19
    replace hM := hid (hM.out.ext x7)
    replace hI := hid (hI.out.ext x7)
    replace hJ := hid (hJ.out.ext x7)
    replace hK := hid (hK.out.ext x7)
    replace t0 := hid (x7.cell t0.out)
    replace t1 := hid (x7.cell t1.out)
    replace b15_0 := hid (x7.cell b15_0.out)
    replace b15_1 := hid (x7.cell b15_1.out)
    replace b17_0 := hid (x7.cell b17_0.out)
    replace b17_1 := hid (x7.cell b17_1.out)
    replace b19_0 := hid (x7.cell b19_0.out)
    replace b19_1 := hid (x7.cell b19_1.out)
    replace X := hid (X.out.trans x7)
    clear hE x7
    have r150 := b15_0.out; have r151 := b15_1.out; have q15 := cell_lt r150; dsimp only at q15
    have r170 := b17_0.out; have r171 := b17_1.out; have q17 := cell_lt r170; dsimp only at q17
    have r190 := b19_0.out; have r191 := b19_1.out; have q19 := cell_lt r190; dsimp only at q19
    go_wp2_with fail
    refine (m32.out _).mono ?_; rintro e u8 ⟨rfl, hE⟩
    have x8 : Ext u7 u8 := exE
    clear r150 r151 q15 r170 r171 q17 r190 r191 q19
    replace hM := hid (hM.out.ext x8)
    replace hI := hid (hI.out.ext x8)
    replace hJ := hid (hJ.out.ext x8)
    replace hK := hid (hK.out.ext x8)
    replace t0 := hid (x8.cell t0.out)
    replace t1 := hid (x8.cell t1.out)
    replace b15_0 := hid (x8.cell b15_0.out)
    replace b15_1 := hid (x8.cell b15_1.out)
    replace b17_0 := hid (x8.cell b17_0.out)
    replace b17_1 := hid (x8.cell b17_1.out)
    replace b19_0 := hid (x8.cell b19_0.out)
    replace b19_1 := hid (x8.cell b19_1.out)
    replace X := hid (X.out.trans x8)
    clear hE x8
    have r150 := b15_0.out; have r151 := b15_1.out; have q15 := cell_lt r150; dsimp only at q15
    have r170 := b17_0.out; have r171 := b17_1.out; have q17 := cell_lt r170; dsimp only at q17
    have r190 := b19_0.out; have r191 := b19_1.out; have q19 := cell_lt r190; dsimp only at q19
    go_wp2_with fail
    cases B with
    | false =>
     refine (m13.out _).mono ?_; rintro e u9 ⟨rfl, hE⟩
     have x9 : Ext u8 u9 := exE
     clear r150 r151 q15 r170 r171 q17 r190 r191 q19
     replace hM := hid (hM.out.ext x9)
     replace hI := hid (hI.out.ext x9)
     replace hJ := hid (hJ.out.ext x9)
     replace hK := hid (hK.out.ext x9)
     replace t0 := hid (x9.cell t0.out)
     replace t1 := hid (x9.cell t1.out)
     replace b15_0 := hid (x9.cell b15_0.out)
     replace b15_1 := hid (x9.cell b15_1.out)
     replace b17_0 := hid (x9.cell b17_0.out)
     replace b17_1 := hid (x9.cell b17_1.out)
     replace b19_0 := hid (x9.cell b19_0.out)
     replace b19_1 := hid (x9.cell b19_1.out)
     replace X := hid (X.out.trans x9)
     clear hE x9
     have r150 := b15_0.out; have r151 := b15_1.out; have q15 := cell_lt r150; dsimp only at q15
     have r170 := b17_0.out; have r171 := b17_1.out; have q17 := cell_lt r170; dsimp only at q17
     have r190 := b19_0.out; have r191 := b19_1.out; have q19 := cell_lt r190; dsimp only at q19
     go_wp2_with fail
     clear r150 r151 q15 r170 r171 q17 r190 r191 q19
     go_upto_region 14 with (fail)
     refine wp_mono (stO14 rfl hq.out hl2 iu ic fx.out hxl2 fy.out hyl2 fz.out hzl2 hn.out hxl.out hyl.out hzl.out hM.out hI.out hJ.out hK.out t0.out t1.out) ?_
     rintro e a' v9 ⟨rfl, rfl, xx⟩
     replace X := hid (X.out.trans xx)
     have hd := hdd.out
     generalize desE l u c s x = E1 at *
     generalize desE l u c s y = E2 at *
     generalize desE l u c s z = E3 at *
     clear hdd
     by_cases h1 : E1 = 0
     ·subst h1
      by_cases h2 : E2 = 0
      ·subst h2
       have h3 : E3 = 0 := by rcases hd with h | h | h; exact absurd rfl h; exact absurd rfl h; exact h
       subst h3
       clear hd
       go_wp2_with fail
       refine (works_any _).mono ?_; rintro e v10 ⟨rfl, hE10⟩
       have X10 := hid (X.out.trans (show Ext v9 v10 from exE))
       go_wp2_with fail
       go_ret
       exact ⟨rfl, X10.out⟩
      ·have g2 : (E2 != 0) = true := by simpa using h2
       replace h2 := hid h2
       clear hd
       go_wp2_with fail
       refine (works_any _).mono ?_; rintro e v10 ⟨rfl, hE10⟩
       have X10 := hid (X.out.trans (show Ext v9 v10 from exE))
       go_wp2_with fail
       go_ret
       exact ⟨rfl, X10.out⟩
     ·have g1 : (E1 != 0) = true := by simpa using h1
      replace h1 := hid h1
      clear hd
      go_wp2_with fail
      refine (works_any _).mono ?_; rintro e v10 ⟨rfl, hE10⟩
      have X10 := hid (X.out.trans (show Ext v9 v10 from exE))
      go_wp2_with fail
      go_ret
      exact ⟨rfl, X10.out⟩
    | true =>
     have hl2B := hlB.out rfl
     rw [hl2B] at m23
     clear hl2B
     refine (m13.out _).mono ?_; rintro e u9 ⟨rfl, hE⟩
     have x9 : Ext u8 u9 := exE
     clear r150 r151 q15 r170 r171 q17 r190 r191 q19
     replace hM := hid (hM.out.ext x9)
     replace hI := hid (hI.out.ext x9)
     replace hJ := hid (hJ.out.ext x9)
     replace hK := hid (hK.out.ext x9)
     replace t0 := hid (x9.cell t0.out)
     replace t1 := hid (x9.cell t1.out)
     replace b15_0 := hid (x9.cell b15_0.out)
     replace b15_1 := hid (x9.cell b15_1.out)
     replace b17_0 := hid (x9.cell b17_0.out)
     replace b17_1 := hid (x9.cell b17_1.out)
     replace b19_0 := hid (x9.cell b19_0.out)
     replace b19_1 := hid (x9.cell b19_1.out)
     replace X := hid (X.out.trans x9)
     clear hE x9
     have r150 := b15_0.out; have r151 := b15_1.out; have q15 := cell_lt r150; dsimp only at q15
     have r170 := b17_0.out; have r171 := b17_1.out; have q17 := cell_lt r170; dsimp only at q17
     have r190 := b19_0.out; have r191 := b19_1.out; have q19 := cell_lt r190; dsimp only at q19
     go_wp2_with fail
     refine (m23.out _).mono ?_; rintro e u10 ⟨rfl, hE⟩
     have x10 : Ext u9 u10 := exE
     clear r150 r151 q15 r170 r171 q17 r190 r191 q19
     replace hM := hid (hM.out.ext x10)
     replace hI := hid (hI.out.ext x10)
     replace hJ := hid (hJ.out.ext x10)
     replace hK := hid (hK.out.ext x10)
     replace t0 := hid (x10.cell t0.out)
     replace t1 := hid (x10.cell t1.out)
     replace b15_0 := hid (x10.cell b15_0.out)
     replace b15_1 := hid (x10.cell b15_1.out)
     replace b17_0 := hid (x10.cell b17_0.out)
     replace b17_1 := hid (x10.cell b17_1.out)
     replace b19_0 := hid (x10.cell b19_0.out)
     replace b19_1 := hid (x10.cell b19_1.out)
     replace X := hid (X.out.trans x10)
     clear hE x10
     have r150 := b15_0.out; have r151 := b15_1.out; have q15 := cell_lt r150; dsimp only at q15
     have r170 := b17_0.out; have r171 := b17_1.out; have q17 := cell_lt r170; dsimp only at q17
     have r190 := b19_0.out; have r191 := b19_1.out; have q19 := cell_lt r190; dsimp only at q19
     go_wp2_with fail
     clear r150 r151 q15 r170 r171 q17 r190 r191 q19
     go_upto_region 14 with (fail)
     refine wp_mono (stO14 rfl hq.out hl2 iu ic fx.out hxl2 fy.out hyl2 fz.out hzl2 hn.out hxl.out hyl.out hzl.out hM.out hI.out hJ.out hK.out t0.out t1.out) ?_
     rintro e a' v9 ⟨rfl, rfl, xx⟩
     replace X := hid (X.out.trans xx)
     have hd := hdd.out
     generalize desE l u c s x = E1 at *
     generalize desE l u c s y = E2 at *
     generalize desE l u c s z = E3 at *
     clear hdd
     by_cases h1 : E1 = 0
     ·subst h1
      by_cases h2 : E2 = 0
      ·subst h2
       have h3 : E3 = 0 := by rcases hd with h | h | h; exact absurd rfl h; exact absurd rfl h; exact h
       subst h3
       clear hd
       go_wp2_with fail
       refine (works_any _).mono ?_; rintro e v10 ⟨rfl, hE10⟩
       have X10 := hid (X.out.trans (show Ext v9 v10 from exE))
       go_wp2_with fail
       go_ret
       exact ⟨rfl, X10.out⟩
      ·have g2 : (E2 != 0) = true := by simpa using h2
       replace h2 := hid h2
       clear hd
       go_wp2_with fail
       refine (works_any _).mono ?_; rintro e v10 ⟨rfl, hE10⟩
       have X10 := hid (X.out.trans (show Ext v9 v10 from exE))
       go_wp2_with fail
       go_ret
       exact ⟨rfl, X10.out⟩
     ·have g1 : (E1 != 0) = true := by simpa using h1
      replace h1 := hid h1
      clear hd
      go_wp2_with fail
      refine (works_any _).mono ?_; rintro e v10 ⟨rfl, hE10⟩
      have X10 := hid (X.out.trans (show Ext v9 v10 from exE))
      go_wp2_with fail
      go_ret
      exact ⟨rfl, X10.out⟩

end Go.Proofs.Ytpnfhcnnodolbaa
