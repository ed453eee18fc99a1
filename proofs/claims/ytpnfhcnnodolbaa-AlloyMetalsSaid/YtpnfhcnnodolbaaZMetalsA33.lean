/- Texts of one proof, laid together: LaMa, LaG, LaM. -/
import Derived.Test.YtpnfhcnnodolbaaZB10
import Derived.Test.YtpnfhcnnodolbaaWk
import Derived.Test.YtpnfhcnnodolbaaQh
namespace Go.Proofs.Ytpnfhcnnodolbaa
set_option linter.unusedVariables false
set_option linter.unusedSimpArgs false
set_option linter.unusedSectionVars false
set_option linter.unnecessarySimpa false
open Go Go.RowKit Game
set_option maxRecDepth 100000
set_option maxHeartbeats 40000000 in
theorem stM7 {A_ : Act} {yB yC yD yE yF yH yI yJ yK yV yW yX yY yZ zA zB zC zD zE zF zG zH zI zJ zK zL zM zN zO zP zQ zR zS zT zU zV zW zX zY zZ uA uB uC uD uE uF uG uH uI uJ uK uL uM uN uO uP uQ uR uS uT uU uV uW uX uY uZ iA iB iC iD iE iF iG iH iI iJ iK iL iM iN iO iP iQ iR iS iT iU iV iW iX iY iZ : Value} {l : List Met} {a : Option Addr} {cap : Nat} {T : Nat} {B11 B13 B15 B18 B16 B19 : Nat} {u c E N D N1 D1 N2 D2 : Int} {w : World} (hA0_ : A_ = { tmps := #[.slice a l.length cap, yB, yC, yD, yE, yF, .pointer (some ⟨T, 0, none⟩), yH, yI, yJ, yK, .pointer (some ⟨B11, 0, none⟩), .int .i64 (E), .pointer (some ⟨B13, 0, none⟩), .int .i64 (E), .pointer (some ⟨B15, 0, none⟩), .pointer (some ⟨B16, 0, none⟩), .int .i64 (E), .pointer (some ⟨B18, 0, none⟩), .pointer (some ⟨B19, 0, none⟩), .int .i64 (E), yV, yW, yX, yY, yZ, zA, zB, zC, zD, zE, zF, zG, zH, zI, zJ, zK, zL, zM, zN, zO, zP, zQ, zR, zS, zT, zU, zV, zW, zX, zY, zZ, uA, uB, uC, uD, uE, uF, uG, uH, uI, uJ, uK, uL, uM, uN, uO, uP, uQ, uR, uS, uT, uU, uV, uW, uX, uY, uZ, iA, iB, iC, iD, iE, iF, iG, iH, iI, iJ, iK, iL, iM, iN, iO, iP, iQ, iR, iS, iT, iU, iV, iW, iX, iY, iZ], defers := [] }) (hq : FitM l) (hl : l.length ≤ 1000) (iu : I64 u) (ic : I64 c) (hm : Mts w a l) (t0 : w.cell? ⟨T, 0, none⟩ = some (.int .i64 u)) (t1 : w.cell? ⟨T, 1, none⟩ = some (.int .i64 c)) (b11_0 : w.cell? ⟨B11, 0, none⟩ = some (.int .i64 N)) (b11_1 : w.cell? ⟨B11, 1, none⟩ = some (.int .i64 D)) (b13_0 : w.cell? ⟨B13, 0, none⟩ = some (.int .i64 N)) (b13_1 : w.cell? ⟨B13, 1, none⟩ = some (.int .i64 D)) (b15_0 : w.cell? ⟨B15, 0, none⟩ = some (.int .i64 N1)) (b15_1 : w.cell? ⟨B15, 1, none⟩ = some (.int .i64 D1)) (b18_0 : w.cell? ⟨B18, 0, none⟩ = some (.int .i64 N1)) (b18_1 : w.cell? ⟨B18, 1, none⟩ = some (.int .i64 D1)) (b16_0 : w.cell? ⟨B16, 0, none⟩ = some (.int .i64 N2)) (b16_1 : w.cell? ⟨B16, 1, none⟩ = some (.int .i64 D2)) (b19_0 : w.cell? ⟨B19, 0, none⟩ = some (.int .i64 N2)) (b19_1 : w.cell? ⟨B19, 1, none⟩ = some (.int .i64 D2)) :
 Code.wp Try.prog (rgn Try.f3 7) (fun e a' w' => e = .normal ∧ a' = ({ tmps := #[.slice a l.length cap,yB,yC,yD,yE,yF,.pointer (some ⟨T, 0, none⟩),yH,yI,yJ,yK,.pointer (some ⟨B11, 0, none⟩),.int .i64 (E),.pointer (some ⟨B13, 0, none⟩),.int .i64 (E),.pointer (some ⟨B15, 0, none⟩),.pointer (some ⟨B16, 0, none⟩),.int .i64 (E),.pointer (some ⟨B18, 0, none⟩),.pointer (some ⟨B19, 0, none⟩),.int .i64 (E),yV,yW,yX,yY,yZ,zA,zB,zC,zD,zE,zF,zG,zH,zI,zJ,zK,zL,zM,zN,zO,zP,zQ,zR,zS,zT,zU,zV,zW,zX,zY,zZ,uA,.slice a l.length cap,.int .i64 (chkM l),.slice a l.length cap,.int .i64 (chkM l),.bool false,.bool false,.agg #[.int .i64 u, .int .i64 c],.int .i64 (chkU u c),.agg #[.int .i64 u, .int .i64 c],.int .i64 (chkU u c),.bool false,.bool false,.bool false,.agg #[.int .i64 N, .int .i64 D],.agg #[.int .i64 N, .int .i64 D],.bool false,.bool false,.bool false,.int .i64 (E),.int .i64 (E),.bool false,.bool false,.bool false,.agg #[.int .i64 N1, .int .i64 D1],.agg #[.int .i64 N1, .int .i64 D1],.bool false,.bool false,.bool false,.agg #[.int .i64 N2, .int .i64 D2],.agg #[.int .i64 N2, .int .i64 D2],.bool false,.bool false,.bool false,.int .i64 (E),.int .i64 (E),.bool false,.bool false,iM,iN,iO,iP,iQ,iR,iS,iT,iU,iV,iW,iX,iY,iZ], defers := [] } : Act) ∧ Ext w w') A_ w := by
 conv => arg 2; whnf
 refine st_intro (fun Q2 hQ2 => ?_)
 have hA_ := hid hA0_
 clear hA0_
 have hpan : ∀ c a a' w w', Q2 (.panic c) a w → Q2 (.panic c) a' w' := by rw [hQ2]; rintro c a a' w w' ⟨h, _⟩; cases h
 replace hQ2 := hid hQ2
 replace hq := hid hq
 replace hl := hid hl
 replace iu := hid iu
 replace ic := hid ic
 replace hm := hid hm
 have heq : ∀ (p q : Int) w, (Op.equalIn 10000 29 (.agg #[.int .i64 p, .int .i64 q]) (.agg #[.int .i64 p, .int .i64 q])).run Try.prog w = .ok true w := fun p q w => by rw [run_eqRatio]; simp
 have hRD_ := hid (fun w' (x_ : Ext w w') => And.intro (Ext.cell x_ t0) (And.intro (Ext.cell x_ t1) (And.intro (Ext.cell x_ b11_0) (And.intro (Ext.cell x_ b11_1) (And.intro (Ext.cell x_ b13_0) (And.intro (Ext.cell x_ b13_1) (And.intro (Ext.cell x_ b15_0) (And.intro (Ext.cell x_ b15_1) (And.intro (Ext.cell x_ b18_0) (And.intro (Ext.cell x_ b18_1) (And.intro (Ext.cell x_ b16_0) (And.intro (Ext.cell x_ b16_1) (And.intro (Ext.cell x_ b19_0) (Ext.cell x_ b19_1))))))))))))))
 refine wp_region_held_drew (S := fun w' => Ext w w') (by kernel_rfl) exE fun hHeld => ?_
 try simp only [List.append_eq, List.cons_append, List.nil_append]
 refine name_any (fun W0 hW => ?_)
 have s0 : Ext w W0 := by rw [hW]; exact hHeld
 clear hW hHeld
 refine wpF_intro 37 (by kernel_rfl) (fun F hF => ?_)
 replace hF := hid hF
 have N1_0 : ∀ (f_ : Nat) (l_ : Array Bool) (W0 : World) (a_ : Act), f_ = 28 → l_ = #[true, true, true, true, true, true, true, true, true, false, false, false, false, false, false, false, false, false, false, false, false, false, false, false, false, false, false, false, false, false, false, false, false, false, false, false, false] → a_ = ({ tmps := #[.slice a l.length cap,yB,yC,yD,yE,yF,.pointer (some ⟨T, 0, none⟩),yH,yI,yJ,yK,.pointer (some ⟨B11, 0, none⟩),.int .i64 (E),.pointer (some ⟨B13, 0, none⟩),.int .i64 (E),.pointer (some ⟨B15, 0, none⟩),.pointer (some ⟨B16, 0, none⟩),.int .i64 (E),.pointer (some ⟨B18, 0, none⟩),.pointer (some ⟨B19, 0, none⟩),.int .i64 (E),yV,yW,yX,yY,yZ,zA,zB,zC,zD,zE,zF,zG,zH,zI,zJ,zK,zL,zM,zN,zO,zP,zQ,zR,zS,zT,zU,zV,zW,zX,zY,zZ,uA,.slice a l.length cap,.int .i64 (chkM l),.slice a l.length cap,.int .i64 (chkM l),.bool false,.bool false,.agg #[.int .i64 u, .int .i64 c],.int .i64 (chkU u c),.agg #[.int .i64 u, .int .i64 c],uK,uL,uM,uN,uO,uP,uQ,uR,uS,uT,uU,uV,uW,uX,uY,uZ,iA,iB,iC,iD,iE,iF,iG,iH,iI,iJ,iK,iL,iM,iN,iO,iP,iQ,iR,iS,iT,iU,iV,iW,iX,iY,iZ], defers := [] } : Act) → Ext w W0 → F f_ l_ a_ W0 := by
  intro  f_ l_ W0 a_ hf_ hl_ ha_ s0
  subst hf_ hl_ ha_
  refine (hF.out _ _ _ _).2 ?_
  refine wpAnyH_ready (rs := [9]) (by kernel_rfl) (by simp) ?_
  refine AllReadyH.cons (o := _) rfl (fun K hK => ?_) AllReadyH.nil
  refine tk_call (by kernel_rfl) (checkTouchR_any u c _) (by kernel_rfl) ?_; rintro e W1 ⟨rfl, e1⟩; refine ⟨_, rfl, ?_⟩
  have s1 := s0.trans e1
  refine hK.out _ _ s1 (fun _ => ?_)
  clear hK K
  try simp only [sxA, sxB, sxC, Act.put, sxD, sxE, sxF]
  refine tkB (i := 10) (v := ?_) rfl hpan ?yl ?_
  case yl => (intro w hSw; (try dsimp only at hSw);  go_simp); with_reducible rfl
  try simp only [sxA, sxB, sxC, Act.put, sxD, sxE, sxF]
  refine tkB (i := 11) (v := ?_) rfl hpan ?yl ?_
  case yl => (intro w hSw; (try dsimp only at hSw);  go_simp); with_reducible rfl
  try simp only [sxA, sxB, sxC, Act.put, sxD, sxE, sxF]
  refine tkB (i := 12) (v := ?_) rfl hpan ?yl ?_
  case yl => (intro w hSw; (try dsimp only at hSw);  go_simp); with_reducible rfl
  try simp only [sxA, sxB, sxC, Act.put, sxD, sxE, sxF]
  refine tkB (i := 13) (v := ?_) rfl hpan ?yl ?_
  case yl => (intro w hSw; have k_ := hRD_.out w hSw; go_simp); with_reducible rfl
  try simp only [sxA, sxB, sxC, Act.put, sxD, sxE, sxF]
  refine tkB (i := 14) (v := ?_) rfl hpan ?yl ?_
  case yl => (intro w hSw; have k_ := hRD_.out w hSw; go_simp); with_reducible rfl
  try simp only [sxA, sxB, sxC, Act.put, sxD, sxE, sxF]
  refine tkB (i := 15) (v := ?_) rfl hpan ?yl ?_
  case yl => (intro w hSw; (try dsimp only at hSw);  go_simp); with_reducible rfl
  try simp only [sxA, sxB, sxC, Act.put, sxD, sxE, sxF]
  refine tkB (i := 16) (v := ?_) rfl hpan ?yl ?_
  case yl => (intro w hSw; (try dsimp only at hSw);  go_simp); with_reducible rfl
  try simp only [sxA, sxB, sxC, Act.put, sxD, sxE, sxF]
  refine tkB (i := 17) (v := ?_) rfl hpan ?yl ?_
  case yl => (intro w hSw; (try dsimp only at hSw);  go_simp); with_reducible rfl
  try simp only [sxA, sxB, sxC, Act.put, sxD, sxE, sxF]
  refine tkB (i := 18) (v := ?_) rfl hpan ?yl ?_
  case yl => (intro w hSw; (try dsimp only at hSw);  go_simp); with_reducible rfl
  try simp only [sxA, sxB, sxC, Act.put, sxD, sxE, sxF]
  refine tkB (i := 19) (v := ?_) rfl hpan ?yl ?_
  case yl => (intro w hSw; (try dsimp only at hSw);  go_simp); with_reducible rfl
  try simp only [sxA, sxB, sxC, Act.put, sxD, sxE, sxF]
  refine tkB (i := 20) (v := ?_) rfl hpan ?yl ?_
  case yl => (intro w hSw; (try dsimp only at hSw);  go_simp); with_reducible rfl
  try simp only [sxA, sxB, sxC, Act.put, sxD, sxE, sxF]
  refine tkB (i := 21) (v := ?_) rfl hpan ?yl ?_
  case yl => (intro w hSw; (try dsimp only at hSw);  go_simp); with_reducible rfl
  try simp only [sxA, sxB, sxC, Act.put, sxD, sxE, sxF]
  refine tkB (i := 22) (v := ?_) rfl hpan ?yl ?_
  case yl => (intro w hSw; (try dsimp only at hSw);  go_simp); with_reducible rfl
  try simp only [sxA, sxB, sxC, Act.put, sxD, sxE, sxF]
  refine tkB (i := 23) (v := ?_) rfl hpan ?yl ?_
  case yl => (intro w hSw; have k_ := hRD_.out w hSw; go_simp); with_reducible rfl
  try simp only [sxA, sxB, sxC, Act.put, sxD, sxE, sxF]
  refine tkB (i := 24) (v := ?_) rfl hpan ?yl ?_
  case yl => (intro w hSw; have k_ := hRD_.out w hSw; go_simp); with_reducible rfl
  try simp only [sxA, sxB, sxC, Act.put, sxD, sxE, sxF]
  refine tkB (i := 25) (v := ?_) rfl hpan ?yl ?_
  case yl => (intro w hSw; (try dsimp only at hSw);  go_simp); with_reducible rfl
  try simp only [sxA, sxB, sxC, Act.put, sxD, sxE, sxF]
  refine tkB (i := 26) (v := ?_) rfl hpan ?yl ?_
  case yl => (intro w hSw; (try dsimp only at hSw);  go_simp); with_reducible rfl
  try simp only [sxA, sxB, sxC, Act.put, sxD, sxE, sxF]
  refine tkB (i := 27) (v := ?_) rfl hpan ?yl ?_
  case yl => (intro w hSw; (try dsimp only at hSw);  go_simp); with_reducible rfl
  try simp only [sxA, sxB, sxC, Act.put, sxD, sxE, sxF]
  refine tkB (i := 28) (v := ?_) rfl hpan ?yl ?_
  case yl => (intro w hSw; have k_ := hRD_.out w hSw; go_simp); with_reducible rfl
  try simp only [sxA, sxB, sxC, Act.put, sxD, sxE, sxF]
  refine tkB (i := 29) (v := ?_) rfl hpan ?yl ?_
  case yl => (intro w hSw; have k_ := hRD_.out w hSw; go_simp); with_reducible rfl
  try simp only [sxA, sxB, sxC, Act.put, sxD, sxE, sxF]
  refine tkB (i := 30) (v := ?_) rfl hpan ?yl ?_
  case yl => (intro w hSw; (try dsimp only at hSw);  go_simp); with_reducible rfl
  try simp only [sxA, sxB, sxC, Act.put, sxD, sxE, sxF]
  refine tkB (i := 31) (v := ?_) rfl hpan ?yl ?_
  case yl => (intro w hSw; (try dsimp only at hSw);  go_simp); with_reducible rfl
  try simp only [sxA, sxB, sxC, Act.put, sxD, sxE, sxF]
  refine tkB (i := 32) (v := ?_) rfl hpan ?yl ?_
  case yl => (intro w hSw; (try dsimp only at hSw);  go_simp); with_reducible rfl
  try simp only [sxA, sxB, sxC, Act.put, sxD, sxE, sxF]
  refine tkB (i := 33) (v := ?_) rfl hpan ?yl ?_
  case yl => (intro w hSw; (try dsimp only at hSw);  go_simp); with_reducible rfl
  try simp only [sxA, sxB, sxC, Act.put, sxD, sxE, sxF]
  refine tkB (i := 34) (v := ?_) rfl hpan ?yl ?_
  case yl => (intro w hSw; (try dsimp only at hSw);  go_simp); with_reducible rfl
  try simp only [sxA, sxB, sxC, Act.put, sxD, sxE, sxF]
  refine tkB (i := 35) (v := ?_) rfl hpan ?yl ?_
  case yl => (intro w hSw; (try dsimp only at hSw);  go_simp); with_reducible rfl
  try simp only [sxA, sxB, sxC, Act.put, sxD, sxE, sxF]
  refine tkB (i := 36) (v := ?_) rfl hpan ?yl ?_
  case yl => (intro w hSw; (try dsimp only at hSw);  go_simp); with_reducible rfl
  try simp only [sxA, sxB, sxC, Act.put, sxD, sxE, sxF]
  refine wpAnyH_done (by kernel_rfl) ?_ _
  try simp only [sxA, sxB, sxC, Act.put, sxD, sxE, sxF]
  rw [hQ2.out]
  refine ⟨rfl, ?eq1_1, s1⟩
  case eq1_1 => (first | with_reducible rfl | rfl)
 have N1_1 : ∀ (f_ : Nat) (l_ : Array Bool) (W0 : World) (a_ : Act), f_ = 29 → l_ = #[true, true, true, true, true, true, true, false, true, false, false, false, false, false, false, false, false, false, false, false, false, false, false, false, false, false, false, false, false, false, false, false, false, false, false, false, false] → a_ = ({ tmps := #[.slice a l.length cap,yB,yC,yD,yE,yF,.pointer (some ⟨T, 0, none⟩),yH,yI,yJ,yK,.pointer (some ⟨B11, 0, none⟩),.int .i64 (E),.pointer (some ⟨B13, 0, none⟩),.int .i64 (E),.pointer (some ⟨B15, 0, none⟩),.pointer (some ⟨B16, 0, none⟩),.int .i64 (E),.pointer (some ⟨B18, 0, none⟩),.pointer (some ⟨B19, 0, none⟩),.int .i64 (E),yV,yW,yX,yY,yZ,zA,zB,zC,zD,zE,zF,zG,zH,zI,zJ,zK,zL,zM,zN,zO,zP,zQ,zR,zS,zT,zU,zV,zW,zX,zY,zZ,uA,.slice a l.length cap,.int .i64 (chkM l),.slice a l.length cap,.int .i64 (chkM l),.bool false,.bool false,.agg #[.int .i64 u, .int .i64 c],uI,.agg #[.int .i64 u, .int .i64 c],uK,uL,uM,uN,uO,uP,uQ,uR,uS,uT,uU,uV,uW,uX,uY,uZ,iA,iB,iC,iD,iE,iF,iG,iH,iI,iJ,iK,iL,iM,iN,iO,iP,iQ,iR,iS,iT,iU,iV,iW,iX,iY,iZ], defers := [] } : Act) → Ext w W0 → F f_ l_ a_ W0 := by
  intro  f_ l_ W0 a_ hf_ hl_ ha_ s0
  subst hf_ hl_ ha_
  refine (hF.out _ _ _ _).2 ?_
  refine wpAnyH_ready (rs := [7]) (by kernel_rfl) (by simp) ?_
  refine AllReadyH.cons (o := _) rfl (fun K hK => ?_) AllReadyH.nil
  refine tk_call (by kernel_rfl) (checkTouch_any u c iu.out ic.out _) (by kernel_rfl) ?_; rintro e W1 ⟨rfl, e1⟩; refine ⟨_, rfl, ?_⟩
  have s1 := s0.trans e1
  refine hK.out _ _ s1 (fun _ => ?_)
  clear hK K
  try simp only [sxA, sxB, sxC, Act.put, sxD, sxE, sxF]
  refine (hF.out _ _ _ _).1 ?_
  exact N1_0 _ _ W1 _ (by first | rfl | kernel_rfl) (by first | rfl | kernel_rfl) (by (try simp only [sxA, sxB, sxC, Act.put, sxD, sxE, sxF]); first | done | with_reducible rfl | rfl) s1
 have N1_2 : ∀ (f_ : Nat) (l_ : Array Bool) (W0 : World) (a_ : Act), f_ = 34 → l_ = #[true, true, true, false, false, false, false, false, false, false, false, false, false, false, false, false, false, false, false, false, false, false, false, false, false, false, false, false, false, false, false, false, false, false, false, false, false] → a_ = ({ tmps := #[.slice a l.length cap,yB,yC,yD,yE,yF,.pointer (some ⟨T, 0, none⟩),yH,yI,yJ,yK,.pointer (some ⟨B11, 0, none⟩),.int .i64 (E),.pointer (some ⟨B13, 0, none⟩),.int .i64 (E),.pointer (some ⟨B15, 0, none⟩),.pointer (some ⟨B16, 0, none⟩),.int .i64 (E),.pointer (some ⟨B18, 0, none⟩),.pointer (some ⟨B19, 0, none⟩),.int .i64 (E),yV,yW,yX,yY,yZ,zA,zB,zC,zD,zE,zF,zG,zH,zI,zJ,zK,zL,zM,zN,zO,zP,zQ,zR,zS,zT,zU,zV,zW,zX,zY,zZ,uA,.slice a l.length cap,.int .i64 (chkM l),.slice a l.length cap,uE,uF,uG,uH,uI,uJ,uK,uL,uM,uN,uO,uP,uQ,uR,uS,uT,uU,uV,uW,uX,uY,uZ,iA,iB,iC,iD,iE,iF,iG,iH,iI,iJ,iK,iL,iM,iN,iO,iP,iQ,iR,iS,iT,iU,iV,iW,iX,iY,iZ], defers := [] } : Act) → Ext w W0 → F f_ l_ a_ W0 := by
  intro  f_ l_ W0 a_ hf_ hl_ ha_ s0
  subst hf_ hl_ ha_
  refine (hF.out _ _ _ _).2 ?_
  clear N1_0
  refine wpAnyH_ready (rs := [3]) (by kernel_rfl) (by simp) ?_
  refine AllReadyH.cons (o := _) rfl (fun K hK => ?_) AllReadyH.nil
  refine tk_call (by kernel_rfl) (checkMetalsR_any l hq.out hl.out a cap _ (hm.out.ext s0)) (by kernel_rfl) ?_; rintro e W1 ⟨rfl, e1⟩; refine ⟨_, rfl, ?_⟩
  have s1 := s0.trans e1
  refine hK.out _ _ s1 (fun _ => ?_)
  clear hK K
  try simp only [sxA, sxB, sxC, Act.put, sxD, sxE, sxF]
  refine tkB (i := 4) (v := ?_) rfl hpan ?yl ?_
  case yl => (intro w hSw; (try dsimp only at hSw);  go_simp); with_reducible rfl
  try simp only [sxA, sxB, sxC, Act.put, sxD, sxE, sxF]
  refine tkB (i := 5) (v := ?_) rfl hpan ?yl ?_
  case yl => (intro w hSw; (try dsimp only at hSw);  go_simp); with_reducible rfl
  try simp only [sxA, sxB, sxC, Act.put, sxD, sxE, sxF]
  refine tkB (i := 6) (v := ?_) rfl hpan ?yl ?_
  case yl => (intro w hSw; have k_ := hRD_.out w hSw; go_simp); with_reducible rfl
  try simp only [sxA, sxB, sxC, Act.put, sxD, sxE, sxF]
  refine tkB (i := 8) (v := ?_) rfl hpan ?yl ?_
  case yl => (intro w hSw; have k_ := hRD_.out w hSw; go_simp); with_reducible rfl
  try simp only [sxA, sxB, sxC, Act.put, sxD, sxE, sxF]
  refine (hF.out _ _ _ _).1 ?_
  exact N1_1 _ _ W1 _ (by first | rfl | kernel_rfl) (by first | rfl | kernel_rfl) (by (try simp only [sxA, sxB, sxC, Act.put, sxD, sxE, sxF]); first | done | with_reducible rfl | rfl) s1
 have N1_3 : ∀ (f_ : Nat) (l_ : Array Bool) (W0 : World) (a_ : Act), f_ = 35 → l_ = #[true, false, true, false, false, false, false, false, false, false, false, false, false, false, false, false, false, false, false, false, false, false, false, false, false, false, false, false, false, false, false, false, false, false, false, false, false] → a_ = ({ tmps := #[.slice a l.length cap,yB,yC,yD,yE,yF,.pointer (some ⟨T, 0, none⟩),yH,yI,yJ,yK,.pointer (some ⟨B11, 0, none⟩),.int .i64 (E),.pointer (some ⟨B13, 0, none⟩),.int .i64 (E),.pointer (some ⟨B15, 0, none⟩),.pointer (some ⟨B16, 0, none⟩),.int .i64 (E),.pointer (some ⟨B18, 0, none⟩),.pointer (some ⟨B19, 0, none⟩),.int .i64 (E),yV,yW,yX,yY,yZ,zA,zB,zC,zD,zE,zF,zG,zH,zI,zJ,zK,zL,zM,zN,zO,zP,zQ,zR,zS,zT,zU,zV,zW,zX,zY,zZ,uA,.slice a l.length cap,uC,.slice a l.length cap,uE,uF,uG,uH,uI,uJ,uK,uL,uM,uN,uO,uP,uQ,uR,uS,uT,uU,uV,uW,uX,uY,uZ,iA,iB,iC,iD,iE,iF,iG,iH,iI,iJ,iK,iL,iM,iN,iO,iP,iQ,iR,iS,iT,iU,iV,iW,iX,iY,iZ], defers := [] } : Act) → Ext w W0 → F f_ l_ a_ W0 := by
  intro  f_ l_ W0 a_ hf_ hl_ ha_ s0
  subst hf_ hl_ ha_
  refine (hF.out _ _ _ _).2 ?_
  clear N1_0 N1_1
  refine wpAnyH_ready (rs := [1]) (by kernel_rfl) (by simp) ?_
  refine AllReadyH.cons (o := _) rfl (fun K hK => ?_) AllReadyH.nil
  refine tk_call (by kernel_rfl) (checkMetals_any l hq.out hl.out a cap _ (hm.out.ext s0)) (by kernel_rfl) ?_; rintro e W1 ⟨rfl, e1⟩; refine ⟨_, rfl, ?_⟩
  have s1 := s0.trans e1
  refine hK.out _ _ s1 (fun _ => ?_)
  clear hK K
  try simp only [sxA, sxB, sxC, Act.put, sxD, sxE, sxF]
  refine (hF.out _ _ _ _).1 ?_
  exact N1_2 _ _ W1 _ (by first | rfl | kernel_rfl) (by first | rfl | kernel_rfl) (by (try simp only [sxA, sxB, sxC, Act.put, sxD, sxE, sxF]); first | done | with_reducible rfl | rfl) s1
 rw [hA_.out]
 refine (hF.out _ _ _ _).2 ?_
 refine tkB (i := 0) (v := ?_) rfl hpan ?yl ?_
 case yl => (intro w hSw; (try dsimp only at hSw);  go_simp); with_reducible rfl
 try simp only [sxA, sxB, sxC, Act.put, sxD, sxE, sxF]
 refine tkB (i := 2) (v := ?_) rfl hpan ?yl ?_
 case yl => (intro w hSw; (try dsimp only at hSw);  go_simp); with_reducible rfl
 try simp only [sxA, sxB, sxC, Act.put, sxD, sxE, sxF]
 refine (hF.out _ _ _ _).1 ?_
 exact N1_3 _ _ W0 _ (by first | rfl | kernel_rfl) (by first | rfl | kernel_rfl) (by (try simp only [sxA, sxB, sxC, Act.put, sxD, sxE, sxF]); first | done | with_reducible rfl | rfl) s0
set_option maxHeartbeats 40000000 in
theorem stM9 {A_ : Act} {yB yD yF yH yI yJ yK yL yM yN yO yP yQ yR yS yT yU yV yW yX yY yZ zA zB zC zD zE zF zG zH zI zJ zK zL zM zN zO zP zQ zR zS zT zU zV zW zX zY zZ uA uB uC uD uE uF uG uH uI uJ uK uL uM uN uO uP uQ uR uS uT uU uV uW uX uY uZ iA iB iC iD iE iF iG iH iI iJ iK iL iM iN iO iP iQ iR iS iT iU iV iW iX iY iZ : Value} {l : List Met} {a : Option Addr} {cap : Nat} {T : Nat} {u c : Int} {s : Bool} {x : List Int} {a2 : Option Addr} {c2 : Nat} {w : World} (hA0_ : A_ = { tmps := #[.slice a l.length cap, yB, .bool s, yD, .slice a2 x.length c2, yF, .pointer (some ⟨T, 0, none⟩), yH, yI, yJ, yK, yL, yM, yN, yO, yP, yQ, yR, yS, yT, yU, yV, yW, yX, yY, yZ, zA, zB, zC, zD, zE, zF, zG, zH, zI, zJ, zK, zL, zM, zN, zO, zP, zQ, zR, zS, zT, zU, zV, zW, zX, zY, zZ, uA, uB, uC, uD, uE, uF, uG, uH, uI, uJ, uK, uL, uM, uN, uO, uP, uQ, uR, uS, uT, uU, uV, uW, uX, uY, uZ, iA, iB, iC, iD, iE, iF, iG, iH, iI, iJ, iK, iL, iM, iN, iO, iP, iQ, iR, iS, iT, iU, iV, iW, iX, iY, iZ], defers := [] }) (hq : FitM l) (hl : l.length ≤ 1000) (iu : I64 u) (ic : I64 c) (hx : ∀ i, I64 (nth x i)) (hlx : x.length ≤ 1000) (hm : Mts w a l) (hi : Ints w a2 x) (t0 : w.cell? ⟨T, 0, none⟩ = some (.int .i64 u)) (t1 : w.cell? ⟨T, 1, none⟩ = some (.int .i64 c)) :
 Code.wp Try.prog (rgn Try.f3 9) (fun e a' w' => e = .normal ∧ a' = ({ tmps := #[.slice a l.length cap,yB,.bool s,yD,.slice a2 x.length c2,yF,.pointer (some ⟨T, 0, none⟩),yH,yI,yJ,.bool true,yL,yM,yN,yO,yP,yQ,yR,yS,yT,yU,yV,yW,yX,yY,yZ,zA,zB,zC,zD,zE,zF,zG,zH,zI,zJ,zK,zL,zM,zN,zO,zP,zQ,zR,zS,zT,zU,zV,zW,zX,zY,zZ,uA,uB,uC,uD,uE,uF,uG,uH,uI,uJ,uK,uL,uM,uN,uO,uP,uQ,uR,uS,uT,uU,uV,uW,uX,uY,uZ,iA,iB,iC,iD,iE,iF,iG,iH,iI,iJ,iK,iL,.slice a l.length cap,.agg #[.int .i64 u, .int .i64 c],.bool s,.slice a2 x.length c2,.int .i64 (desE l u c s x),.slice a l.length cap,.agg #[.int .i64 u, .int .i64 c],.bool s,.slice a2 x.length c2,.int .i64 (desE l u c s x),.bool true,.bool true,.bool true,.bool true], defers := [] } : Act) ∧ Ext w w') A_ w := by
 conv => arg 2; whnf
 refine st_intro (fun Q2 hQ2 => ?_)
 have hA_ := hid hA0_
 clear hA0_
 have hpan : ∀ c a a' w w', Q2 (.panic c) a w → Q2 (.panic c) a' w' := by rw [hQ2]; rintro c a a' w w' ⟨h, _⟩; cases h
 replace hQ2 := hid hQ2
 replace hq := hid hq
 replace hl := hid hl
 replace iu := hid iu
 replace ic := hid ic
 replace hx := hid hx
 replace hlx := hid hlx
 replace hm := hid hm
 replace hi := hid hi
 have hRD_ := hid (fun w' (x_ : Ext w w') => And.intro (Ext.cell x_ t0) (Ext.cell x_ t1))
 refine wp_region_held_drew (S := fun w' => Ext w w') (by kernel_rfl) exE fun hHeld => ?_
 try simp only [List.append_eq, List.cons_append, List.nil_append]
 refine name_any (fun W0 hW => ?_)
 have s0 : Ext w W0 := by rw [hW]; exact hHeld
 clear hW hHeld
 refine wpF_intro 15 (by kernel_rfl) (fun F hF => ?_)
 replace hF := hid hF
 have N1_0 : ∀ (f_ : Nat) (l_ : Array Bool) (W0 : World) (a_ : Act), f_ = 3 → l_ = #[true, true, true, true, true, true, true, true, true, true, true, true, false, false, false] → a_ = ({ tmps := #[.slice a l.length cap,yB,.bool s,yD,.slice a2 x.length c2,yF,.pointer (some ⟨T, 0, none⟩),yH,yI,yJ,yK,yL,yM,yN,yO,yP,yQ,yR,yS,yT,yU,yV,yW,yX,yY,yZ,zA,zB,zC,zD,zE,zF,zG,zH,zI,zJ,zK,zL,zM,zN,zO,zP,zQ,zR,zS,zT,zU,zV,zW,zX,zY,zZ,uA,uB,uC,uD,uE,uF,uG,uH,uI,uJ,uK,uL,uM,uN,uO,uP,uQ,uR,uS,uT,uU,uV,uW,uX,uY,uZ,iA,iB,iC,iD,iE,iF,iG,iH,iI,iJ,iK,iL,.slice a l.length cap,.agg #[.int .i64 u, .int .i64 c],.bool s,.slice a2 x.length c2,.int .i64 (desE l u c s x),.slice a l.length cap,.agg #[.int .i64 u, .int .i64 c],.bool s,.slice a2 x.length c2,.int .i64 (desE l u c s x),.bool true,.bool true,iY,iZ], defers := [] } : Act) → Ext w W0 → F f_ l_ a_ W0 := by
  intro  f_ l_ W0 a_ hf_ hl_ ha_ s0
  subst hf_ hl_ ha_
  refine (hF.out _ _ _ _).2 ?_
  refine wpAnyH_ready (rs := [12]) (by kernel_rfl) (by simp) ?_
  refine AllReadyH.cons (o := _) rfl (fun K hK => ?_) AllReadyH.nil
  refine tk_call (by kernel_rfl) (works_any _) (by kernel_rfl) ?_; rintro e W1 ⟨rfl, e1⟩; refine ⟨_, rfl, ?_⟩
  have s1 := s0.trans e1
  refine hK.out _ _ s1 (fun _ => ?_)
  clear hK K
  try simp only [sxA, sxB, sxC, Act.put, sxD, sxE, sxF]
  refine tkB (i := 13) (v := ?_) rfl hpan ?yl ?_
  case yl => (intro w hSw; (try dsimp only at hSw);  go_simp); with_reducible rfl
  try simp only [sxA, sxB, sxC, Act.put, sxD, sxE, sxF]
  refine tkB (i := 14) (v := ?_) rfl hpan ?yl ?_
  case yl => (intro w hSw; (try dsimp only at hSw);  go_simp); with_reducible rfl
  try simp only [sxA, sxB, sxC, Act.put, sxD, sxE, sxF]
  refine wpAnyH_done (by kernel_rfl) ?_ _
  try simp only [sxA, sxB, sxC, Act.put, sxD, sxE, sxF]
  rw [hQ2.out]
  refine ⟨rfl, ?eq1_1, s1⟩
  case eq1_1 => (first | with_reducible rfl | rfl)
 have N1_1 : ∀ (f_ : Nat) (l_ : Array Bool) (W0 : World) (a_ : Act), f_ = 6 → l_ = #[true, true, true, true, true, true, true, true, true, false, false, false, false, false, false] → a_ = ({ tmps := #[.slice a l.length cap,yB,.bool s,yD,.slice a2 x.length c2,yF,.pointer (some ⟨T, 0, none⟩),yH,yI,yJ,yK,yL,yM,yN,yO,yP,yQ,yR,yS,yT,yU,yV,yW,yX,yY,yZ,zA,zB,zC,zD,zE,zF,zG,zH,zI,zJ,zK,zL,zM,zN,zO,zP,zQ,zR,zS,zT,zU,zV,zW,zX,zY,zZ,uA,uB,uC,uD,uE,uF,uG,uH,uI,uJ,uK,uL,uM,uN,uO,uP,uQ,uR,uS,uT,uU,uV,uW,uX,uY,uZ,iA,iB,iC,iD,iE,iF,iG,iH,iI,iJ,iK,iL,.slice a l.length cap,.agg #[.int .i64 u, .int .i64 c],.bool s,.slice a2 x.length c2,.int .i64 (desE l u c s x),.slice a l.length cap,.agg #[.int .i64 u, .int .i64 c],.bool s,.slice a2 x.length c2,iV,iW,iX,iY,iZ], defers := [] } : Act) → Ext w W0 → F f_ l_ a_ W0 := by
  intro  f_ l_ W0 a_ hf_ hl_ ha_ s0
  subst hf_ hl_ ha_
  refine (hF.out _ _ _ _).2 ?_
  refine wpAnyH_ready (rs := [9]) (by kernel_rfl) (by simp) ?_
  refine AllReadyH.cons (o := _) rfl (fun K hK => ?_) AllReadyH.nil
  refine tk_call (by kernel_rfl) (deservesR_any l hq.out hl.out a cap u c s x hx.out hlx.out a2 c2 _ (hm.out.ext s0) (hi.out.ext s0)) (by kernel_rfl) ?_; rintro e W1 ⟨rfl, e1⟩; refine ⟨_, rfl, ?_⟩
  have s1 := s0.trans e1
  refine hK.out _ _ s1 (fun _ => ?_)
  clear hK K
  try simp only [sxA, sxB, sxC, Act.put, sxD, sxE, sxF]
  refine tkB (i := 10) (v := ?_) rfl hpan ?yl ?_
  case yl => (intro w hSw; (try dsimp only at hSw);  go_simp); with_reducible rfl
  try simp only [sxA, sxB, sxC, Act.put, sxD, sxE, sxF]
  refine tkB (i := 11) (v := ?_) rfl hpan ?yl ?_
  case yl => (intro w hSw; (try dsimp only at hSw);  go_simp); with_reducible rfl
  try simp only [sxA, sxB, sxC, Act.put, sxD, sxE, sxF]
  refine (hF.out _ _ _ _).1 ?_
  exact N1_0 _ _ W1 _ (by first | rfl | kernel_rfl) (by first | rfl | kernel_rfl) (by (try simp only [sxA, sxB, sxC, Act.put, sxD, sxE, sxF]); first | done | with_reducible rfl | rfl) s1
 have N1_2 : ∀ (f_ : Nat) (l_ : Array Bool) (W0 : World) (a_ : Act), f_ = 7 → l_ = #[true, true, true, true, false, true, true, true, true, false, false, false, false, false, false] → a_ = ({ tmps := #[.slice a l.length cap,yB,.bool s,yD,.slice a2 x.length c2,yF,.pointer (some ⟨T, 0, none⟩),yH,yI,yJ,yK,yL,yM,yN,yO,yP,yQ,yR,yS,yT,yU,yV,yW,yX,yY,yZ,zA,zB,zC,zD,zE,zF,zG,zH,zI,zJ,zK,zL,zM,zN,zO,zP,zQ,zR,zS,zT,zU,zV,zW,zX,zY,zZ,uA,uB,uC,uD,uE,uF,uG,uH,uI,uJ,uK,uL,uM,uN,uO,uP,uQ,uR,uS,uT,uU,uV,uW,uX,uY,uZ,iA,iB,iC,iD,iE,iF,iG,iH,iI,iJ,iK,iL,.slice a l.length cap,.agg #[.int .i64 u, .int .i64 c],.bool s,.slice a2 x.length c2,iQ,.slice a l.length cap,.agg #[.int .i64 u, .int .i64 c],.bool s,.slice a2 x.length c2,iV,iW,iX,iY,iZ], defers := [] } : Act) → Ext w W0 → F f_ l_ a_ W0 := by
  intro  f_ l_ W0 a_ hf_ hl_ ha_ s0
  subst hf_ hl_ ha_
  refine (hF.out _ _ _ _).2 ?_
  clear N1_0
  refine wpAnyH_ready (rs := [4]) (by kernel_rfl) (by simp) ?_
  refine AllReadyH.cons (o := _) rfl (fun K hK => ?_) AllReadyH.nil
  refine tk_call (by kernel_rfl) (deserves_any l hq.out hl.out a cap u c iu.out ic.out s x hx.out hlx.out a2 c2 _ (hm.out.ext s0) (hi.out.ext s0)) (by kernel_rfl) ?_; rintro e W1 ⟨rfl, e1⟩; refine ⟨_, rfl, ?_⟩
  have s1 := s0.trans e1
  refine hK.out _ _ s1 (fun _ => ?_)
  clear hK K
  try simp only [sxA, sxB, sxC, Act.put, sxD, sxE, sxF]
  refine (hF.out _ _ _ _).1 ?_
  exact N1_1 _ _ W1 _ (by first | rfl | kernel_rfl) (by first | rfl | kernel_rfl) (by (try simp only [sxA, sxB, sxC, Act.put, sxD, sxE, sxF]); first | done | with_reducible rfl | rfl) s1
 rw [hA_.out]
 refine (hF.out _ _ _ _).2 ?_
 refine tkB (i := 0) (v := ?_) rfl hpan ?yl ?_
 case yl => (intro w hSw; (try dsimp only at hSw);  go_simp); with_reducible rfl
 try simp only [sxA, sxB, sxC, Act.put, sxD, sxE, sxF]
 refine tkB (i := 1) (v := ?_) rfl hpan ?yl ?_
 case yl => (intro w hSw; have k_ := hRD_.out w hSw; go_simp); with_reducible rfl
 try simp only [sxA, sxB, sxC, Act.put, sxD, sxE, sxF]
 refine tkB (i := 2) (v := ?_) rfl hpan ?yl ?_
 case yl => (intro w hSw; (try dsimp only at hSw);  go_simp); with_reducible rfl
 try simp only [sxA, sxB, sxC, Act.put, sxD, sxE, sxF]
 refine tkB (i := 3) (v := ?_) rfl hpan ?yl ?_
 case yl => (intro w hSw; (try dsimp only at hSw);  go_simp); with_reducible rfl
 try simp only [sxA, sxB, sxC, Act.put, sxD, sxE, sxF]
 refine tkB (i := 5) (v := ?_) rfl hpan ?yl ?_
 case yl => (intro w hSw; (try dsimp only at hSw);  go_simp); with_reducible rfl
 try simp only [sxA, sxB, sxC, Act.put, sxD, sxE, sxF]
 refine tkB (i := 6) (v := ?_) rfl hpan ?yl ?_
 case yl => (intro w hSw; have k_ := hRD_.out w hSw; go_simp); with_reducible rfl
 try simp only [sxA, sxB, sxC, Act.put, sxD, sxE, sxF]
 refine tkB (i := 7) (v := ?_) rfl hpan ?yl ?_
 case yl => (intro w hSw; (try dsimp only at hSw);  go_simp); with_reducible rfl
 try simp only [sxA, sxB, sxC, Act.put, sxD, sxE, sxF]
 refine tkB (i := 8) (v := ?_) rfl hpan ?yl ?_
 case yl => (intro w hSw; (try dsimp only at hSw);  go_simp); with_reducible rfl
 try simp only [sxA, sxB, sxC, Act.put, sxD, sxE, sxF]
 refine (hF.out _ _ _ _).1 ?_
 exact N1_2 _ _ W0 _ (by first | rfl | kernel_rfl) (by first | rfl | kernel_rfl) (by (try simp only [sxA, sxB, sxC, Act.put, sxD, sxE, sxF]); first | done | with_reducible rfl | rfl) s0

end Go.Proofs.Ytpnfhcnnodolbaa
namespace Go.Proofs.Ytpnfhcnnodolbaa
set_option linter.unusedVariables false
set_option linter.unusedSimpArgs false
set_option linter.unusedSectionVars false
set_option linter.unnecessarySimpa false
open Go Go.RowKit Game
set_option maxRecDepth 100000
theorem greatL_any (a : Option Addr) (cap n : Nat) (a2 : Option Addr) (c2 k : Nat) (hn : n ≤ 9223372036854775807) (hk : k ≤ 9223372036854775807) (w : World) :
 Calls Try.prog 17 #[.slice a n cap, .slice a2 k c2] w fun e w' => e = .returned (.bool (decide (12 < n) || decide (12 < k))) ∧ Ext w w' := by
 by_cases g : 12 < n
 ·have gI : (12 : Int) < (n : Int) := by omega
  have H := hid (show (decide (12 < n) || decide (12 < k)) = true by simp [g])
  go_enter Try.func17, Try.ntmps17
  go_wp2_with fail
  go_ret
  first | exact ⟨ret_bool H.out.symm, exE⟩ | exact ⟨rfl, exE⟩
 ·have gI : ¬ (12 : Int) < (n : Int) := by omega
  by_cases g2 : 12 < k
  ·have gI2 : (12 : Int) < (k : Int) := by omega
   have H := hid (show (decide (12 < n) || decide (12 < k)) = true by simp [g2])
   go_enter Try.func17, Try.ntmps17
   go_wp2_with fail
   go_ret
   first | exact ⟨ret_bool H.out.symm, exE⟩ | exact ⟨rfl, exE⟩
  ·have gI2 : ¬ (12 : Int) < (k : Int) := by omega
   have H := hid (show (decide (12 < n) || decide (12 < k)) = false by simp [g, g2])
   go_enter Try.func17, Try.ntmps17
   go_wp2_with fail
   go_ret
   first | exact ⟨ret_bool H.out.symm, exE⟩ | exact ⟨rfl, exE⟩
set_option maxHeartbeats 800000 in
theorem fineL_any (l : List Met) (q : FitM l) (hl : l.length ≤ 9223372036854775807) (a : Option Addr) (cap : Nat) (u c : Int) (w : World) (hM : Mts w a l) :
 Calls Try.prog 42 #[.slice a l.length cap, (.agg #[.int .i64 (u), .int .i64 (c)])] w fun e w' => e = .returned (.bool (decide (chkB l u c = 0))) ∧ Ext w w' := by
 have hg := hid (fun W => greatL_any a cap l.length none 0 0 hl (by decide) W)
 by_cases g : 12 < l.length
 ·rw [show (decide (12 < l.length) || decide (12 < 0)) = true by simp [g]] at hg
  have H := hid (show decide (chkB l u c = 0) = false by
   rw [decide_eq_false_iff_not]
   intro h
   have := (chkB_ok h).1.n6
   omega)
  replace g := hid g
  go_enter Try.func42, Try.ntmps42
  go_wp2_with fail
  refine (hg.out _).mono ?_; rintro e w1 ⟨rfl, hE⟩
  have x1 : Ext w w1 := exE
  go_wp2_with fail
  go_ret
  exact ⟨ret_bool H.out.symm, exE⟩
 rw [show (decide (12 < l.length) || decide (12 < 0)) = false by simp [g]] at hg
 have hcm := hid (fun W (y : Ext w W) => checkMetalsR_any l q (by omega) a cap W (hM.ext y))
 by_cases g1 : chkM l = 0
 ·rw [g1] at hcm
  have hct := hid (fun W => checkTouchR_any u c W)
  have H := hid (show decide (chkB l u c = 0) = decide (chkU u c = 0) by unfold chkB; rw [if_pos g1])
  obtain ⟨E, hE⟩ : ∃ E, chkU u c = E := ⟨_, rfl⟩
  rw [hE] at hct H
  replace g := hid g
  replace g1 := hid g1
  clear hE q hM
  have H2 := hid (show (E == 0) = decide (E = 0) from rfl)
  go_enter Try.func42, Try.ntmps42
  go_wp2_with fail
  refine (hg.out _).mono ?_; rintro e w1 ⟨rfl, hE⟩
  have t0 := hE.cell (p := ⟨w.heap.size, 0, none⟩) (v := .int .i64 u) (by simp [go_sem])
  have t1 := hE.cell (p := ⟨w.heap.size, 1, none⟩) (v := .int .i64 c) (by simp [go_sem])
  have x1 := hid (show Ext w w1 from exE)
  clear hE
  go_wp2_with fail
  refine (hcm.out _ (by have := x1.out; exact exE)).mono ?_; rintro e w2 ⟨rfl, hE⟩
  replace t0 := hE.cell t0
  replace t1 := hE.cell t1
  have x2 := hid (show Ext w w2 by have := x1.out; exact exE)
  clear hE
  go_wp2_with fail
  refine (hct.out _).mono ?_; rintro e w3 ⟨rfl, hE⟩
  have x3 := hid (show Ext w w3 by have := x2.out; exact exE)
  go_wp2_with fail
  go_ret
  exact ⟨ret_bool (by rw [H.out, ← H2.out]), x3.out⟩
 ·have H := hid (show decide (chkB l u c = 0) = false by rw [decide_eq_false_iff_not]; unfold chkB; rw [if_neg g1]; exact g1)
  have g2 : (chkM l == 0) = false := by rw [beq_eq_false_iff_ne]; exact g1
  obtain ⟨E, hE⟩ : ∃ E, chkM l = E := ⟨_, rfl⟩
  rw [hE] at hcm g2
  replace g := hid g
  replace g1 := hid g1
  clear hE q hM
  go_enter Try.func42, Try.ntmps42
  go_wp2_with fail
  refine (hg.out _).mono ?_; rintro e w1 ⟨rfl, hE⟩
  have x1 := hid (show Ext w w1 from exE)
  clear hE
  go_wp2_with fail
  refine (hcm.out _ (by have := x1.out; exact exE)).mono ?_; rintro e w2 ⟨rfl, hE⟩
  have x2 := hid (show Ext w w2 by have := x1.out; exact exE)
  go_wp2_with fail
  go_ret
  exact ⟨ret_bool H.out.symm, x2.out⟩

end Go.Proofs.Ytpnfhcnnodolbaa
namespace Go.Proofs.Ytpnfhcnnodolbaa
set_option linter.unusedVariables false
set_option linter.unusedSimpArgs false
set_option linter.unusedSectionVars false
set_option linter.unnecessarySimpa false
open Go Go.RowKit Game
set_option maxRecDepth 100000
set_option maxHeartbeats 8000000 in
theorem alloyMetals_any (l : List Met) (q : FitM l) (a : Option Addr) (cap : Nat) (u c : Int) (s cp : Bool) (x : List Int) (hx : ∀ i, I64 (nth x i)) (a2 : Option Addr) (c2 : Nat) (w : World) (hM : Mts w a l) (hl : l.length ≤ 9223372036854775807) (iu : I64 u) (ic : I64 c) (hI : Ints w a2 x) (hlx : x.length ≤ 9223372036854775807) :
 Calls Try.prog 3 #[.slice a l.length cap, (.agg #[.int .i64 (u), .int .i64 (c)]), .bool s, .bool cp, .slice a2 x.length c2] w fun e w' => e = .returned (.bool true) ∧ Ext w w' := by
 have hg := hid (fun W => greatL_any a cap l.length a2 c2 x.length hl hlx W)
 by_cases g : 12 < l.length ∨ 12 < x.length
 ·rw [show (decide (12 < l.length) || decide (12 < x.length)) = true by simpa using g] at hg
  replace g := hid g
  go_enter Try.func3, Try.ntmps3
  go_wp2_with fail
  refine (hg.out _).mono ?_; rintro e w1 ⟨rfl, hE⟩
  go_wp2_with fail
  refine (works_any _).mono ?_; rintro e w2 ⟨rfl, hE2⟩
  go_wp2_with fail
  go_ret
  exact ⟨rfl, exE⟩
 rw [show (decide (12 < l.length) || decide (12 < x.length)) = false by simpa using g] at hg
 have hl2 : l.length ≤ 1000 := by omega
 have hlx2 : x.length ≤ 1000 := by omega
 replace hM := hid hM
 replace hI := hid hI
 have hq := hid q
 have hx' := hid hx
 replace g := hid g
 clear q hx
 go_enter Try.func3, Try.ntmps3
 go_wp2_with fail
 refine (hg.out _).mono ?_; rintro e w1 ⟨rfl, hE⟩
 have X := hid (show Ext w w1 from exE)
 have t0 := hid (hE.cell (p := ⟨w.heap.size, 0, none⟩) (v := .int .i64 u) (by simp [go_sem]))
 have t1 := hid (hE.cell (p := ⟨w.heap.size, 1, none⟩) (v := .int .i64 c) (by simp [go_sem]))
 replace hM := hid (hM.out.ext X.out)
 replace hI := hid (hI.out.ext X.out)
 obtain ⟨T, hT⟩ : ∃ T, w.heap.size = T := ⟨_, rfl⟩
 rw [hT] at t0 t1 ⊢
 clear hE hg hT
 go_wp2_with fail
 refine (costC_any l hq.out hl2 a cap x hx'.out hlx2 a2 c2 _ (hM.out.ext exE) (hI.out.ext exE)).mono ?_; rintro e u1 ⟨rfl, hE⟩
 have x1 : Ext w1 u1 := exE
 replace hM := hid (hM.out.ext x1)
 replace hI := hid (hI.out.ext x1)
 replace t0 := hid (x1.cell t0.out)
 replace t1 := hid (x1.cell t1.out)
 replace X := hid (X.out.trans x1)
 clear hE x1
 go_wp2_with fail
 refine name_c (fun v1 hv => ?_)
 have y1 : Ext u1 v1 := by rw [hv]; exact exE
 have b11_0 := hid (show v1.cell? ⟨u1.heap.size, 0, none⟩ = some (.int .i64 (costNE l x)) by rw [hv]; simp [go_sem])
 have b11_1 := hid (show v1.cell? ⟨u1.heap.size, 1, none⟩ = some (.int .i64 (costDE l x)) by rw [hv]; simp [go_sem])
 replace hM := hid (hM.out.ext y1)
 replace hI := hid (hI.out.ext y1)
 replace t0 := hid (y1.cell t0.out)
 replace t1 := hid (y1.cell t1.out)
 replace X := hid (X.out.trans y1)
 clear hv y1
 refine (costR_any l hq.out hl2 a cap x hx'.out hlx2 a2 c2 _ (hM.out.ext exE) (hI.out.ext exE)).mono ?_; rintro e u2 ⟨rfl, hE⟩
 have x2 : Ext v1 u2 := exE
 replace hM := hid (hM.out.ext x2)
 replace hI := hid (hI.out.ext x2)
 replace t0 := hid (x2.cell t0.out)
 replace t1 := hid (x2.cell t1.out)
 replace b11_0 := hid (x2.cell b11_0.out)
 replace b11_1 := hid (x2.cell b11_1.out)
 replace X := hid (X.out.trans x2)
 clear hE x2
 go_wp2_with fail
 refine name_c (fun v2 hv => ?_)
 have y2 : Ext u2 v2 := by rw [hv]; exact exE
 have b13_0 := hid (show v2.cell? ⟨u2.heap.size, 0, none⟩ = some (.int .i64 (costNE l x)) by rw [hv]; simp [go_sem])
 have b13_1 := hid (show v2.cell? ⟨u2.heap.size, 1, none⟩ = some (.int .i64 (costDE l x)) by rw [hv]; simp [go_sem])
 replace hM := hid (hM.out.ext y2)
 replace hI := hid (hI.out.ext y2)
 replace t0 := hid (y2.cell t0.out)
 replace t1 := hid (y2.cell t1.out)
 replace b11_0 := hid (y2.cell b11_0.out)
 replace b11_1 := hid (y2.cell b11_1.out)
 replace X := hid (X.out.trans y2)
 clear hv y2
 refine (endsC_any l hq.out hl2 a cap x hx'.out hlx2 a2 c2 cp _ (hM.out.ext exE) (hI.out.ext exE)).mono ?_; rintro e u3 ⟨rfl, hE⟩
 have x3 : Ext v2 u3 := exE
 replace hM := hid (hM.out.ext x3)
 replace hI := hid (hI.out.ext x3)
 replace t0 := hid (x3.cell t0.out)
 replace t1 := hid (x3.cell t1.out)
 replace b11_0 := hid (x3.cell b11_0.out)
 replace b11_1 := hid (x3.cell b11_1.out)
 replace b13_0 := hid (x3.cell b13_0.out)
 replace b13_1 := hid (x3.cell b13_1.out)
 replace X := hid (X.out.trans x3)
 clear hE x3
 go_wp2_with fail
 refine name_c (fun v3 hv => ?_)
 have y3 : Ext u3 v3 := by rw [hv]; exact exE
 have b15_0 := hid (show v3.cell? ⟨u3.heap.size, 0, none⟩ = some (.int .i64 (nth (endX l cp x) 0)) by rw [hv]; simp [go_sem])
 have b15_1 := hid (show v3.cell? ⟨u3.heap.size, 1, none⟩ = some (.int .i64 (nth (endX l cp x) 1)) by rw [hv]; simp [go_sem])
 have b16_0 := hid (show v3.cell? ⟨u3.heap.size + 1, 0, none⟩ = some (.int .i64 (nth (endX l cp x) 2)) by rw [hv]; simp [go_sem])
 have b16_1 := hid (show v3.cell? ⟨u3.heap.size + 1, 1, none⟩ = some (.int .i64 (nth (endX l cp x) 3)) by rw [hv]; simp [go_sem])
 replace hM := hid (hM.out.ext y3)
 replace hI := hid (hI.out.ext y3)
 replace t0 := hid (y3.cell t0.out)
 replace t1 := hid (y3.cell t1.out)
 replace b11_0 := hid (y3.cell b11_0.out)
 replace b11_1 := hid (y3.cell b11_1.out)
 replace b13_0 := hid (y3.cell b13_0.out)
 replace b13_1 := hid (y3.cell b13_1.out)
 replace X := hid (X.out.trans y3)
 clear hv y3
 refine (endsR_any l hq.out hl2 a cap x hx'.out hlx2 a2 c2 cp _ (hM.out.ext exE) (hI.out.ext exE)).mono ?_; rintro e u4 ⟨rfl, hE⟩
 have x4 : Ext v3 u4 := exE
 replace hM := hid (hM.out.ext x4)
 replace hI := hid (hI.out.ext x4)
 replace t0 := hid (x4.cell t0.out)
 replace t1 := hid (x4.cell t1.out)
 replace b11_0 := hid (x4.cell b11_0.out)
 replace b11_1 := hid (x4.cell b11_1.out)
 replace b13_0 := hid (x4.cell b13_0.out)
 replace b13_1 := hid (x4.cell b13_1.out)
 replace b15_0 := hid (x4.cell b15_0.out)
 replace b15_1 := hid (x4.cell b15_1.out)
 replace b16_0 := hid (x4.cell b16_0.out)
 replace b16_1 := hid (x4.cell b16_1.out)
 replace X := hid (X.out.trans x4)
 clear hE x4
 go_upto_region 7 with (fail)
 refine name_wp (fun v4 hv => ?_)
 have y4 : Ext u4 v4 := by rw [hv]; exact exE
 have b18_0 := hid (show v4.cell? ⟨u4.heap.size, 0, none⟩ = some (.int .i64 (nth (endX l cp x) 0)) by rw [hv]; simp [go_sem])
 have b18_1 := hid (show v4.cell? ⟨u4.heap.size, 1, none⟩ = some (.int .i64 (nth (endX l cp x) 1)) by rw [hv]; simp [go_sem])
 have b19_0 := hid (show v4.cell? ⟨u4.heap.size + 1, 0, none⟩ = some (.int .i64 (nth (endX l cp x) 2)) by rw [hv]; simp [go_sem])
 have b19_1 := hid (show v4.cell? ⟨u4.heap.size + 1, 1, none⟩ = some (.int .i64 (nth (endX l cp x) 3)) by rw [hv]; simp [go_sem])
 replace hM := hid (hM.out.ext y4)
 replace hI := hid (hI.out.ext y4)
 replace t0 := hid (y4.cell t0.out)
 replace t1 := hid (y4.cell t1.out)
 replace b11_0 := hid (y4.cell b11_0.out)
 replace b11_1 := hid (y4.cell b11_1.out)
 replace b13_0 := hid (y4.cell b13_0.out)
 replace b13_1 := hid (y4.cell b13_1.out)
 replace b15_0 := hid (y4.cell b15_0.out)
 replace b15_1 := hid (y4.cell b15_1.out)
 replace b16_0 := hid (y4.cell b16_0.out)
 replace b16_1 := hid (y4.cell b16_1.out)
 replace X := hid (X.out.trans y4)
 clear hv y4
 refine wp_mono (stM7 rfl hq.out hl2 iu ic hM.out t0.out t1.out b11_0.out b11_1.out b13_0.out b13_1.out b15_0.out b15_1.out b18_0.out b18_1.out b16_0.out b16_1.out b19_0.out b19_1.out) ?_
 rintro e a' v5 ⟨rfl, rfl, x⟩
 replace hM := hid (hM.out.ext x)
 replace hI := hid (hI.out.ext x)
 replace t0 := hid (x.cell t0.out)
 replace t1 := hid (x.cell t1.out)
 replace b11_0 := hid (x.cell b11_0.out)
 replace b11_1 := hid (x.cell b11_1.out)
 replace b13_0 := hid (x.cell b13_0.out)
 replace b13_1 := hid (x.cell b13_1.out)
 replace b15_0 := hid (x.cell b15_0.out)
 replace b15_1 := hid (x.cell b15_1.out)
 replace b16_0 := hid (x.cell b16_0.out)
 replace b16_1 := hid (x.cell b16_1.out)
 replace b18_0 := hid (x.cell b18_0.out)
 replace b18_1 := hid (x.cell b18_1.out)
 replace b19_0 := hid (x.cell b19_0.out)
 replace b19_1 := hid (x.cell b19_1.out)
 replace X := hid (X.out.trans x)
 clear x
 go_upto_region 9 with (fail)
 refine wp_mono (stM9 rfl hq.out hl2 iu ic hx'.out hlx2 hM.out hI.out t0.out t1.out) ?_
 rintro e a' v6 ⟨rfl, rfl, xx⟩
 replace X := hid (X.out.trans xx)
 go_wp2_with fail
 go_ret
 exact ⟨rfl, X.out⟩

end Go.Proofs.Ytpnfhcnnodolbaa
