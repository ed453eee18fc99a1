/- Texts of one proof, laid together: LaTa, LaG, LaT. -/
import Derived.Test.YtpnfhcnnodolbaaZB10
import Derived.Test.YtpnfhcnnodolbaaWk
import Derived.Test.YtpnfhcnnodolbaaTms
namespace Go.Proofs.Ytpnfhcnnodolbaa
set_option linter.unusedVariables false
set_option linter.unusedSimpArgs false
set_option linter.unusedSectionVars false
set_option linter.unnecessarySimpa false
open Go Go.RowKit Game
set_option maxRecDepth 100000
set_option maxHeartbeats 40000000 in
theorem stT13 {A_ : Act} {yB yD yE yF yG yI yJ yK yL yM yP zA zB zC zD zE zF zG zH zI zJ zK zL zM zN zO zP zQ zR zS zT zU zV zW zX zY zZ uA uB uC uD uE uF uG uH uI uJ uK uL uM uN uO uP uQ uR uS uT uU uV uW uX uY uZ iA iB iC iD iE iF iG iH iI iJ iK iL iM iN iO iP iQ iR iS iT iU iV iW iX iY iZ oA oB oC oD oE oF oG oH oI oJ oK oL oM oN oO oP oQ oR oS oT oU oV oW oX oY oZ qA : Value} {l : List Met} {a a1 a2 : Option Addr} {n cap c1 c2 T B16 B18 B20 B23 B21 B24 : Nat} {x y : List Int} {u c N D N1 D1 N2 D2 : Int} {s : Bool} {w : World} (hA0_ : A_ = { tmps := #[.slice a n cap, yB, .bool s, yD, yE, yF, yG, .pointer (some ⟨T, 0, none⟩), yI, yJ, yK, yL, yM, .slice a1 n c1, .slice a2 n c2, yP, .pointer (some ⟨B16, 0, none⟩), .int .i64 0, .pointer (some ⟨B18, 0, none⟩), .int .i64 0, .pointer (some ⟨B20, 0, none⟩), .pointer (some ⟨B21, 0, none⟩), .int .i64 0, .pointer (some ⟨B23, 0, none⟩), .pointer (some ⟨B24, 0, none⟩), .int .i64 0, zA, zB, zC, zD, zE, zF, zG, zH, zI, zJ, zK, zL, zM, zN, zO, zP, zQ, zR, zS, zT, zU, zV, zW, zX, zY, zZ, uA, uB, uC, uD, uE, uF, uG, uH, uI, uJ, uK, uL, uM, uN, uO, uP, uQ, uR, uS, uT, uU, uV, uW, uX, uY, uZ, iA, iB, iC, iD, iE, iF, iG, iH, iI, iJ, iK, iL, iM, iN, iO, iP, iQ, iR, iS, iT, iU, iV, iW, iX, iY, iZ, oA, oB, oC, oD, oE, oF, oG, oH, oI, oJ, oK, oL, oM, oN, oO, oP, oQ, oR, oS, oT, oU, oV, oW, oX, oY, oZ, qA], defers := [] }) (hq : FitM l) (hl : l.length ≤ 1000) (iu : I64 u) (ic : I64 c) (hx : ∀ i, I64 (nth x i)) (hlx : x.length ≤ 1000) (hy : ∀ i, I64 (nth y i)) (hly : y.length ≤ 1000) (hde : desE l u c s y = desE l u c s x) (hn : l.length = n) (hxn : x.length = n) (hyn : y.length = n) (hm : Mts w a l) (hi : Ints w a1 x) (hj : Ints w a2 y) (t0 : w.cell? ⟨T, 0, none⟩ = some (.int .i64 u)) (t1 : w.cell? ⟨T, 1, none⟩ = some (.int .i64 c)) (b16_0 : w.cell? ⟨B16, 0, none⟩ = some (.int .i64 N)) (b16_1 : w.cell? ⟨B16, 1, none⟩ = some (.int .i64 D)) (b18_0 : w.cell? ⟨B18, 0, none⟩ = some (.int .i64 N)) (b18_1 : w.cell? ⟨B18, 1, none⟩ = some (.int .i64 D)) (b20_0 : w.cell? ⟨B20, 0, none⟩ = some (.int .i64 N1)) (b20_1 : w.cell? ⟨B20, 1, none⟩ = some (.int .i64 D1)) (b23_0 : w.cell? ⟨B23, 0, none⟩ = some (.int .i64 N1)) (b23_1 : w.cell? ⟨B23, 1, none⟩ = some (.int .i64 D1)) (b21_0 : w.cell? ⟨B21, 0, none⟩ = some (.int .i64 N2)) (b21_1 : w.cell? ⟨B21, 1, none⟩ = some (.int .i64 D2)) (b24_0 : w.cell? ⟨B24, 0, none⟩ = some (.int .i64 N2)) (b24_1 : w.cell? ⟨B24, 1, none⟩ = some (.int .i64 D2)) :
 Code.wp Try.prog (rgn Try.f14 13) (fun e a' w' => e = .normal ∧ a' = ({ tmps := #[.slice a n cap,yB,.bool s,yD,yE,yF,yG,.pointer (some ⟨T, 0, none⟩),yI,yJ,yK,yL,.bool true,.slice a1 n c1,.slice a2 n c2,yP,.pointer (some ⟨B16, 0, none⟩),.int .i64 0,.pointer (some ⟨B18, 0, none⟩),.int .i64 0,.pointer (some ⟨B20, 0, none⟩),.pointer (some ⟨B21, 0, none⟩),.int .i64 0,.pointer (some ⟨B23, 0, none⟩),.pointer (some ⟨B24, 0, none⟩),.int .i64 0,zA,zB,zC,zD,zE,zF,zG,zH,zI,zJ,zK,zL,zM,zN,zO,zP,zQ,zR,zS,zT,zU,zV,zW,zX,zY,zZ,uA,uB,uC,uD,uE,uF,uG,uH,uI,uJ,uK,uL,uM,uN,uO,uP,uQ,uR,uS,uT,uU,uV,uW,uX,uY,uZ,iA,iB,iC,iD,iE,iF,iG,iH,.int .i64 0,.bool true,.bool true,.int .i64 0,.bool true,.bool true,.bool true,.agg #[.int .i64 N, .int .i64 D],.agg #[.int .i64 N, .int .i64 D],.bool true,.bool true,.bool true,.int .i64 0,.bool true,.bool true,.bool true,.int .i64 0,.bool true,.bool true,.bool true,.agg #[.int .i64 N1, .int .i64 D1],.agg #[.int .i64 N1, .int .i64 D1],.bool true,.bool true,.bool true,.agg #[.int .i64 N2, .int .i64 D2],.agg #[.int .i64 N2, .int .i64 D2],.bool true,.bool true,.bool true,.slice a n cap,.agg #[.int .i64 u, .int .i64 c],.bool s,.slice a1 n c1,.int .i64 (desE l u c s x),.slice a n cap,.agg #[.int .i64 u, .int .i64 c],.bool s,.slice a2 n c2,.int .i64 (desE l u c s x),.bool true,.bool true,.bool true,.bool true,.bool true], defers := [] } : Act) ∧ Ext w w') A_ w := by
 conv => arg 2; whnf
 refine st_intro (fun Q2 hQ2 => ?_)
 have hA_ := hid hA0_
 clear hA0_
 have hpan : ∀ c a a' w w', Q2 (.panic c) a w → Q2 (.panic c) a' w' := by rw [hQ2]; rintro c a a' w w' ⟨h, _⟩; cases h
 replace hQ2 := hid hQ2
 replace hq := hid hq
 replace hl := hid hl
 replace iu := hid iu
 replace ic := hid ic
 replace hx := hid hx
 replace hlx := hid hlx
 replace hy := hid hy
 replace hly := hid hly
 replace hde := hid hde
 replace hn := hid hn
 replace hxn := hid hxn
 replace hyn := hid hyn
 replace hm := hid hm
 replace hi := hid hi
 replace hj := hid hj
 have heq : ∀ (p q : Int) w, (Op.equalIn 10000 29 (.agg #[.int .i64 p, .int .i64 q]) (.agg #[.int .i64 p, .int .i64 q])).run Try.prog w = .ok true w := fun p q w => by rw [run_eqRatio]; simp
 have hdy := hid (fun W h1 h2 => by have := deserves_any l hq.out hl.out a cap u c iu.out ic.out s y hy.out hly.out a2 c2 W h1 h2; rw [hde.out, hn.out, hyn.out] at this; exact this)
 have hdx := hid (fun W h1 h2 => by have := deserves_any l hq.out hl.out a cap u c iu.out ic.out s x hx.out hlx.out a1 c1 W h1 h2; rw [hn.out, hxn.out] at this; exact this)
 have hRD_ := hid (fun w' (x_ : Ext w w') => And.intro (Ext.cell x_ t0) (And.intro (Ext.cell x_ t1) (And.intro (Ext.cell x_ b16_0) (And.intro (Ext.cell x_ b16_1) (And.intro (Ext.cell x_ b18_0) (And.intro (Ext.cell x_ b18_1) (And.intro (Ext.cell x_ b20_0) (And.intro (Ext.cell x_ b20_1) (And.intro (Ext.cell x_ b23_0) (And.intro (Ext.cell x_ b23_1) (And.intro (Ext.cell x_ b21_0) (And.intro (Ext.cell x_ b21_1) (And.intro (Ext.cell x_ b24_0) (Ext.cell x_ b24_1))))))))))))))
 refine wp_region_held_drew (S := fun w' => Ext w w') (by kernel_rfl) exE fun hHeld => ?_
 try simp only [List.append_eq, List.cons_append, List.nil_append]
 refine name_any (fun W0 hW => ?_)
 have s0 : Ext w W0 := by rw [hW]; exact hHeld
 clear hW hHeld
 refine wpF_intro 46 (by kernel_rfl) (fun F hF => ?_)
 replace hF := hid hF
 have N1_0 : ∀ (f_ : Nat) (l_ : Array Bool) (W0 : World) (a_ : Act), f_ = 3 → l_ = #[true, true, true, true, true, true, true, true, true, true, true, true, true, true, true, true, true, true, true, true, true, true, true, true, true, true, true, true, true, true, true, true, true, true, true, true, true, true, true, true, true, true, true, false, false, false] → a_ = ({ tmps := #[.slice a n cap,yB,.bool s,yD,yE,yF,yG,.pointer (some ⟨T, 0, none⟩),yI,yJ,yK,yL,yM,.slice a1 n c1,.slice a2 n c2,yP,.pointer (some ⟨B16, 0, none⟩),.int .i64 0,.pointer (some ⟨B18, 0, none⟩),.int .i64 0,.pointer (some ⟨B20, 0, none⟩),.pointer (some ⟨B21, 0, none⟩),.int .i64 0,.pointer (some ⟨B23, 0, none⟩),.pointer (some ⟨B24, 0, none⟩),.int .i64 0,zA,zB,zC,zD,zE,zF,zG,zH,zI,zJ,zK,zL,zM,zN,zO,zP,zQ,zR,zS,zT,zU,zV,zW,zX,zY,zZ,uA,uB,uC,uD,uE,uF,uG,uH,uI,uJ,uK,uL,uM,uN,uO,uP,uQ,uR,uS,uT,uU,uV,uW,uX,uY,uZ,iA,iB,iC,iD,iE,iF,iG,iH,.int .i64 0,.bool true,.bool true,.int .i64 0,.bool true,.bool true,.bool true,.agg #[.int .i64 N, .int .i64 D],.agg #[.int .i64 N, .int .i64 D],.bool true,.bool true,.bool true,.int .i64 0,.bool true,.bool true,.bool true,.int .i64 0,.bool true,.bool true,.bool true,.agg #[.int .i64 N1, .int .i64 D1],.agg #[.int .i64 N1, .int .i64 D1],.bool true,.bool true,.bool true,.agg #[.int .i64 N2, .int .i64 D2],.agg #[.int .i64 N2, .int .i64 D2],.bool true,.bool true,.bool true,.slice a n cap,.agg #[.int .i64 u, .int .i64 c],.bool s,.slice a1 n c1,.int .i64 (desE l u c s x),.slice a n cap,.agg #[.int .i64 u, .int .i64 c],.bool s,.slice a2 n c2,.int .i64 (desE l u c s x),.bool true,.bool true,.bool true,oZ,qA], defers := [] } : Act) → Ext w W0 → F f_ l_ a_ W0 := by
  intro  f_ l_ W0 a_ hf_ hl_ ha_ s0
  subst hf_ hl_ ha_
  refine (hF.out _ _ _ _).2 ?_
  refine wpAnyH_ready (rs := [43]) (by kernel_rfl) (by simp) ?_
  refine AllReadyH.cons (o := _) rfl (fun K hK => ?_) AllReadyH.nil
  refine tk_call (by kernel_rfl) (works_any _) (by kernel_rfl) ?_; rintro e W1 ⟨rfl, e1⟩; refine ⟨_, rfl, ?_⟩
  have s1 := s0.trans e1
  refine hK.out _ _ s1 (fun _ => ?_)
  clear hK K
  try simp only [sxA, sxB, sxC, Act.put, sxD, sxE, sxF]
  refine tkB (i := 44) (v := ?_) rfl hpan ?yl ?_
  case yl => (intro w hSw; (try dsimp only at hSw);  go_simp); with_reducible rfl
  try simp only [sxA, sxB, sxC, Act.put, sxD, sxE, sxF]
  refine tkB (i := 45) (v := ?_) rfl hpan ?yl ?_
  case yl => (intro w hSw; (try dsimp only at hSw);  go_simp); with_reducible rfl
  try simp only [sxA, sxB, sxC, Act.put, sxD, sxE, sxF]
  refine wpAnyH_done (by kernel_rfl) ?_ _
  try simp only [sxA, sxB, sxC, Act.put, sxD, sxE, sxF]
  rw [hQ2.out]
  refine ⟨rfl, ?eq1_1, s1⟩
  case eq1_1 => (first | with_reducible rfl | rfl)
 have N1_1 : ∀ (f_ : Nat) (l_ : Array Bool) (W0 : World) (a_ : Act), f_ = 7 → l_ = #[true, true, true, true, true, true, true, true, true, true, true, true, true, true, true, true, true, true, true, true, true, true, true, true, true, true, true, true, true, true, true, true, true, true, true, true, true, true, true, false, false, false, false, false, false, false] → a_ = ({ tmps := #[.slice a n cap,yB,.bool s,yD,yE,yF,yG,.pointer (some ⟨T, 0, none⟩),yI,yJ,yK,yL,yM,.slice a1 n c1,.slice a2 n c2,yP,.pointer (some ⟨B16, 0, none⟩),.int .i64 0,.pointer (some ⟨B18, 0, none⟩),.int .i64 0,.pointer (some ⟨B20, 0, none⟩),.pointer (some ⟨B21, 0, none⟩),.int .i64 0,.pointer (some ⟨B23, 0, none⟩),.pointer (some ⟨B24, 0, none⟩),.int .i64 0,zA,zB,zC,zD,zE,zF,zG,zH,zI,zJ,zK,zL,zM,zN,zO,zP,zQ,zR,zS,zT,zU,zV,zW,zX,zY,zZ,uA,uB,uC,uD,uE,uF,uG,uH,uI,uJ,uK,uL,uM,uN,uO,uP,uQ,uR,uS,uT,uU,uV,uW,uX,uY,uZ,iA,iB,iC,iD,iE,iF,iG,iH,.int .i64 0,.bool true,.bool true,.int .i64 0,.bool true,.bool true,.bool true,.agg #[.int .i64 N, .int .i64 D],.agg #[.int .i64 N, .int .i64 D],.bool true,.bool true,.bool true,.int .i64 0,.bool true,.bool true,.bool true,.int .i64 0,.bool true,.bool true,.bool true,.agg #[.int .i64 N1, .int .i64 D1],.agg #[.int .i64 N1, .int .i64 D1],.bool true,.bool true,.bool true,.agg #[.int .i64 N2, .int .i64 D2],.agg #[.int .i64 N2, .int .i64 D2],.bool true,.bool true,.bool true,.slice a n cap,.agg #[.int .i64 u, .int .i64 c],.bool s,.slice a1 n c1,.int .i64 (desE l u c s x),.slice a n cap,.agg #[.int .i64 u, .int .i64 c],.bool s,.slice a2 n c2,oV,oW,oX,oY,oZ,qA], defers := [] } : Act) → Ext w W0 → F f_ l_ a_ W0 := by
  intro  f_ l_ W0 a_ hf_ hl_ ha_ s0
  subst hf_ hl_ ha_
  refine (hF.out _ _ _ _).2 ?_
  refine wpAnyH_ready (rs := [39]) (by kernel_rfl) (by simp) ?_
  refine AllReadyH.cons (o := _) rfl (fun K hK => ?_) AllReadyH.nil
  refine tk_call (by kernel_rfl) (hdy.out _ (hm.out.ext s0) (hj.out.ext s0)) (by kernel_rfl) ?_; rintro e W1 ⟨rfl, e1⟩; refine ⟨_, rfl, ?_⟩
  have s1 := s0.trans e1
  refine hK.out _ _ s1 (fun _ => ?_)
  clear hK K
  try simp only [sxA, sxB, sxC, Act.put, sxD, sxE, sxF]
  refine tkB (i := 40) (v := ?_) rfl hpan ?yl ?_
  case yl => (intro w hSw; (try dsimp only at hSw);  go_simp); with_reducible rfl
  try simp only [sxA, sxB, sxC, Act.put, sxD, sxE, sxF]
  refine tkB (i := 41) (v := ?_) rfl hpan ?yl ?_
  case yl => (intro w hSw; (try dsimp only at hSw);  go_simp); with_reducible rfl
  try simp only [sxA, sxB, sxC, Act.put, sxD, sxE, sxF]
  refine tkB (i := 42) (v := ?_) rfl hpan ?yl ?_
  case yl => (intro w hSw; (try dsimp only at hSw);  go_simp); with_reducible rfl
  try simp only [sxA, sxB, sxC, Act.put, sxD, sxE, sxF]
  refine (hF.out _ _ _ _).1 ?_
  exact N1_0 _ _ W1 _ (by first | rfl | kernel_rfl) (by first | rfl | kernel_rfl) (by (try simp only [sxA, sxB, sxC, Act.put, sxD, sxE, sxF]); first | done | with_reducible rfl | rfl) s1
 have N1_2 : ∀ (f_ : Nat) (l_ : Array Bool) (W0 : World) (a_ : Act), f_ = 8 → l_ = #[true, true, true, true, true, true, true, true, true, true, true, true, true, true, true, true, true, true, true, true, true, true, true, true, true, true, true, true, true, true, true, true, true, true, false, true, true, true, true, false, false, false, false, false, false, false] → a_ = ({ tmps := #[.slice a n cap,yB,.bool s,yD,yE,yF,yG,.pointer (some ⟨T, 0, none⟩),yI,yJ,yK,yL,yM,.slice a1 n c1,.slice a2 n c2,yP,.pointer (some ⟨B16, 0, none⟩),.int .i64 0,.pointer (some ⟨B18, 0, none⟩),.int .i64 0,.pointer (some ⟨B20, 0, none⟩),.pointer (some ⟨B21, 0, none⟩),.int .i64 0,.pointer (some ⟨B23, 0, none⟩),.pointer (some ⟨B24, 0, none⟩),.int .i64 0,zA,zB,zC,zD,zE,zF,zG,zH,zI,zJ,zK,zL,zM,zN,zO,zP,zQ,zR,zS,zT,zU,zV,zW,zX,zY,zZ,uA,uB,uC,uD,uE,uF,uG,uH,uI,uJ,uK,uL,uM,uN,uO,uP,uQ,uR,uS,uT,uU,uV,uW,uX,uY,uZ,iA,iB,iC,iD,iE,iF,iG,iH,.int .i64 0,.bool true,.bool true,.int .i64 0,.bool true,.bool true,.bool true,.agg #[.int .i64 N, .int .i64 D],.agg #[.int .i64 N, .int .i64 D],.bool true,.bool true,.bool true,.int .i64 0,.bool true,.bool true,.bool true,.int .i64 0,.bool true,.bool true,.bool true,.agg #[.int .i64 N1, .int .i64 D1],.agg #[.int .i64 N1, .int .i64 D1],.bool true,.bool true,.bool true,.agg #[.int .i64 N2, .int .i64 D2],.agg #[.int .i64 N2, .int .i64 D2],.bool true,.bool true,.bool true,.slice a n cap,.agg #[.int .i64 u, .int .i64 c],.bool s,.slice a1 n c1,oQ,.slice a n cap,.agg #[.int .i64 u, .int .i64 c],.bool s,.slice a2 n c2,oV,oW,oX,oY,oZ,qA], defers := [] } : Act) → Ext w W0 → F f_ l_ a_ W0 := by
  intro  f_ l_ W0 a_ hf_ hl_ ha_ s0
  subst hf_ hl_ ha_
  refine (hF.out _ _ _ _).2 ?_
  clear N1_0
  refine wpAnyH_ready (rs := [34]) (by kernel_rfl) (by simp) ?_
  refine AllReadyH.cons (o := _) rfl (fun K hK => ?_) AllReadyH.nil
  refine tk_call (by kernel_rfl) (hdx.out _ (hm.out.ext s0) (hi.out.ext s0)) (by kernel_rfl) ?_; rintro e W1 ⟨rfl, e1⟩; refine ⟨_, rfl, ?_⟩
  have s1 := s0.trans e1
  refine hK.out _ _ s1 (fun _ => ?_)
  clear hK K
  try simp only [sxA, sxB, sxC, Act.put, sxD, sxE, sxF]
  refine (hF.out _ _ _ _).1 ?_
  exact N1_1 _ _ W1 _ (by first | rfl | kernel_rfl) (by first | rfl | kernel_rfl) (by (try simp only [sxA, sxB, sxC, Act.put, sxD, sxE, sxF]); first | done | with_reducible rfl | rfl) s1
 rw [hA_.out]
 refine (hF.out _ _ _ _).2 ?_
 refine tkB (i := 0) (v := ?_) rfl hpan ?yl ?_
 case yl => (intro w hSw; (try dsimp only at hSw);  go_simp); with_reducible rfl
 try simp only [sxA, sxB, sxC, Act.put, sxD, sxE, sxF]
 refine tkB (i := 1) (v := ?_) rfl hpan ?yl ?_
 case yl => (intro w hSw; (try dsimp only at hSw);  go_simp); with_reducible rfl
 try simp only [sxA, sxB, sxC, Act.put, sxD, sxE, sxF]
 refine tkB (i := 2) (v := ?_) rfl hpan ?yl ?_
 case yl => (intro w hSw; (try dsimp only at hSw);  go_simp); with_reducible rfl
 try simp only [sxA, sxB, sxC, Act.put, sxD, sxE, sxF]
 refine tkB (i := 3) (v := ?_) rfl hpan ?yl ?_
 case yl => (intro w hSw; (try dsimp only at hSw);  go_simp); with_reducible rfl
 try simp only [sxA, sxB, sxC, Act.put, sxD, sxE, sxF]
 refine tkB (i := 4) (v := ?_) rfl hpan ?yl ?_
 case yl => (intro w hSw; (try dsimp only at hSw);  go_simp); with_reducible rfl
 try simp only [sxA, sxB, sxC, Act.put, sxD, sxE, sxF]
 refine tkB (i := 5) (v := ?_) rfl hpan ?yl ?_
 case yl => (intro w hSw; (try dsimp only at hSw);  go_simp); with_reducible rfl
 try simp only [sxA, sxB, sxC, Act.put, sxD, sxE, sxF]
 refine tkB (i := 6) (v := ?_) rfl hpan ?yl ?_
 case yl => (intro w hSw; (try dsimp only at hSw);  go_simp); with_reducible rfl
 try simp only [sxA, sxB, sxC, Act.put, sxD, sxE, sxF]
 refine tkB (i := 7) (v := ?_) rfl hpan ?yl ?_
 case yl => (intro w hSw; have k_ := hRD_.out w hSw; go_simp); with_reducible rfl
 try simp only [sxA, sxB, sxC, Act.put, sxD, sxE, sxF]
 refine tkB (i := 8) (v := ?_) rfl hpan ?yl ?_
 case yl => (intro w hSw; have k_ := hRD_.out w hSw; go_simp); with_reducible rfl
 try simp only [sxA, sxB, sxC, Act.put, sxD, sxE, sxF]
 refine tkB (i := 9) (v := ?_) rfl hpan ?yl ?_
 case yl => (intro w hSw; (try dsimp only at hSw);  go_simp); with_reducible rfl
 try simp only [sxA, sxB, sxC, Act.put, sxD, sxE, sxF]
 refine tkB (i := 10) (v := ?_) rfl hpan ?yl ?_
 case yl => (intro w hSw; (try dsimp only at hSw);  go_simp); with_reducible rfl
 try simp only [sxA, sxB, sxC, Act.put, sxD, sxE, sxF]
 refine tkB (i := 11) (v := ?_) rfl hpan ?yl ?_
 case yl => (intro w hSw; (try dsimp only at hSw);  go_simp); with_reducible rfl
 try simp only [sxA, sxB, sxC, Act.put, sxD, sxE, sxF]
 refine tkB (i := 12) (v := ?_) rfl hpan ?yl ?_
 case yl => (intro w hSw; (try dsimp only at hSw);  go_simp); with_reducible rfl
 try simp only [sxA, sxB, sxC, Act.put, sxD, sxE, sxF]
 refine tkB (i := 13) (v := ?_) rfl hpan ?yl ?_
 case yl => (intro w hSw; (try dsimp only at hSw);  go_simp); with_reducible rfl
 try simp only [sxA, sxB, sxC, Act.put, sxD, sxE, sxF]
 refine tkB (i := 14) (v := ?_) rfl hpan ?yl ?_
 case yl => (intro w hSw; (try dsimp only at hSw);  go_simp); with_reducible rfl
 try simp only [sxA, sxB, sxC, Act.put, sxD, sxE, sxF]
 refine tkB (i := 15) (v := ?_) rfl hpan ?yl ?_
 case yl => (intro w hSw; (try dsimp only at hSw);  go_simp); with_reducible rfl
 try simp only [sxA, sxB, sxC, Act.put, sxD, sxE, sxF]
 refine tkB (i := 16) (v := ?_) rfl hpan ?yl ?_
 case yl => (intro w hSw; (try dsimp only at hSw);  go_simp); with_reducible rfl
 try simp only [sxA, sxB, sxC, Act.put, sxD, sxE, sxF]
 refine tkB (i := 17) (v := ?_) rfl hpan ?yl ?_
 case yl => (intro w hSw; (try dsimp only at hSw);  go_simp); with_reducible rfl
 try simp only [sxA, sxB, sxC, Act.put, sxD, sxE, sxF]
 refine tkB (i := 18) (v := ?_) rfl hpan ?yl ?_
 case yl => (intro w hSw; (try dsimp only at hSw);  go_simp); with_reducible rfl
 try simp only [sxA, sxB, sxC, Act.put, sxD, sxE, sxF]
 refine tkB (i := 19) (v := ?_) rfl hpan ?yl ?_
 case yl => (intro w hSw; (try dsimp only at hSw);  go_simp); with_reducible rfl
 try simp only [sxA, sxB, sxC, Act.put, sxD, sxE, sxF]
 refine tkB (i := 20) (v := ?_) rfl hpan ?yl ?_
 case yl => (intro w hSw; have k_ := hRD_.out w hSw; go_simp); with_reducible rfl
 try simp only [sxA, sxB, sxC, Act.put, sxD, sxE, sxF]
 refine tkB (i := 21) (v := ?_) rfl hpan ?yl ?_
 case yl => (intro w hSw; have k_ := hRD_.out w hSw; go_simp); with_reducible rfl
 try simp only [sxA, sxB, sxC, Act.put, sxD, sxE, sxF]
 refine tkB (i := 22) (v := ?_) rfl hpan ?yl ?_
 case yl => (intro w hSw; (try dsimp only at hSw);  go_simp); with_reducible rfl
 try simp only [sxA, sxB, sxC, Act.put, sxD, sxE, sxF]
 refine tkB (i := 23) (v := ?_) rfl hpan ?yl ?_
 case yl => (intro w hSw; (try dsimp only at hSw);  go_simp); with_reducible rfl
 try simp only [sxA, sxB, sxC, Act.put, sxD, sxE, sxF]
 refine tkB (i := 24) (v := ?_) rfl hpan ?yl ?_
 case yl => (intro w hSw; (try dsimp only at hSw);  go_simp); with_reducible rfl
 try simp only [sxA, sxB, sxC, Act.put, sxD, sxE, sxF]
 refine tkB (i := 25) (v := ?_) rfl hpan ?yl ?_
 case yl => (intro w hSw; have k_ := hRD_.out w hSw; go_simp); with_reducible rfl
 try simp only [sxA, sxB, sxC, Act.put, sxD, sxE, sxF]
 refine tkB (i := 26) (v := ?_) rfl hpan ?yl ?_
 case yl => (intro w hSw; have k_ := hRD_.out w hSw; go_simp); with_reducible rfl
 try simp only [sxA, sxB, sxC, Act.put, sxD, sxE, sxF]
 refine tkB (i := 27) (v := ?_) rfl hpan ?yl ?_
 case yl => (intro w hSw; (try dsimp only at hSw);  go_simp); with_reducible rfl
 try simp only [sxA, sxB, sxC, Act.put, sxD, sxE, sxF]
 refine tkB (i := 28) (v := ?_) rfl hpan ?yl ?_
 case yl => (intro w hSw; (try dsimp only at hSw);  go_simp); with_reducible rfl
 try simp only [sxA, sxB, sxC, Act.put, sxD, sxE, sxF]
 refine tkB (i := 29) (v := ?_) rfl hpan ?yl ?_
 case yl => (intro w hSw; (try dsimp only at hSw);  go_simp); with_reducible rfl
 try simp only [sxA, sxB, sxC, Act.put, sxD, sxE, sxF]
 refine tkB (i := 30) (v := ?_) rfl hpan ?yl ?_
 case yl => (intro w hSw; (try dsimp only at hSw);  go_simp); with_reducible rfl
 try simp only [sxA, sxB, sxC, Act.put, sxD, sxE, sxF]
 refine tkB (i := 31) (v := ?_) rfl hpan ?yl ?_
 case yl => (intro w hSw; have k_ := hRD_.out w hSw; go_simp); with_reducible rfl
 try simp only [sxA, sxB, sxC, Act.put, sxD, sxE, sxF]
 refine tkB (i := 32) (v := ?_) rfl hpan ?yl ?_
 case yl => (intro w hSw; (try dsimp only at hSw);  go_simp); with_reducible rfl
 try simp only [sxA, sxB, sxC, Act.put, sxD, sxE, sxF]
 refine tkB (i := 33) (v := ?_) rfl hpan ?yl ?_
 case yl => (intro w hSw; (try dsimp only at hSw);  go_simp); with_reducible rfl
 try simp only [sxA, sxB, sxC, Act.put, sxD, sxE, sxF]
 refine tkB (i := 35) (v := ?_) rfl hpan ?yl ?_
 case yl => (intro w hSw; (try dsimp only at hSw);  go_simp); with_reducible rfl
 try simp only [sxA, sxB, sxC, Act.put, sxD, sxE, sxF]
 refine tkB (i := 36) (v := ?_) rfl hpan ?yl ?_
 case yl => (intro w hSw; have k_ := hRD_.out w hSw; go_simp); with_reducible rfl
 try simp only [sxA, sxB, sxC, Act.put, sxD, sxE, sxF]
 refine tkB (i := 37) (v := ?_) rfl hpan ?yl ?_
 case yl => (intro w hSw; (try dsimp only at hSw);  go_simp); with_reducible rfl
 try simp only [sxA, sxB, sxC, Act.put, sxD, sxE, sxF]
 refine tkB (i := 38) (v := ?_) rfl hpan ?yl ?_
 case yl => (intro w hSw; (try dsimp only at hSw);  go_simp); with_reducible rfl
 try simp only [sxA, sxB, sxC, Act.put, sxD, sxE, sxF]
 refine (hF.out _ _ _ _).1 ?_
 exact N1_2 _ _ W0 _ (by first | rfl | kernel_rfl) (by first | rfl | kernel_rfl) (by (try simp only [sxA, sxB, sxC, Act.put, sxD, sxE, sxF]); first | done | with_reducible rfl | rfl) s0

end Go.Proofs.Ytpnfhcnnodolbaa
namespace Go.Proofs.Ytpnfhcnnodolbaa
set_option linter.unusedVariables false
set_option linter.unusedSimpArgs false
set_option linter.unusedSectionVars false
set_option linter.unnecessarySimpa false
open Go Go.RowKit Game
set_option maxRecDepth 100000
theorem greatL_any (a : Option Addr) (cap n : Nat) (a2 : Option Addr) (c2 k : Nat) (hn : n ≤ 9223372036854775807) (hk : k ≤ 9223372036854775807) (w : World) :
 Calls Try.prog 17 #[.slice a n cap, .slice a2 k c2] w fun e w' => e = .returned (.bool (decide (12 < n) || decide (12 < k))) ∧ Ext w w' := by
 by_cases g : 12 < n
 ·have gI : (12 : Int) < (n : Int) := by omega
  have H := hid (show (decide (12 < n) || decide (12 < k)) = true by simp [g])
  go_enter Try.func17, Try.ntmps17
  go_wp2_with fail
  go_ret
  first | exact ⟨ret_bool H.out.symm, exE⟩ | exact ⟨rfl, exE⟩
 ·have gI : ¬ (12 : Int) < (n : Int) := by omega
  by_cases g2 : 12 < k
  ·have gI2 : (12 : Int) < (k : Int) := by omega
   have H := hid (show (decide (12 < n) || decide (12 < k)) = true by simp [g2])
   go_enter Try.func17, Try.ntmps17
   go_wp2_with fail
   go_ret
   first | exact ⟨ret_bool H.out.symm, exE⟩ | exact ⟨rfl, exE⟩
  ·have gI2 : ¬ (12 : Int) < (k : Int) := by omega
   have H := hid (show (decide (12 < n) || decide (12 < k)) = false by simp [g, g2])
   go_enter Try.func17, Try.ntmps17
   go_wp2_with fail
   go_ret
   first | exact ⟨ret_bool H.out.symm, exE⟩ | exact ⟨rfl, exE⟩
set_option maxHeartbeats 800000 in
theorem fineL_any (l : List Met) (q : FitM l) (hl : l.length ≤ 9223372036854775807) (a : Option Addr) (cap : Nat) (u c : Int) (w : World) (hM : Mts w a l) :
 Calls Try.prog 42 #[.slice a l.length cap, (.agg #[.int .i64 (u), .int .i64 (c)])] w fun e w' => e = .returned (.bool (decide (chkB l u c = 0))) ∧ Ext w w' := by
 have hg := hid (fun W => greatL_any a cap l.length none 0 0 hl (by decide) W)
 by_cases g : 12 < l.length
 ·rw [show (decide (12 < l.length) || decide (12 < 0)) = true by simp [g]] at hg
  have H := hid (show decide (chkB l u c = 0) = false by
   rw [decide_eq_false_iff_not]
   intro h
   have := (chkB_ok h).1.n6
   omega)
  replace g := hid g
  go_enter Try.func42, Try.ntmps42
  go_wp2_with fail
  refine (hg.out _).mono ?_; rintro e w1 ⟨rfl, hE⟩
  have x1 : Ext w w1 := exE
  go_wp2_with fail
  go_ret
  exact ⟨ret_bool H.out.symm, exE⟩
 rw [show (decide (12 < l.length) || decide (12 < 0)) = false by simp [g]] at hg
 have hcm := hid (fun W (y : Ext w W) => checkMetalsR_any l q (by omega) a cap W (hM.ext y))
 by_cases g1 : chkM l = 0
 ·rw [g1] at hcm
  have hct := hid (fun W => checkTouchR_any u c W)
  have H := hid (show decide (chkB l u c = 0) = decide (chkU u c = 0) by unfold chkB; rw [if_pos g1])
  obtain ⟨E, hE⟩ : ∃ E, chkU u c = E := ⟨_, rfl⟩
  rw [hE] at hct H
  replace g := hid g
  replace g1 := hid g1
  clear hE q hM
  have H2 := hid (show (E == 0) = decide (E = 0) from rfl)
  go_enter Try.func42, Try.ntmps42
  go_wp2_with fail
  refine (hg.out _).mono ?_; rintro e w1 ⟨rfl, hE⟩
  have t0 := hE.cell (p := ⟨w.heap.size, 0, none⟩) (v := .int .i64 u) (by simp [go_sem])
  have t1 := hE.cell (p := ⟨w.heap.size, 1, none⟩) (v := .int .i64 c) (by simp [go_sem])
  have x1 := hid (show Ext w w1 from exE)
  clear hE
  go_wp2_with fail
  refine (hcm.out _ (by have := x1.out; exact exE)).mono ?_; rintro e w2 ⟨rfl, hE⟩
  replace t0 := hE.cell t0
  replace t1 := hE.cell t1
  have x2 := hid (show Ext w w2 by have := x1.out; exact exE)
  clear hE
  go_wp2_with fail
  refine (hct.out _).mono ?_; rintro e w3 ⟨rfl, hE⟩
  have x3 := hid (show Ext w w3 by have := x2.out; exact exE)
  go_wp2_with fail
  go_ret
  exact ⟨ret_bool (by rw [H.out, ← H2.out]), x3.out⟩
 ·have H := hid (show decide (chkB l u c = 0) = false by rw [decide_eq_false_iff_not]; unfold chkB; rw [if_neg g1]; exact g1)
  have g2 : (chkM l == 0) = false := by rw [beq_eq_false_iff_ne]; exact g1
  obtain ⟨E, hE⟩ : ∃ E, chkM l = E := ⟨_, rfl⟩
  rw [hE] at hcm g2
  replace g := hid g
  replace g1 := hid g1
  clear hE q hM
  go_enter Try.func42, Try.ntmps42
  go_wp2_with fail
  refine (hg.out _).mono ?_; rintro e w1 ⟨rfl, hE⟩
  have x1 := hid (show Ext w w1 from exE)
  clear hE
  go_wp2_with fail
  refine (hcm.out _ (by have := x1.out; exact exE)).mono ?_; rintro e w2 ⟨rfl, hE⟩
  have x2 := hid (show Ext w w2 by have := x1.out; exact exE)
  go_wp2_with fail
  go_ret
  exact ⟨ret_bool H.out.symm, x2.out⟩

end Go.Proofs.Ytpnfhcnnodolbaa
namespace Go.Proofs.Ytpnfhcnnodolbaa
set_option linter.unusedVariables false
set_option linter.unusedSimpArgs false
set_option linter.unusedSectionVars false
set_option linter.unnecessarySimpa false
open Go Go.RowKit Game
set_option maxRecDepth 100000
set_option maxHeartbeats 8000000 in
theorem alloyTimes_any (l : List Met) (q : FitM l) (a : Option Addr) (cap : Nat) (u c : Int) (s cp : Bool) (p : List Int) (hp : ∀ i, 0 ≤ nth p i ∧ nth p i ≤ 65535) (ap : Option Addr) (cpp : Nat) (tm : Int) (w : World) (hM : Mts w a l) (hl : l.length ≤ 9223372036854775807) (iu : I64 u) (ic : I64 c) (hP : Wrds w ap p) (hlp : p.length ≤ 9223372036854775807) (htm : 0 ≤ tm ∧ tm ≤ 255) :
 Calls Try.prog 14 #[.slice a l.length cap, (.agg #[.int .i64 (u), .int .i64 (c)]), .bool s, .bool cp, .slice ap p.length cpp, .int .u8 tm] w fun e w' => e = .returned (.bool true) ∧ Ext w w' := by
 have hf := hid (fun W (x : Ext w W) => fineL_any l q hl a cap u c W (hM.ext x))
 by_cases g : chkB l u c = 0
 case neg =>
  rw [decide_eq_false g] at hf
  replace g := hid g
  clear hM hP
  go_enter Try.func14, Try.ntmps14
  go_wp2_with fail
  refine (hf.out _ exE).mono ?_; rintro e w1 ⟨rfl, hE⟩
  have x1 := hid (show Ext w w1 from exE)
  go_wp2_with fail
  refine (works_any _).mono ?_; rintro e w2 ⟨rfl, hE2⟩
  go_wp2_with fail
  go_ret
  exact ⟨rfl, by have := x1.out; exact exE⟩
 rw [decide_eq_true g] at hf
 by_cases gp : 20 < p.length
 ·have gI : (20 : Int) < (p.length : Int) := by omega
  replace g := hid g
  clear hM hP
  go_enter Try.func14, Try.ntmps14
  go_wp2_with fail
  refine (hf.out _ exE).mono ?_; rintro e w1 ⟨rfl, hE⟩
  have x1 := hid (show Ext w w1 from exE)
  go_wp2_with fail
  refine (works_any _).mono ?_; rintro e w2 ⟨rfl, hE2⟩
  go_wp2_with fail
  go_ret
  exact ⟨rfl, by have := x1.out; exact exE⟩
 have gI : ¬ (20 : Int) < (p.length : Int) := by omega
 obtain ⟨v, hu, hc⟩ := chkB_ok g
 have n1 := v.n1; have n6 := v.n6
 have hl2 : l.length ≤ 1000 := by omega
 have hmx := hid (fun W (x : Ext w W) => mixedL_any l.length n6 p hp hlp ap cpp W (hP.ext x))
 have hcm : chkM l = 0 := by by_cases h : chkM l = 0; exact h; (unfold chkB at g; rw [if_neg h] at g; exact absurd g h)
 obtain ⟨k, hk⟩ : ∃ k, 1 + tm % 9 = k := ⟨_, rfl⟩
 have hk1 : 1 ≤ k ∧ k ≤ 9 := by omega
 have hr0 : tm.tmod 9 = k - 1 := by rw [Int.tmod_eq_emod_of_nonneg htm.1]; omega
 have k1 : IntKind.u8.wrap (k - 1) = k - 1 := by
  have : k = 1 ∨ k = 2 ∨ k = 3 ∨ k = 4 ∨ k = 5 ∨ k = 6 ∨ k = 7 ∨ k = 8 ∨ k = 9 := by omega
  rcases this with rfl | rfl | rfl | rfl | rfl | rfl | rfl | rfl | rfl <;> rfl
 have k2 := Go.IntWalk.i64_in (k - 1) (by omega)
 have k4 : 1 + (k - 1) = k := by omega
 have k5 := Go.IntWalk.i64_in k (by omega)
 have vx := pln_vld (m := l.length) hp n1
 have hle := pln_le (m := l.length) hp
 obtain ⟨x, hx⟩ : ∃ x, pln l.length p = x := ⟨_, rfl⟩
 rw [hx] at hmx vx hle
 have hco := hid (tm_cost hk1 hcm vx hle)
 have hen := hid (tm_ends cp hk1 hcm vx hle)
 have hde := hid (tm_des u c s hk1 vx hle)
 have hxl := vx.len
 have hyl := tmL_len k x
 have fx : Hid (∀ i, I64 (nth x i)) := hid fun i => ⟨by have := vx.nn i; omega, by have := vx.le i; omega⟩
 have vy := tm_vld hk1 vx hle
 have fy : Hid (∀ i, I64 (nth (tmL k x) i)) := hid fun i => ⟨by have := vy.nn i; omega, by have := vy.le i; omega⟩
 have hst : Hid (∀ n, mkL (n + 1) (fun i => k * nth x i) = mkL n (fun i => k * nth x i) ++ [k * nth x n]) := hid fun n => mkL_snoc n _
 have hend : Hid (mkL x.length (fun i => k * nth x i) = tmL k x) := hid rfl
 have hmb : Hid (∀ i, 0 ≤ k * nth x i ∧ k * nth x i ≤ 1000000) := hid fun i => by have h1 := vy.nn i; have h2 := vy.le i; rw [tmL_nth] at h1 h2; exact ⟨h1, h2⟩
 have hxl2 : x.length ≤ 1000 := by omega
 have hyl2 : (tmL k x).length ≤ 1000 := by omega
 replace hxl := hid hxl; replace hyl := hid hyl
 replace hM := hid hM
 have hq := hid q
 replace g := hid g
 clear q v hu hc hcm vx hle vy hx hP hk htm gp
 go_enter Try.func14, Try.ntmps14
 go_wp2_with fail
 refine (hf.out _ exE).mono ?_; rintro e w1 ⟨rfl, hE⟩
 have X := hid (show Ext w w1 from exE)
 have t0 := hid (hE.cell (p := ⟨w.heap.size, 0, none⟩) (v := .int .i64 u) (by simp [go_sem]))
 have t1 := hid (hE.cell (p := ⟨w.heap.size, 1, none⟩) (v := .int .i64 c) (by simp [go_sem]))
 obtain ⟨T, hT⟩ : ∃ T, w.heap.size = T := ⟨_, rfl⟩
 rw [hT] at t0 t1 ⊢
 clear hE hf hT
 go_wp2_with fail
 refine (hmx.out _ (by have := X.out; exact exE)).mono ?_; rintro e w2 ⟨a1, c1, rfl, hI, hE⟩
 have x2 : Ext w1 w2 := exE
 replace t0 := hid (x2.cell t0.out); replace t1 := hid (x2.cell t1.out)
 replace X := hid (X.out.trans x2)
 replace hM := hid (hM.out.ext X.out)
 replace hI := hid hI
 obtain ⟨b1, o1, ha1, hb1, hIc⟩ := hI.out.at (by rw [hxl.out]; omega)
 subst ha1
 replace hIc := hid hIc
 rw [hxl.out]
 rw [hxl.out] at hIc
 clear hE x2 hmx
 go_wp2_with fail
 obtain ⟨n, hn⟩ : ∃ n, l.length = n := ⟨_, rfl⟩
 rw [hn] at hIc n1 n6 ⊢
 rw [hn] at hxl
 have hyn : (tmL k x).length = n := by rw [hyl.out]; exact hxl.out
 have hC1 := hid (fun a1 c1 W h1 h2 => by have := costC_any l hq.out hl2 a cap x fx.out hxl2 a1 c1 W h1 h2; rw [hn, hxl.out] at this; exact this)
 have hC2 := hid (fun a1 c1 W h1 h2 => by have := costC_any l hq.out hl2 a cap (tmL k x) fy.out hyl2 a1 c1 W h1 h2; rw [hn, hyn, hco.out.2.2.1, hco.out.2.2.2, hco.out.2.1] at this; exact this)
 have hE1 := hid (fun a1 c1 W h1 h2 => by have := endsC_any l hq.out hl2 a cap x fx.out hxl2 a1 c1 cp W h1 h2; rw [hn, hxl.out, hco.out.1] at this; exact this)
 have hE2 := hid (fun a1 c1 W h1 h2 => by have := endsC_any l hq.out hl2 a cap (tmL k x) fy.out hyl2 a1 c1 cp W h1 h2; rw [hn, hyn, hen.out, hco.out.2.1] at this; exact this)
 replace hn := hid hn
 replace hyn := hid hyn
 rw [hco.out.1] at hC1
 go_loopw [14, 15] (fun r i wr => ∃ j : Nat, j ≤ n ∧ i = .int .i64 j ∧ Hid (OwnI wr w2.heap.size 2 r (mkL j (fun i => k * nth x i))) ∧ Hid (Ext w2 wr)) (fun _ i _ => (n - intOf i).toNat)
 case atStart => exact ⟨0, by omega, rfl, hid (OwnI.nil _ _ _), hid (Ext.refl _)⟩
 case round =>
  obtain ⟨j, hj, rfl, ho, hxx⟩ := hrel
  by_cases hjl : j < n
  ·have r1 := hxx.out.cell (hIc.out j hjl)
   have hlen := hid (mkL_len j (fun i => k * nth x i))
   have hsr := hid (hst.out j)
   have hmj := hmb.out j
   have u3 := Go.IntWalk.i64_in ((j : Int) + 1) (by omega)
   have hjl2 : (j : Int) < (n : Int) := by omega
   obtain ⟨y, hy⟩ : ∃ y, nth x j = y := ⟨_, rfl⟩
   rw [hy] at r1 hsr hmj
   have z1 := Go.IntWalk.i64_in (k * y) (by omega)
   clear hy hmj
   go_wp2_with (at_builtin; refine app_int rfl _ _ _ rfl 2 Try.underlying25 elemI64 w2.heap.size (mkL j (fun i => k * nth x i)) (k * y) _ rfl _ rfl (ho.out.ext exE) ?c1 ?c2 ?c3 ?_; (case c1 => simp [go_sem]); (case c2 => rw [hlen.out]; omega); (case c3 => have := Ext.size hxx.out; simp; omega); intro b9 cp9 w9 own9 ext9 hb9 g9; have own9 := hid own9; have hE9 := hid (ext9 w2 (by have := hxx.out; exact exE) (Nat.le_refl _)))
   go_roundw
   case rel => exact ⟨j + 1, by omega, by go_num, hid (by rw [hsr.out]; have h := own9.out; simp only [List.length_append, List.length_singleton] at h; exact h), hE9⟩
   case measure => simp [intOf]; omega
  ·have hjn : j = n := by omega
   subst hjn
   have ho2 := ho.out
   rw [← hxl.out, hend.out] at ho2
   obtain ⟨a2, c2, rfl, hJ⟩ := ho2.slice
   have hJ := hid hJ
   replace t0 := hid (hxx.out.cell t0.out); replace t1 := hid (hxx.out.cell t1.out)
   replace X := hid (X.out.trans hxx.out)
   replace hM := hid (hM.out.ext hxx.out)
   replace hI := hid (hI.out.ext hxx.out)
   rw [show (tmL k x).length = j from hyn.out]
   go_wp2_with fail
   refine (hC1.out _ c1 _ (hM.out.ext exE) (hI.out.ext exE)).mono ?_; rintro e u1 ⟨rfl, hE⟩
   have x1 : Ext wr u1 := exE
   replace hM := hid (hM.out.ext x1)
   replace hI := hid (hI.out.ext x1)
   replace hJ := hid (hJ.out.ext x1)
   replace t0 := hid (x1.cell t0.out)
   replace t1 := hid (x1.cell t1.out)
   replace X := hid (X.out.trans x1)
   clear hE x1
   go_wp2_with fail
   refine name_c (fun v1 hv => ?_)
   have y1 : Ext u1 v1 := by rw [hv]; exact exE
   have b16_0 := hid (show v1.cell? ⟨u1.heap.size, 0, none⟩ = some (.int .i64 (costNE l x)) by rw [hv]; simp [go_sem])
   have b16_1 := hid (show v1.cell? ⟨u1.heap.size, 1, none⟩ = some (.int .i64 (costDE l x)) by rw [hv]; simp [go_sem])
   replace hM := hid (hM.out.ext y1)
   replace hI := hid (hI.out.ext y1)
   replace hJ := hid (hJ.out.ext y1)
   replace t0 := hid (y1.cell t0.out)
   replace t1 := hid (y1.cell t1.out)
   replace X := hid (X.out.trans y1)
   clear hv y1
   refine (hC2.out _ _ _ (hM.out.ext exE) (hJ.out.ext exE)).mono ?_; rintro e u2 ⟨rfl, hE⟩
   have x2 : Ext v1 u2 := exE
   replace hM := hid (hM.out.ext x2)
   replace hI := hid (hI.out.ext x2)
   replace hJ := hid (hJ.out.ext x2)
   replace t0 := hid (x2.cell t0.out)
   replace t1 := hid (x2.cell t1.out)
   replace b16_0 := hid (x2.cell b16_0.out)
   replace b16_1 := hid (x2.cell b16_1.out)
   replace X := hid (X.out.trans x2)
   clear hE x2
   go_wp2_with fail
   refine name_c (fun v2 hv => ?_)
   have y2 : Ext u2 v2 := by rw [hv]; exact exE
   have b18_0 := hid (show v2.cell? ⟨u2.heap.size, 0, none⟩ = some (.int .i64 (costNE l x)) by rw [hv]; simp [go_sem])
   have b18_1 := hid (show v2.cell? ⟨u2.heap.size, 1, none⟩ = some (.int .i64 (costDE l x)) by rw [hv]; simp [go_sem])
   replace hM := hid (hM.out.ext y2)
   replace hI := hid (hI.out.ext y2)
   replace hJ := hid (hJ.out.ext y2)
   replace t0 := hid (y2.cell t0.out)
   replace t1 := hid (y2.cell t1.out)
   replace b16_0 := hid (y2.cell b16_0.out)
   replace b16_1 := hid (y2.cell b16_1.out)
   replace X := hid (X.out.trans y2)
   clear hv y2
   refine (hE1.out _ c1 _ (hM.out.ext exE) (hI.out.ext exE)).mono ?_; rintro e u3 ⟨rfl, hE⟩
   have x3 : Ext v2 u3 := exE
   replace hM := hid (hM.out.ext x3)
   replace hI := hid (hI.out.ext x3)
   replace hJ := hid (hJ.out.ext x3)
   replace t0 := hid (x3.cell t0.out)
   replace t1 := hid (x3.cell t1.out)
   replace b16_0 := hid (x3.cell b16_0.out)
   replace b16_1 := hid (x3.cell b16_1.out)
   replace b18_0 := hid (x3.cell b18_0.out)
   replace b18_1 := hid (x3.cell b18_1.out)
   replace X := hid (X.out.trans x3)
   clear hE x3
   go_wp2_with fail
   refine name_c (fun v3 hv => ?_)
   have y3 : Ext u3 v3 := by rw [hv]; exact exE
   have b20_0 := hid (show v3.cell? ⟨u3.heap.size, 0, none⟩ = some (.int .i64 (nth (endX l cp x) 0)) by rw [hv]; simp [go_sem])
   have b20_1 := hid (show v3.cell? ⟨u3.heap.size, 1, none⟩ = some (.int .i64 (nth (endX l cp x) 1)) by rw [hv]; simp [go_sem])
   have b21_0 := hid (show v3.cell? ⟨u3.heap.size + 1, 0, none⟩ = some (.int .i64 (nth (endX l cp x) 2)) by rw [hv]; simp [go_sem])
   have b21_1 := hid (show v3.cell? ⟨u3.heap.size + 1, 1, none⟩ = some (.int .i64 (nth (endX l cp x) 3)) by rw [hv]; simp [go_sem])
   replace hM := hid (hM.out.ext y3)
   replace hI := hid (hI.out.ext y3)
   replace hJ := hid (hJ.out.ext y3)
   replace t0 := hid (y3.cell t0.out)
   replace t1 := hid (y3.cell t1.out)
   replace b16_0 := hid (y3.cell b16_0.out)
   replace b16_1 := hid (y3.cell b16_1.out)
   replace b18_0 := hid (y3.cell b18_0.out)
   replace b18_1 := hid (y3.cell b18_1.out)
   replace X := hid (X.out.trans y3)
   clear hv y3
   refine (hE2.out _ _ _ (hM.out.ext exE) (hJ.out.ext exE)).mono ?_; rintro e u4 ⟨rfl, hE⟩
   have x4 : Ext v3 u4 := exE
   replace hM := hid (hM.out.ext x4)
   replace hI := hid (hI.out.ext x4)
   replace hJ := hid (hJ.out.ext x4)
   replace t0 := hid (x4.cell t0.out)
   replace t1 := hid (x4.cell t1.out)
   replace b16_0 := hid (x4.cell b16_0.out)
   replace b16_1 := hid (x4.cell b16_1.out)
   replace b18_0 := hid (x4.cell b18_0.out)
   replace b18_1 := hid (x4.cell b18_1.out)
   replace b20_0 := hid (x4.cell b20_0.out)
   replace b20_1 := hid (x4.cell b20_1.out)
   replace b21_0 := hid (x4.cell b21_0.out)
   replace b21_1 := hid (x4.cell b21_1.out)
   replace X := hid (X.out.trans x4)
   clear hE x4
   go_upto_region 13 with (fail)
   refine name_wp (fun v4 hv => ?_)
   have y4 : Ext u4 v4 := by rw [hv]; exact exE
   have b23_0 := hid (show v4.cell? ⟨u4.heap.size, 0, none⟩ = some (.int .i64 (nth (endX l cp x) 0)) by rw [hv]; simp [go_sem])
   have b23_1 := hid (show v4.cell? ⟨u4.heap.size, 1, none⟩ = some (.int .i64 (nth (endX l cp x) 1)) by rw [hv]; simp [go_sem])
   have b24_0 := hid (show v4.cell? ⟨u4.heap.size + 1, 0, none⟩ = some (.int .i64 (nth (endX l cp x) 2)) by rw [hv]; simp [go_sem])
   have b24_1 := hid (show v4.cell? ⟨u4.heap.size + 1, 1, none⟩ = some (.int .i64 (nth (endX l cp x) 3)) by rw [hv]; simp [go_sem])
   replace hM := hid (hM.out.ext y4)
   replace hI := hid (hI.out.ext y4)
   replace hJ := hid (hJ.out.ext y4)
   replace t0 := hid (y4.cell t0.out)
   replace t1 := hid (y4.cell t1.out)
   replace b16_0 := hid (y4.cell b16_0.out)
   replace b16_1 := hid (y4.cell b16_1.out)
   replace b18_0 := hid (y4.cell b18_0.out)
   replace b18_1 := hid (y4.cell b18_1.out)
   replace b20_0 := hid (y4.cell b20_0.out)
   replace b20_1 := hid (y4.cell b20_1.out)
   replace b21_0 := hid (y4.cell b21_0.out)
   replace b21_1 := hid (y4.cell b21_1.out)
   replace X := hid (X.out.trans y4)
   clear hv y4
   refine wp_mono (stT13 rfl hq.out hl2 iu ic fx.out hxl2 fy.out hyl2 hde.out hn.out hxl.out hyn.out hM.out hI.out hJ.out t0.out t1.out b16_0.out b16_1.out b18_0.out b18_1.out b20_0.out b20_1.out b23_0.out b23_1.out b21_0.out b21_1.out b24_0.out b24_1.out) ?_
   rintro e a' v6 ⟨rfl, rfl, xx⟩
   replace X := hid (X.out.trans xx)
   go_wp2_with fail
   go_ret
   exact ⟨rfl, X.out⟩

end Go.Proofs.Ytpnfhcnnodolbaa
