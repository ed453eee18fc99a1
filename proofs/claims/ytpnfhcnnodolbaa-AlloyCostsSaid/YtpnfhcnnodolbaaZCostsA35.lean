/- Texts of one proof, laid together: Leq, Lbd, LaCa, LaG, LaC. -/
import Derived.Test.YtpnfhcnnodolbaaZCostsA33
import Derived.Test.YtpnfhcnnodolbaaZCostsA34
import Derived.Test.YtpnfhcnnodolbaaPo
import Derived.Test.YtpnfhcnnodolbaaZB10
import Derived.Test.YtpnfhcnnodolbaaWk
namespace Go.Proofs.Ytpnfhcnnodolbaa
set_option linter.unusedVariables false
set_option linter.unusedSimpArgs false
set_option linter.unusedSectionVars false
set_option linter.unnecessarySimpa false
open Go Go.RowKit Game
theorem bstN_best {lt : Nat → Nat → Bool} {n : Nat} (irr : ∀ i, i < n → lt i i = false) (tr : ∀ i j k, i < n → j < n → k < n → lt i j = true → lt j k = true → lt i k = true) :
 ∀ k, k < n → ∀ j, j ≤ k → lt j (bstN lt k) = false
 | 0, h0, j, hj => by obtain rfl : j = 0 := by omega
                      exact irr 0 h0
 | k + 1, hk, j, hj => by
  have ih := bstN_best irr tr k (by omega)
  have hle := bstN_le lt k
  simp only [bstN]
  by_cases g : lt (k + 1) (bstN lt k) = true
  ·rw [if_pos g]
   by_cases e : j = k + 1
   ·subst e; exact irr _ hk
   ·rw [Bool.eq_false_iff]
    intro h
    have := tr j (k + 1) (bstN lt k) (by omega) hk (by omega) h g
    rw [ih j (by omega)] at this
    cases this
  ·rw [if_neg g]
   by_cases e : j = k + 1
   ·subst e; exact (Bool.eq_false_iff).2 g
   ·exact ih j (by omega)
theorem ltC_iff {l : List Met} {x y : List Int} (hx : Xok l x) (hy : Xok l y) : ltC l x y = decide (costN l x l.length * psum y < costN l y l.length * psum x) := rat_lt hx.pos hy.pos
theorem lt_trans3 {a b c p q r : Int} (hp : 0 < p) (hq : 0 < q) (hr : 0 < r) (h1 : a * q < b * p) (h2 : b * r < c * q) : a * r < c * p := by
 have e1 := Int.mul_lt_mul_of_pos_right h1 hr
 have e2 := Int.mul_lt_mul_of_pos_right h2 hp
 refine Int.lt_of_mul_lt_mul_right (a := q) ?_ (by omega)
 rw [show a * r * q = a * q * r by grind, show c * p * q = c * q * p by grind]
 rw [show b * p * r = b * r * p by grind] at e1
 exact Int.lt_trans e1 e2
theorem best_min {l : List Met} {L : List (List Int)} (hL : ∀ x ∈ L, Xok l x) (h0 : 0 < L.length) {y : List Int} (hy : y ∈ L) :
 ltC l y (row L (bstN (fun i j => ltC l (row L i) (row L j)) (L.length - 1))) = false := by
 have ok : ∀ i, i < L.length → Xok l (row L i) := fun i hi => hL _ (by rw [row_lt hi]; exact List.getElem_mem hi)
 obtain ⟨j, hj, e⟩ := List.getElem_of_mem hy
 have := bstN_best (lt := fun i j => ltC l (row L i) (row L j)) (n := L.length)
  (fun i hi => by rw [ltC_iff (ok i hi) (ok i hi), decide_eq_false_iff_not]; omega)
  (fun a b d ha hb hd h1 h2 => by
   rw [ltC_iff (ok a ha) (ok b hb), decide_eq_true_eq] at h1
   rw [ltC_iff (ok b hb) (ok d hd), decide_eq_true_eq] at h2
   rw [ltC_iff (ok a ha) (ok d hd), decide_eq_true_eq]
   exact lt_trans3 (ok a ha).pos (ok b hb).pos (ok d hd).pos h1 h2) (L.length - 1) (by omega) j (by omega)
 rw [← e, ← row_lt hj]
 exact this
theorem best_in {L : List (List Int)} (h0 : 0 < L.length) (lt : Nat → Nat → Bool) : row L (bstN lt (L.length - 1)) ∈ L := by
 have := bstN_le lt (L.length - 1)
 rw [row_lt (by omega)]
 exact List.getElem_mem _
theorem edges_zero {l : List Met} (v : VldM l) {u c : Int} (hu : 0 ≤ u ∧ u ≤ 1000) (hc : 0 ≤ c ∧ c ≤ 1000) (s : Bool) : (edP l u c s).length = 0 ↔ (edg l u c s).length = 0 := by
 constructor
 ·intro h
  have h1 := List.eq_nil_of_length_eq_zero h
  refine Classical.byContradiction fun g => ?_
  have := edg_sub v hu hc (s := s) (List.getElem_mem (show 0 < (edg l u c s).length by omega))
  rw [h1] at this; simp at this
 ·intro h
  have h1 := List.eq_nil_of_length_eq_zero h
  refine Classical.byContradiction fun g => ?_
  have := edP_sub v hu hc (s := s) (List.getElem_mem (show 0 < (edP l u c s).length by omega))
  rw [h1] at this; simp at this
theorem che_eq (l : List Met) (u c : Int) (s : Bool) : cheE l u c s = lrE l u c s := by
 unfold cheE lrE
 by_cases g : ¬ chkB l u c = 0
 ·rw [if_pos g, if_pos g]
 ·rw [if_neg g, if_neg g]
  obtain ⟨v, hu, hc⟩ := chkB_ok (Decidable.not_not.1 g)
  have := edges_zero v hu hc s
  by_cases h : (edP l u c s).length = 0
  ·rw [if_pos h, if_pos (this.1 h)]
  ·rw [if_neg h, if_neg (fun h' => h (this.2 h'))]
theorem least_eq (l : List Met) (u c : Int) (s : Bool) : lstN l u c s = lrN l u c s ∧ lstD l u c s = lrD l u c s := by
 have hE := che_eq l u c s
 unfold lstN lrN lstD lrD
 rw [← hE]
 by_cases g : cheE l u c s = 0
 ·rw [if_pos g, if_pos g, if_pos g, if_pos g]
  have gB : chkB l u c = 0 := by
   refine Classical.byContradiction fun h => ?_
   unfold cheE at g; rw [if_pos h] at g; exact h g
  obtain ⟨v, hu, hc⟩ := chkB_ok gB
  have h0 : 0 < (edP l u c s).length := by
   refine Classical.byContradiction fun h => ?_
   unfold cheE at g; rw [if_neg (fun h' => h' gB), if_pos (by omega)] at g; cases g
  have h0' : 0 < (edg l u c s).length := by have := edges_zero v hu hc s; omega
  have p1 := chp_mem h0
  have p2 : chR l u c s ∈ edg l u c s := best_in h0' _
  have o1 := (edP_ok v hu hc p1).1
  have o2 := (edg_ok v hu hc p2).1
  have m1 := best_min (fun x hx => (edP_ok v hu hc hx).1) h0 (edg_sub v hu hc p2)
  have m2 := best_min (fun x hx => (edg_ok v hu hc hx).1) h0' (edP_sub v hu hc p1)
  change ltC l (chR l u c s) (chpL l u c s) = false at m1
  change ltC l (chpL l u c s) (chR l u c s) = false at m2
  rw [ltC_iff o2 o1, decide_eq_false_iff_not] at m1
  rw [ltC_iff o1 o2, decide_eq_false_iff_not] at m2
  exact rat_eq o1.pos o2.pos (by omega)
 ·rw [if_neg g, if_neg g, if_neg g, if_neg g]
  exact ⟨rfl, rfl⟩

end Go.Proofs.Ytpnfhcnnodolbaa
namespace Go.Proofs.Ytpnfhcnnodolbaa
set_option linter.unusedVariables false
set_option linter.unusedSimpArgs false
set_option linter.unusedSectionVars false
set_option linter.unnecessarySimpa false
open Go Go.RowKit Game
theorem mle {p q B : Int} (hp : 0 ≤ p) (hq : q ≤ B) : p * q ≤ B * p := by
 have := Int.mul_le_mul_of_nonneg_left hq hp
 rw [Int.mul_comm B p]; exact this
theorem cross_le {u c a1 b1 a2 b2 : Int} (hu : 0 ≤ u ∧ u ≤ 1000) (hc : 0 ≤ c ∧ c ≤ 1000) (h1 : -u ≤ a1 ∧ a1 ≤ 1000 - u) (h2 : -u ≤ b1 ∧ b1 ≤ 1000 - u) (h3 : c - 1000 ≤ a2 ∧ a2 ≤ c) (h4 : c - 1000 ≤ b2 ∧ b2 ≤ c) : a1 * b2 - a2 * b1 ≤ 1000000 := by
 have n1 : ∀ p q : Int, 0 ≤ p → q ≤ 0 → p * q ≤ 0 := fun p q hp hq => Int.mul_nonpos_of_nonneg_of_nonpos hp hq
 have n2 : ∀ p q : Int, 0 ≤ p → 0 ≤ q → 0 ≤ p * q := fun p q hp hq => Int.mul_nonneg hp hq
 rcases Int.le_total 0 a1 with s1 | s1 <;> rcases Int.le_total 0 b2 with s4 | s4 <;> rcases Int.le_total 0 a2 with s3 | s3 <;> rcases Int.le_total 0 b1 with s2 | s2
 ·have := n2 _ _ s3 s2; have := mle (B := 1000) s1 (show b2 ≤ 1000 by omega); omega
 ·have e : a2 * b1 = - (-b1 * a2) := by grind
  have := mle (B := 1000) s1 (show b2 ≤ 1000 by omega); have := mle (B := 1000) (show 0 ≤ -b1 by omega) (show a2 ≤ 1000 by omega); omega
 ·have e : a2 * b1 = - (-a2 * b1) := by grind
  have e2 : a1 * b2 = b2 * a1 := by grind
  have := mle (B := 1000) s4 (show a1 ≤ 1000 by omega); have := mle (B := 1000) (show 0 ≤ -a2 by omega) (show b1 ≤ 1000 by omega); omega
 ·have e : a2 * b1 = (-a2) * (-b1) := by grind
  have := n2 (-a2) (-b1) (by omega) (by omega); have := mle (B := 1000) s1 (show b2 ≤ 1000 by omega); omega
 ·have := n1 _ _ s1 s4; have := n2 _ _ s3 s2; omega
 ·have e : a2 * b1 = - (-b1 * a2) := by grind
  have := n1 _ _ s1 s4; have := mle (B := 1000) (show 0 ≤ -b1 by omega) (show a2 ≤ 1000 by omega); omega
 ·have e : a2 * b1 = - (-a2 * b1) := by grind
  have := n1 _ _ s1 s4; have := mle (B := 1000) (show 0 ≤ -a2 by omega) (show b1 ≤ 1000 by omega); omega
 ·have e : a2 * b1 = (-a2) * (-b1) := by grind
  have := n1 _ _ s1 s4; have := n2 (-a2) (-b1) (by omega) (by omega); omega
 ·have e2 : a1 * b2 = b2 * a1 := by grind
  have := n1 _ _ s4 s1; have := n2 _ _ s3 s2; omega
 ·have e2 : a1 * b2 = b2 * a1 := by grind
  have e : a2 * b1 = - (-b1 * a2) := by grind
  have := n1 _ _ s4 s1; have := mle (B := 1000) (show 0 ≤ -b1 by omega) (show a2 ≤ 1000 by omega); omega
 ·have e2 : a1 * b2 = b2 * a1 := by grind
  have e : a2 * b1 = - (-a2 * b1) := by grind
  have := n1 _ _ s4 s1; have := mle (B := 1000) (show 0 ≤ -a2 by omega) (show b1 ≤ 1000 by omega); omega
 ·have e2 : a1 * b2 = b2 * a1 := by grind
  have e : a2 * b1 = (-a2) * (-b1) := by grind
  have := n1 _ _ s4 s1; have := n2 (-a2) (-b1) (by omega) (by omega); omega
 ·have e2 : a1 * b2 = (-a1) * (-b2) := by grind
  have := n2 _ _ s3 s2; have := mle (B := 1000) (show 0 ≤ -a1 by omega) (show -b2 ≤ 1000 by omega); omega
 ·have e2 : a1 * b2 = (-b2) * (-a1) := by grind
  have e : a2 * b1 = - (a2 * -b1) := by grind
  have := mle (B := 1000) (show 0 ≤ -b2 by omega) (show -a1 ≤ 1000 by omega); have := mle (B := 1000) s3 (show -b1 ≤ 1000 by omega); omega
 ·have e2 : a1 * b2 = (-a1) * (-b2) := by grind
  have e : a2 * b1 = - (b1 * -a2) := by grind
  have := mle (B := 1000) (show 0 ≤ -a1 by omega) (show -b2 ≤ 1000 by omega); have := mle (B := 1000) s2 (show -a2 ≤ 1000 by omega); omega
 ·have e2 : a1 * b2 = (-a1) * (-b2) := by grind
  have e : a2 * b1 = (-a2) * (-b1) := by grind
  have := n2 (-a2) (-b1) (by omega) (by omega); have := mle (B := 1000) (show 0 ≤ -a1 by omega) (show -b2 ≤ 1000 by omega); omega
theorem absI_le {x B : Int} (h1 : x ≤ B) (h2 : -x ≤ B) : absI x ≤ B := by unfold absI; split <;> omega
theorem out_le {n : Nat} {t : List Nat} {p : List Int} {B : Int} (hB : 0 ≤ B) (h : ∀ k, k < p.length → absI (nth p k) ≤ B) (i : Nat) : ∀ K, K ≤ p.length → nth (outN n t p K) i ≤ B
 | 0, _ => by
  have : nth (outN n t p 0) i = 0 := by simp [outN, nth, List.getElem?_replicate]; split <;> rfl
  omega
 | K + 1, hK => by
  simp only [outN]
  rw [nth_set_]
  split
  ·exact h K (by omega)
  ·exact out_le hB h i K (by omega)
theorem putL_le {n : Nat} {t : List Nat} {p : List Int} {B : Int} (n1 : 1 ≤ n) (hl : (putL n t p).length = n) (hB : 0 ≤ B) (h : ∀ k, k < p.length → absI (nth p k) ≤ B) (i : Nat) : nth (putL n t p) i ≤ B := by
 rw [(putL_out n1 hl).1]
 exact out_le hB h i _ (Nat.le_refl _)
theorem exA_rg {l : List Met} (v : VldM l) (u c : Int) (s : Bool) (i : Nat) : -u ≤ exA l u c s i ∧ exA l u c s i ≤ 1000 - u := by
 have := badL_bd v s i
 have e : exA l u c s i = badL (mtl l i) s - u := by simp [exA, spr]
 omega
theorem exC_rg {l : List Met} (v : VldM l) (u c : Int) (s : Bool) (i : Nat) : c - 1000 ≤ exC l u c s i ∧ exC l u c s i ≤ c := by
 have := goodC_bd v s i
 have e : exC l u c s i = c - goodC (mtl l i) s := by simp [exC, spr]
 omega
theorem edg_le {l : List Met} (v : VldM l) {u c : Int} (hu : 0 ≤ u ∧ u ≤ 1000) (hc : 0 ≤ c ∧ c ≤ 1000) {s : Bool} {x : List Int} (h : x ∈ edg l u c s) (i : Nat) : nth x i ≤ 1000000 := by
 obtain ⟨ok, _, hF⟩ := edg_ok v hu hc h
 have hA := exA_rg v u c s
 have hC := exC_rg v u c s
 have hl := ok.len
 rcases hF with ⟨q, hq, rfl⟩ | ⟨b, a, hab, hb, rfl | rfl⟩ | ⟨d, b, a, hab, hbd, hd, rfl⟩
 ·refine putL_le (B := 1000000) v.n1 hl (by decide) (fun k hk => ?_) i
  obtain rfl : k = 0 := by simpa using hk
  decide
 ·refine putL_le (B := 1000000) v.n1 hl (by decide) (two_cases ?_ ?_) i
  ·have := hA a; exact absI_le (by show exA l u c s a ≤ _; omega) (by show - exA l u c s a ≤ _; omega)
  ·have := hA b; exact absI_le (by show - exA l u c s b ≤ _; omega) (by show - - exA l u c s b ≤ _; omega)
 ·refine putL_le (B := 1000000) v.n1 hl (by decide) (two_cases ?_ ?_) i
  ·have := hC a; exact absI_le (by show exC l u c s a ≤ _; omega) (by show - exC l u c s a ≤ _; omega)
  ·have := hC b; exact absI_le (by show - exC l u c s b ≤ _; omega) (by show - - exC l u c s b ≤ _; omega)
 ·have cr : ∀ p q, absI (exA l u c s p * exC l u c s q - exC l u c s p * exA l u c s q) ≤ 1000000 := fun p q => by
   have h1 := cross_le hu hc (hA p) (hA q) (hC p) (hC q)
   have h2 := cross_le hu hc (hA q) (hA p) (hC q) (hC p)
   refine absI_le h1 ?_
   rw [show -(exA l u c s p * exC l u c s q - exC l u c s p * exA l u c s q) = exA l u c s q * exC l u c s p - exC l u c s q * exA l u c s p by grind]
   exact h2
  exact putL_le (B := 1000000) v.n1 hl (by decide) (three_cases (cr b a) (cr a d) (cr d b)) i
theorem edg_vld {l : List Met} (v : VldM l) {u c : Int} (hu : 0 ≤ u ∧ u ≤ 1000) (hc : 0 ≤ c ∧ c ≤ 1000) {s : Bool} {x : List Int} (h : x ∈ edg l u c s) : VldX x l.length :=
 let ok := (edg_ok v hu hc h).1
 ⟨ok.len, fun i => (ok.prt i).1, edg_le v hu hc h, ok.pos⟩
theorem edg_des {l : List Met} {u c : Int} (hB : chkB l u c = 0) {s : Bool} {x : List Int} (h : x ∈ edg l u c s) : desE l u c s x = 0 := by
 obtain ⟨v, hu, hc⟩ := chkB_ok hB
 unfold desE
 rw [if_neg (by rw [hB]; decide), if_neg (by rw [mixE_ok.2 (edg_vld v hu hc h)]; decide), if_pos (edg_ok v hu hc h).2.1]

end Go.Proofs.Ytpnfhcnnodolbaa
namespace Go.Proofs.Ytpnfhcnnodolbaa
set_option linter.unusedVariables false
set_option linter.unusedSimpArgs false
set_option linter.unusedSectionVars false
set_option linter.unnecessarySimpa false
open Go Go.RowKit Game
set_option maxRecDepth 100000
set_option maxHeartbeats 40000000 in
theorem stC10 {A_ : Act} {yB yD yF yG yH yI yK yM yN yO yP yQ yR yS yT yU yV yW yX yY yZ zA zB zC zD zE zF zG zH zI zJ zK zL zM zN zO zP zQ zR zS zT zU zV zW zX zY zZ uA uB uC uD uE uF uG uH uI uJ uK uL uM uN uO uP uQ uR uS uT uU uV uW uX uY uZ iA : Value} {l : List Met} {a a1 : Option Addr} {n cap c1 T B9 : Nat} {x : List Int} {u c : Int} {s : Bool} {w : World} (hA0_ : A_ = { tmps := #[.slice a n cap, yB, .bool s, yD, .pointer (some ⟨T, 0, none⟩), yF, yG, yH, yI, .pointer (some ⟨B9, 0, none⟩), yK, .slice a1 n c1, yM, yN, yO, yP, yQ, yR, yS, yT, yU, yV, yW, yX, yY, yZ, zA, zB, zC, zD, zE, zF, zG, zH, zI, zJ, zK, zL, zM, zN, zO, zP, zQ, zR, zS, zT, zU, zV, zW, zX, zY, zZ, uA, uB, uC, uD, uE, uF, uG, uH, uI, uJ, uK, uL, uM, uN, uO, uP, uQ, uR, uS, uT, uU, uV, uW, uX, uY, uZ, iA], defers := [] }) (hq : FitM l) (hl : l.length ≤ 1000) (hv : VldM l) (ok : Xok l x) (hde : desE l u c s x = 0) (hn : l.length = n) (hm : Mts w a l) (ji : Ints w a1 x) (t0 : w.cell? ⟨T, 0, none⟩ = some (.int .i64 u)) (t1 : w.cell? ⟨T, 1, none⟩ = some (.int .i64 c)) (b9_0 : w.cell? ⟨B9, 0, none⟩ = some (.int .i64 (csN l x))) (b9_1 : w.cell? ⟨B9, 1, none⟩ = some (.int .i64 (csD l x))) :
 Code.wp Try.prog (rgn Try.f4 10) (fun e a' w' => e = .normal ∧ a' = ({ tmps := #[.slice a n cap,yB,.bool s,yD,.pointer (some ⟨T, 0, none⟩),yF,.bool true,yH,yI,.pointer (some ⟨B9, 0, none⟩),yK,.slice a1 n c1,yM,yN,yO,yP,yQ,yR,yS,yT,yU,yV,yW,yX,yY,yZ,zA,zB,zC,zD,zE,zF,zG,zH,zI,zJ,zK,zL,zM,zN,zO,zP,zQ,zR,zS,zT,zU,zV,zW,zX,zY,zZ,uA,uB,uC,uD,uE,uF,uG,uH,uI,uJ,uK,.slice a n cap,.agg #[.int .i64 u, .int .i64 c],.bool s,.slice a1 n c1,.int .i64 0,.bool true,.bool true,.slice a n cap,.slice a1 n c1,.agg #[.int .i64 (csN l x), .int .i64 (csD l x)],.agg #[.int .i64 (csN l x), .int .i64 (csD l x)],.bool true,.bool true,.bool true,.bool true,.bool true], defers := [] } : Act) ∧ Ext w w') A_ w := by
 conv => arg 2; whnf
 refine st_intro (fun Q2 hQ2 => ?_)
 have hA_ := hid hA0_
 clear hA0_
 have hpan : ∀ c a a' w w', Q2 (.panic c) a w → Q2 (.panic c) a' w' := by rw [hQ2]; rintro c a a' w w' ⟨h, _⟩; cases h
 replace hQ2 := hid hQ2
 replace hq := hid hq
 replace hl := hid hl
 replace hv := hid hv
 replace ok := hid ok
 replace hde := hid hde
 replace hn := hid hn
 replace hm := hid hm
 replace ji := hid ji
 have heq : ∀ (p q : Int) w, (Op.equalIn 10000 29 (.agg #[.int .i64 p, .int .i64 q]) (.agg #[.int .i64 p, .int .i64 q])).run Try.prog w = .ok true w := fun p q w => by rw [run_eqRatio]; simp
 have hd1 := hid (fun W h1 h2 => by have := deservesR_any l hq.out hl.out a cap u c s x (fun i => ⟨by have := (ok.out.prt i).1; omega, by have := (ok.out.prt i).2; omega⟩) (by rw [ok.out.len]; exact hl.out) a1 c1 W h1 h2; rw [hde.out, ok.out.len, hn.out] at this; exact this)
 have hd2 := hid (fun W h1 h2 => by have := costOfR_any l hv.out x ok.out.prt ok.out.len ok.out.pos a cap a1 c1 W h1 h2; rw [ok.out.len] at this; change Calls Try.prog 32 #[.slice a l.length cap, .slice a1 l.length c1] W (fun e w' => e = .returned (.agg #[.int .i64 (csN l x), .int .i64 (csD l x)]) ∧ Ext W w') at this; rw [hn.out] at this; exact this)
 have hRD_ := hid (fun w' (x_ : Ext w w') => And.intro (Ext.cell x_ t0) (And.intro (Ext.cell x_ t1) (And.intro (Ext.cell x_ b9_0) (Ext.cell x_ b9_1))))
 refine wp_region_held_drew (S := fun w' => Ext w w') (by kernel_rfl) exE fun hHeld => ?_
 try simp only [List.append_eq, List.cons_append, List.nil_append]
 refine name_any (fun W0 hW => ?_)
 have s0 : Ext w W0 := by rw [hW]; exact hHeld
 clear hW hHeld
 refine wpF_intro 17 (by kernel_rfl) (fun F hF => ?_)
 replace hF := hid hF
 have N1_0 : ∀ (f_ : Nat) (l_ : Array Bool) (W0 : World) (a_ : Act), f_ = 3 → l_ = #[true, true, true, true, true, true, true, true, true, true, true, true, true, true, false, false, false] → a_ = ({ tmps := #[.slice a n cap,yB,.bool s,yD,.pointer (some ⟨T, 0, none⟩),yF,yG,yH,yI,.pointer (some ⟨B9, 0, none⟩),yK,.slice a1 n c1,yM,yN,yO,yP,yQ,yR,yS,yT,yU,yV,yW,yX,yY,yZ,zA,zB,zC,zD,zE,zF,zG,zH,zI,zJ,zK,zL,zM,zN,zO,zP,zQ,zR,zS,zT,zU,zV,zW,zX,zY,zZ,uA,uB,uC,uD,uE,uF,uG,uH,uI,uJ,uK,.slice a n cap,.agg #[.int .i64 u, .int .i64 c],.bool s,.slice a1 n c1,.int .i64 0,.bool true,.bool true,.slice a n cap,.slice a1 n c1,.agg #[.int .i64 (csN l x), .int .i64 (csD l x)],.agg #[.int .i64 (csN l x), .int .i64 (csD l x)],.bool true,.bool true,.bool true,uZ,iA], defers := [] } : Act) → Ext w W0 → F f_ l_ a_ W0 := by
  intro  f_ l_ W0 a_ hf_ hl_ ha_ s0
  subst hf_ hl_ ha_
  refine (hF.out _ _ _ _).2 ?_
  refine wpAnyH_ready (rs := [14]) (by kernel_rfl) (by simp) ?_
  refine AllReadyH.cons (o := _) rfl (fun K hK => ?_) AllReadyH.nil
  refine tk_call (by kernel_rfl) (works_any _) (by kernel_rfl) ?_; rintro e W1 ⟨rfl, e1⟩; refine ⟨_, rfl, ?_⟩
  have s1 := s0.trans e1
  refine hK.out _ _ s1 (fun _ => ?_)
  clear hK K
  try simp only [sxA, sxB, sxC, Act.put, sxD, sxE, sxF]
  refine tkB (i := 15) (v := ?_) rfl hpan ?yl ?_
  case yl => (intro w hSw; (try dsimp only at hSw);  go_simp); with_reducible rfl
  try simp only [sxA, sxB, sxC, Act.put, sxD, sxE, sxF]
  refine tkB (i := 16) (v := ?_) rfl hpan ?yl ?_
  case yl => (intro w hSw; (try dsimp only at hSw);  go_simp); with_reducible rfl
  try simp only [sxA, sxB, sxC, Act.put, sxD, sxE, sxF]
  refine wpAnyH_done (by kernel_rfl) ?_ _
  try simp only [sxA, sxB, sxC, Act.put, sxD, sxE, sxF]
  rw [hQ2.out]
  refine ⟨rfl, ?eq1_1, s1⟩
  case eq1_1 => (first | with_reducible rfl | rfl)
 have N1_1 : ∀ (f_ : Nat) (l_ : Array Bool) (W0 : World) (a_ : Act), f_ = 7 → l_ = #[true, true, true, true, true, true, true, true, true, false, true, false, false, false, false, false, false] → a_ = ({ tmps := #[.slice a n cap,yB,.bool s,yD,.pointer (some ⟨T, 0, none⟩),yF,yG,yH,yI,.pointer (some ⟨B9, 0, none⟩),yK,.slice a1 n c1,yM,yN,yO,yP,yQ,yR,yS,yT,yU,yV,yW,yX,yY,yZ,zA,zB,zC,zD,zE,zF,zG,zH,zI,zJ,zK,zL,zM,zN,zO,zP,zQ,zR,zS,zT,zU,zV,zW,zX,zY,zZ,uA,uB,uC,uD,uE,uF,uG,uH,uI,uJ,uK,.slice a n cap,.agg #[.int .i64 u, .int .i64 c],.bool s,.slice a1 n c1,.int .i64 0,.bool true,.bool true,.slice a n cap,.slice a1 n c1,uU,.agg #[.int .i64 (csN l x), .int .i64 (csD l x)],uW,uX,uY,uZ,iA], defers := [] } : Act) → Ext w W0 → F f_ l_ a_ W0 := by
  intro  f_ l_ W0 a_ hf_ hl_ ha_ s0
  subst hf_ hl_ ha_
  refine (hF.out _ _ _ _).2 ?_
  refine wpAnyH_ready (rs := [9]) (by kernel_rfl) (by simp) ?_
  refine AllReadyH.cons (o := _) rfl (fun K hK => ?_) AllReadyH.nil
  refine tk_call (by kernel_rfl) (hd2.out _ (hm.out.ext s0) (ji.out.ext s0)) (by kernel_rfl) ?_; rintro e W1 ⟨rfl, e1⟩; refine ⟨_, rfl, ?_⟩
  have s1 := s0.trans e1
  refine hK.out _ _ s1 (fun _ => ?_)
  clear hK K
  try simp only [sxA, sxB, sxC, Act.put, sxD, sxE, sxF]
  refine tkB (i := 11) (v := ?_) rfl hpan ?yl ?_
  case yl => (intro w hSw; (try dsimp only at hSw);  go_simp); with_reducible rfl
  try simp only [sxA, sxB, sxC, Act.put, sxD, sxE, sxF]
  refine tkB (i := 12) (v := ?_) rfl hpan ?yl ?_
  case yl => (intro w hSw; (try dsimp only at hSw);  go_simp); with_reducible rfl
  try simp only [sxA, sxB, sxC, Act.put, sxD, sxE, sxF]
  refine tkB (i := 13) (v := ?_) rfl hpan ?yl ?_
  case yl => (intro w hSw; (try dsimp only at hSw);  go_simp); with_reducible rfl
  try simp only [sxA, sxB, sxC, Act.put, sxD, sxE, sxF]
  refine (hF.out _ _ _ _).1 ?_
  exact N1_0 _ _ W1 _ (by first | rfl | kernel_rfl) (by first | rfl | kernel_rfl) (by (try simp only [sxA, sxB, sxC, Act.put, sxD, sxE, sxF]); first | done | with_reducible rfl | rfl) s1
 have N1_2 : ∀ (f_ : Nat) (l_ : Array Bool) (W0 : World) (a_ : Act), f_ = 13 → l_ = #[true, true, true, true, false, false, false, false, false, false, false, false, false, false, false, false, false] → a_ = ({ tmps := #[.slice a n cap,yB,.bool s,yD,.pointer (some ⟨T, 0, none⟩),yF,yG,yH,yI,.pointer (some ⟨B9, 0, none⟩),yK,.slice a1 n c1,yM,yN,yO,yP,yQ,yR,yS,yT,yU,yV,yW,yX,yY,yZ,zA,zB,zC,zD,zE,zF,zG,zH,zI,zJ,zK,zL,zM,zN,zO,zP,zQ,zR,zS,zT,zU,zV,zW,zX,zY,zZ,uA,uB,uC,uD,uE,uF,uG,uH,uI,uJ,uK,.slice a n cap,.agg #[.int .i64 u, .int .i64 c],.bool s,.slice a1 n c1,uP,uQ,uR,uS,uT,uU,uV,uW,uX,uY,uZ,iA], defers := [] } : Act) → Ext w W0 → F f_ l_ a_ W0 := by
  intro  f_ l_ W0 a_ hf_ hl_ ha_ s0
  subst hf_ hl_ ha_
  refine (hF.out _ _ _ _).2 ?_
  clear N1_0
  refine wpAnyH_ready (rs := [4]) (by kernel_rfl) (by simp) ?_
  refine AllReadyH.cons (o := _) rfl (fun K hK => ?_) AllReadyH.nil
  refine tk_call (by kernel_rfl) (hd1.out _ (hm.out.ext s0) (ji.out.ext s0)) (by kernel_rfl) ?_; rintro e W1 ⟨rfl, e1⟩; refine ⟨_, rfl, ?_⟩
  have s1 := s0.trans e1
  refine hK.out _ _ s1 (fun _ => ?_)
  clear hK K
  try simp only [sxA, sxB, sxC, Act.put, sxD, sxE, sxF]
  refine tkB (i := 5) (v := ?_) rfl hpan ?yl ?_
  case yl => (intro w hSw; (try dsimp only at hSw);  go_simp); with_reducible rfl
  try simp only [sxA, sxB, sxC, Act.put, sxD, sxE, sxF]
  refine tkB (i := 6) (v := ?_) rfl hpan ?yl ?_
  case yl => (intro w hSw; (try dsimp only at hSw);  go_simp); with_reducible rfl
  try simp only [sxA, sxB, sxC, Act.put, sxD, sxE, sxF]
  refine tkB (i := 7) (v := ?_) rfl hpan ?yl ?_
  case yl => (intro w hSw; (try dsimp only at hSw);  go_simp); with_reducible rfl
  try simp only [sxA, sxB, sxC, Act.put, sxD, sxE, sxF]
  refine tkB (i := 8) (v := ?_) rfl hpan ?yl ?_
  case yl => (intro w hSw; (try dsimp only at hSw);  go_simp); with_reducible rfl
  try simp only [sxA, sxB, sxC, Act.put, sxD, sxE, sxF]
  refine tkB (i := 10) (v := ?_) rfl hpan ?yl ?_
  case yl => (intro w hSw; have k_ := hRD_.out w hSw; go_simp); with_reducible rfl
  try simp only [sxA, sxB, sxC, Act.put, sxD, sxE, sxF]
  refine (hF.out _ _ _ _).1 ?_
  exact N1_1 _ _ W1 _ (by first | rfl | kernel_rfl) (by first | rfl | kernel_rfl) (by (try simp only [sxA, sxB, sxC, Act.put, sxD, sxE, sxF]); first | done | with_reducible rfl | rfl) s1
 rw [hA_.out]
 refine (hF.out _ _ _ _).2 ?_
 refine tkB (i := 0) (v := ?_) rfl hpan ?yl ?_
 case yl => (intro w hSw; (try dsimp only at hSw);  go_simp); with_reducible rfl
 try simp only [sxA, sxB, sxC, Act.put, sxD, sxE, sxF]
 refine tkB (i := 1) (v := ?_) rfl hpan ?yl ?_
 case yl => (intro w hSw; have k_ := hRD_.out w hSw; go_simp); with_reducible rfl
 try simp only [sxA, sxB, sxC, Act.put, sxD, sxE, sxF]
 refine tkB (i := 2) (v := ?_) rfl hpan ?yl ?_
 case yl => (intro w hSw; (try dsimp only at hSw);  go_simp); with_reducible rfl
 try simp only [sxA, sxB, sxC, Act.put, sxD, sxE, sxF]
 refine tkB (i := 3) (v := ?_) rfl hpan ?yl ?_
 case yl => (intro w hSw; (try dsimp only at hSw);  go_simp); with_reducible rfl
 try simp only [sxA, sxB, sxC, Act.put, sxD, sxE, sxF]
 refine (hF.out _ _ _ _).1 ?_
 exact N1_2 _ _ W0 _ (by first | rfl | kernel_rfl) (by first | rfl | kernel_rfl) (by (try simp only [sxA, sxB, sxC, Act.put, sxD, sxE, sxF]); first | done | with_reducible rfl | rfl) s0

end Go.Proofs.Ytpnfhcnnodolbaa
namespace Go.Proofs.Ytpnfhcnnodolbaa
set_option linter.unusedVariables false
set_option linter.unusedSimpArgs false
set_option linter.unusedSectionVars false
set_option linter.unnecessarySimpa false
open Go Go.RowKit Game
set_option maxRecDepth 100000
theorem greatL_any (a : Option Addr) (cap n : Nat) (a2 : Option Addr) (c2 k : Nat) (hn : n ≤ 9223372036854775807) (hk : k ≤ 9223372036854775807) (w : World) :
 Calls Try.prog 17 #[.slice a n cap, .slice a2 k c2] w fun e w' => e = .returned (.bool (decide (12 < n) || decide (12 < k))) ∧ Ext w w' := by
 by_cases g : 12 < n
 ·have gI : (12 : Int) < (n : Int) := by omega
  have H := hid (show (decide (12 < n) || decide (12 < k)) = true by simp [g])
  go_enter Try.func17, Try.ntmps17
  go_wp2_with fail
  go_ret
  first | exact ⟨ret_bool H.out.symm, exE⟩ | exact ⟨rfl, exE⟩
 ·have gI : ¬ (12 : Int) < (n : Int) := by omega
  by_cases g2 : 12 < k
  ·have gI2 : (12 : Int) < (k : Int) := by omega
   have H := hid (show (decide (12 < n) || decide (12 < k)) = true by simp [g2])
   go_enter Try.func17, Try.ntmps17
   go_wp2_with fail
   go_ret
   first | exact ⟨ret_bool H.out.symm, exE⟩ | exact ⟨rfl, exE⟩
  ·have gI2 : ¬ (12 : Int) < (k : Int) := by omega
   have H := hid (show (decide (12 < n) || decide (12 < k)) = false by simp [g, g2])
   go_enter Try.func17, Try.ntmps17
   go_wp2_with fail
   go_ret
   first | exact ⟨ret_bool H.out.symm, exE⟩ | exact ⟨rfl, exE⟩
set_option maxHeartbeats 800000 in
theorem fineL_any (l : List Met) (q : FitM l) (hl : l.length ≤ 9223372036854775807) (a : Option Addr) (cap : Nat) (u c : Int) (w : World) (hM : Mts w a l) :
 Calls Try.prog 42 #[.slice a l.length cap, (.agg #[.int .i64 (u), .int .i64 (c)])] w fun e w' => e = .returned (.bool (decide (chkB l u c = 0))) ∧ Ext w w' := by
 have hg := hid (fun W => greatL_any a cap l.length none 0 0 hl (by decide) W)
 by_cases g : 12 < l.length
 ·rw [show (decide (12 < l.length) || decide (12 < 0)) = true by simp [g]] at hg
  have H := hid (show decide (chkB l u c = 0) = false by
   rw [decide_eq_false_iff_not]
   intro h
   have := (chkB_ok h).1.n6
   omega)
  replace g := hid g
  go_enter Try.func42, Try.ntmps42
  go_wp2_with fail
  refine (hg.out _).mono ?_; rintro e w1 ⟨rfl, hE⟩
  have x1 : Ext w w1 := exE
  go_wp2_with fail
  go_ret
  exact ⟨ret_bool H.out.symm, exE⟩
 rw [show (decide (12 < l.length) || decide (12 < 0)) = false by simp [g]] at hg
 have hcm := hid (fun W (y : Ext w W) => checkMetalsR_any l q (by omega) a cap W (hM.ext y))
 by_cases g1 : chkM l = 0
 ·rw [g1] at hcm
  have hct := hid (fun W => checkTouchR_any u c W)
  have H := hid (show decide (chkB l u c = 0) = decide (chkU u c = 0) by unfold chkB; rw [if_pos g1])
  obtain ⟨E, hE⟩ : ∃ E, chkU u c = E := ⟨_, rfl⟩
  rw [hE] at hct H
  replace g := hid g
  replace g1 := hid g1
  clear hE q hM
  have H2 := hid (show (E == 0) = decide (E = 0) from rfl)
  go_enter Try.func42, Try.ntmps42
  go_wp2_with fail
  refine (hg.out _).mono ?_; rintro e w1 ⟨rfl, hE⟩
  have t0 := hE.cell (p := ⟨w.heap.size, 0, none⟩) (v := .int .i64 u) (by simp [go_sem])
  have t1 := hE.cell (p := ⟨w.heap.size, 1, none⟩) (v := .int .i64 c) (by simp [go_sem])
  have x1 := hid (show Ext w w1 from exE)
  clear hE
  go_wp2_with fail
  refine (hcm.out _ (by have := x1.out; exact exE)).mono ?_; rintro e w2 ⟨rfl, hE⟩
  replace t0 := hE.cell t0
  replace t1 := hE.cell t1
  have x2 := hid (show Ext w w2 by have := x1.out; exact exE)
  clear hE
  go_wp2_with fail
  refine (hct.out _).mono ?_; rintro e w3 ⟨rfl, hE⟩
  have x3 := hid (show Ext w w3 by have := x2.out; exact exE)
  go_wp2_with fail
  go_ret
  exact ⟨ret_bool (by rw [H.out, ← H2.out]), x3.out⟩
 ·have H := hid (show decide (chkB l u c = 0) = false by rw [decide_eq_false_iff_not]; unfold chkB; rw [if_neg g1]; exact g1)
  have g2 : (chkM l == 0) = false := by rw [beq_eq_false_iff_ne]; exact g1
  obtain ⟨E, hE⟩ : ∃ E, chkM l = E := ⟨_, rfl⟩
  rw [hE] at hcm g2
  replace g := hid g
  replace g1 := hid g1
  clear hE q hM
  go_enter Try.func42, Try.ntmps42
  go_wp2_with fail
  refine (hg.out _).mono ?_; rintro e w1 ⟨rfl, hE⟩
  have x1 := hid (show Ext w w1 from exE)
  clear hE
  go_wp2_with fail
  refine (hcm.out _ (by have := x1.out; exact exE)).mono ?_; rintro e w2 ⟨rfl, hE⟩
  have x2 := hid (show Ext w w2 by have := x1.out; exact exE)
  go_wp2_with fail
  go_ret
  exact ⟨ret_bool H.out.symm, x2.out⟩

end Go.Proofs.Ytpnfhcnnodolbaa
namespace Go.Proofs.Ytpnfhcnnodolbaa
set_option linter.unusedVariables false
set_option linter.unusedSimpArgs false
set_option linter.unusedSectionVars false
set_option linter.unnecessarySimpa false
open Go Go.RowKit Game
set_option maxRecDepth 100000
set_option maxHeartbeats 8000000 in
theorem alloyCosts_any (l : List Met) (q : FitM l) (a : Option Addr) (cap : Nat) (u c : Int) (s : Bool) (w : World) (hM : Mts w a l) (hl : l.length ≤ 9223372036854775807) (iu : I64 u) (ic : I64 c) :
 Calls Try.prog 4 #[.slice a l.length cap, (.agg #[.int .i64 (u), .int .i64 (c)]), .bool s] w fun e w' => e = .returned (.bool true) ∧ Ext w w' := by
 have hg := hid (fun W => greatL_any a cap l.length none 0 0 hl (by decide) W)
 by_cases g : 12 < l.length
 ·rw [show (decide (12 < l.length) || decide (12 < 0)) = true by simp [g]] at hg
  replace g := hid g
  go_enter Try.func4, Try.ntmps4
  go_wp2_with fail
  refine (hg.out _).mono ?_; rintro e w1 ⟨rfl, hE⟩
  go_wp2_with fail
  refine (works_any _).mono ?_; rintro e w2 ⟨rfl, hE2⟩
  go_wp2_with fail
  go_ret
  exact ⟨rfl, exE⟩
 rw [show (decide (12 < l.length) || decide (12 < 0)) = false by simp [g]] at hg
 have hl2 : l.length ≤ 1000 := by omega
 have heq : ∀ (p q : Int) w, (Op.equalIn 10000 29 (.agg #[.int .i64 p, .int .i64 q]) (.agg #[.int .i64 p, .int .i64 q])).run Try.prog w = .ok true w := fun p q w => by rw [run_eqRatio]; simp
 have h1 := hid (fun W h => least_any l q hl2 a cap u c iu ic s W h)
 have h2 := hid (fun W h => by have := leastR_any l q hl2 a cap u c s W h; rw [← (least_eq l u c s).1, ← (least_eq l u c s).2, ← che_eq l u c s] at this; exact this)
 have h3 := hid (fun W h => cheapestP_any l q hl2 a cap u c iu ic s W h)
 have hlen : (chpR l u c s).length ≤ 12 := by
  unfold chpR
  split
  ·rename_i gE
   have gB : chkB l u c = 0 := by
    refine Classical.byContradiction fun h => ?_
    unfold cheE at gE; rw [if_pos h] at gE; exact h gE
   obtain ⟨v, hu, hc⟩ := chkB_ok gB
   have h0 : 0 < (edP l u c s).length := by
    refine Classical.byContradiction fun h => ?_
    unfold cheE at gE; rw [if_neg (fun h' => h' gB), if_pos (by omega)] at gE; cases gE
   rw [(edP_ok v hu hc (chp_mem h0)).1.len]; omega
  ·simp
 have hyes : Hid (cheE l u c s = 0 → VldM l ∧ Xok l (chpL l u c s) ∧ desE l u c s (chpL l u c s) = 0 ∧ chpR l u c s = chpL l u c s ∧ lstN l u c s = csN l (chpL l u c s) ∧ lstD l u c s = csD l (chpL l u c s)) := hid fun gE => by
  have gB : chkB l u c = 0 := by
   refine Classical.byContradiction fun h => ?_
   unfold cheE at gE; rw [if_pos h] at gE; exact h gE
  obtain ⟨v, hu, hc⟩ := chkB_ok gB
  have h0 : 0 < (edP l u c s).length := by
   refine Classical.byContradiction fun h => ?_
   unfold cheE at gE; rw [if_neg (fun h' => h' gB), if_pos (by omega)] at gE; cases gE
  have hm := chp_mem h0
  exact ⟨v, (edP_ok v hu hc hm).1, edg_des gB (edP_sub v hu hc hm), by unfold chpR; rw [if_pos gE], by unfold lstN; rw [if_pos gE], by unfold lstD; rw [if_pos gE]⟩
 have hnil : Hid (¬ cheE l u c s = 0 → (chpR l u c s).length = 0) := hid fun gE => by unfold chpR; rw [if_neg gE]; rfl
 have hlI : ¬ (12 : Int) < ((chpR l u c s).length : Int) := by omega
 replace hM := hid hM
 have hq := hid q
 replace g := hid g
 clear q hlen
 go_enter Try.func4, Try.ntmps4
 go_wp2_with fail
 refine (hg.out _).mono ?_; rintro e w1 ⟨rfl, hE⟩
 have X := hid (show Ext w w1 from exE)
 have t0 := hid (hE.cell (p := ⟨w.heap.size, 0, none⟩) (v := .int .i64 u) (by simp [go_sem]))
 have t1 := hid (hE.cell (p := ⟨w.heap.size, 1, none⟩) (v := .int .i64 c) (by simp [go_sem]))
 replace hM := hid (hM.out.ext X.out)
 obtain ⟨T, hT⟩ : ∃ T, w.heap.size = T := ⟨_, rfl⟩
 rw [hT] at t0 t1 ⊢
 clear hE hg hT
 have o0 := t0.out; have o1 := t1.out; have lT := cell_lt o0; dsimp only at lT
 go_wp2_with fail
 refine (h1.out _ (hM.out.ext exE)).mono ?_; rintro e u1 ⟨rfl, hE⟩
 have x1 : Ext w1 u1 := exE
 replace X := hid (X.out.trans x1); replace hM := hid (hM.out.ext x1); replace t0 := hid (x1.cell t0.out); replace t1 := hid (x1.cell t1.out)
 clear hE x1 o0 o1 lT
 have o0 := t0.out; have o1 := t1.out; have lT := cell_lt o0; dsimp only at lT
 obtain ⟨N, hN⟩ : ∃ z, lstN l u c s = z := ⟨_, rfl⟩
 obtain ⟨D, hD⟩ : ∃ z, lstD l u c s = z := ⟨_, rfl⟩
 rw [hN, hD] at h2 hyes ⊢
 obtain ⟨E, hEe⟩ : ∃ z, cheE l u c s = z := ⟨_, rfl⟩
 rw [hEe] at h2 h3 hyes hnil ⊢
 clear hN hD hEe h1
 go_wp2_with fail
 refine name_c (fun v1 hv => ?_)
 have x1 : Ext u1 v1 := by rw [hv]; exact exE
 have b7_0 := hid (show v1.cell? ⟨u1.heap.size, 0, none⟩ = some (.int .i64 N) by rw [hv]; simp [go_sem])
 have b7_1 := hid (show v1.cell? ⟨u1.heap.size, 1, none⟩ = some (.int .i64 D) by rw [hv]; simp [go_sem])
 replace X := hid (X.out.trans x1); replace hM := hid (hM.out.ext x1); replace t0 := hid (x1.cell t0.out); replace t1 := hid (x1.cell t1.out)
 clear hv x1 o0 o1 lT
 refine (h2.out _ hM.out).mono ?_; rintro e u2 ⟨rfl, hE⟩
 replace X := hid (X.out.trans hE); replace hM := hid (hM.out.ext hE); replace t0 := hid (hE.cell t0.out); replace t1 := hid (hE.cell t1.out); replace b7_0 := hid (hE.cell b7_0.out); replace b7_1 := hid (hE.cell b7_1.out)
 clear hE
 have o0 := t0.out; have o1 := t1.out; have lT := cell_lt o0; dsimp only at lT
 go_wp2_with fail
 refine name_c (fun v2 hv => ?_)
 have x1 : Ext u2 v2 := by rw [hv]; exact exE
 have b9_0 := hid (show v2.cell? ⟨u2.heap.size, 0, none⟩ = some (.int .i64 N) by rw [hv]; simp [go_sem])
 have b9_1 := hid (show v2.cell? ⟨u2.heap.size, 1, none⟩ = some (.int .i64 D) by rw [hv]; simp [go_sem])
 replace X := hid (X.out.trans x1); replace hM := hid (hM.out.ext x1); replace t0 := hid (x1.cell t0.out); replace t1 := hid (x1.cell t1.out); replace b7_0 := hid (x1.cell b7_0.out); replace b7_1 := hid (x1.cell b7_1.out)
 clear hv x1 o0 o1 lT
 refine (h3.out _ hM.out).mono ?_; rintro e u3 ⟨a1, c1, rfl, hI, hE⟩
 replace X := hid (X.out.trans hE); replace hM := hid (hM.out.ext hE); replace t0 := hid (hE.cell t0.out); replace t1 := hid (hE.cell t1.out); replace b7_0 := hid (hE.cell b7_0.out); replace b7_1 := hid (hE.cell b7_1.out); replace b9_0 := hid (hE.cell b9_0.out); replace b9_1 := hid (hE.cell b9_1.out)
 replace hI := hid hI
 clear hE h2 h3
 have r0 := b7_0.out; have r1 := b7_1.out; have r2 := b9_0.out; have r3 := b9_1.out
 by_cases gE : E = 0
 ·subst gE
  obtain ⟨v, ok, hde, hR, hN, hD⟩ := hyes.out rfl
  rw [hR] at hI hlI ⊢
  rw [ok.len] at hlI ⊢
  have hV := hid v; have hok := hid ok; have hde' := hid hde
  clear v ok hde hR hyes hnil
  go_upto_region 10 with (fail)
  refine wp_mono (stC10 rfl hq.out hl2 hV.out hok.out hde'.out rfl hM.out hI.out t0.out t1.out (by rw [← hN]; exact b9_0.out) (by rw [← hD]; exact b9_1.out)) ?_
  rintro e a' v9 ⟨rfl, rfl, xx⟩
  replace X := hid (X.out.trans xx)
  clear r0 r1 r2 r3 hN hD
  go_wp2_with fail
  go_ret
  exact ⟨rfl, X.out⟩
 ·have g1 : (E != 0) = true := by simpa using gE
  have hz := hnil.out gE
  have hzI : (((chpR l u c s).length : Int) == 0) = true := by rw [hz]; rfl
  rw [hz] at hzI hlI ⊢
  replace gE := hid gE; replace hz := hid hz
  clear hnil hyes
  go_wp2_with fail
  refine (works_any _).mono ?_; rintro e w9 ⟨rfl, hE9⟩
  have X9 := hid (X.out.trans (show Ext u3 w9 from exE))
  go_wp2_with fail
  go_ret
  exact ⟨rfl, X9.out⟩

end Go.Proofs.Ytpnfhcnnodolbaa
