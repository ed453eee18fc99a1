/- Texts of one proof, laid together: Owm, Mrp, LaZa, LaZc. -/
import Derived.Test.YtpnfhcnnodolbaaZMoreA39
import Derived.Test.YtpnfhcnnodolbaaZMoreA38
import Derived.Test.YtpnfhcnnodolbaaZY26
import Derived.Test.YtpnfhcnnodolbaaZY10
import Derived.Test.YtpnfhcnnodolbaaZY7
import Derived.Test.YtpnfhcnnodolbaaZY2
import Derived.Test.YtpnfhcnnodolbaaZMoreA34
import Derived.Test.YtpnfhcnnodolbaaZY25
import Derived.Test.YtpnfhcnnodolbaaZY11
import Derived.Test.YtpnfhcnnodolbaaZY4
import Derived.Test.YtpnfhcnnodolbaaZY18
import Derived.Test.YtpnfhcnnodolbaaZY17
import Derived.Test.YtpnfhcnnodolbaaZY16
import Derived.Test.YtpnfhcnnodolbaaZY8
import Derived.Test.YtpnfhcnnodolbaaZMoreA35
import Derived.Test.YtpnfhcnnodolbaaZY12
import Derived.Test.YtpnfhcnnodolbaaZY3
import Derived.Test.YtpnfhcnnodolbaaZMoreA36
import Derived.Test.YtpnfhcnnodolbaaZY22
import Derived.Test.YtpnfhcnnodolbaaZY20
import Derived.Test.YtpnfhcnnodolbaaZY21
import Derived.Test.YtpnfhcnnodolbaaZY9
import Derived.Test.YtpnfhcnnodolbaaZY5
import Derived.Test.YtpnfhcnnodolbaaZY13
import Derived.Test.YtpnfhcnnodolbaaZY19
import Derived.Test.YtpnfhcnnodolbaaZY1
import Derived.Test.YtpnfhcnnodolbaaZY30
import Derived.Test.YtpnfhcnnodolbaaZY28
import Derived.Test.YtpnfhcnnodolbaaZY23
import Derived.Test.YtpnfhcnnodolbaaZY14
import Derived.Test.YtpnfhcnnodolbaaZY27
import Derived.Test.YtpnfhcnnodolbaaZY6
import Derived.Laws.OwnMore
import Derived.Test.YtpnfhcnnodolbaaZY31
import Derived.Test.YtpnfhcnnodolbaaZY29
import Derived.Test.YtpnfhcnnodolbaaZY32
set_option linter.unusedVariables false
set_option linter.unusedSimpArgs false
set_option linter.unusedSectionVars false
set_option linter.unnecessarySimpa false
set_option maxRecDepth 100000
namespace Go.Proofs.Ytpnfhcnnodolbaa
open Go Go.RowKit Game
theorem mts_cells {w : World} {b off : Nat} {l : List Met} (h : ∀ i, i < l.length → Mtc w b (off + i * 5) (mtl l i)) : ∀ i, i < l.length → ∀ r, r < 5 → w.cell? ⟨b, off + i * 5 + r, none⟩ = some (mtV (mtl l i) r) := by
 intro i hi r hr
 obtain ⟨h0, h1, h2, h3, h4⟩ := h i hi
 match r, hr with
 | 0, _ => simpa [mtV] using h0
 | 1, _ => simpa [mtV] using h1
 | 2, _ => simpa [mtV] using h2
 | 3, _ => simpa [mtV] using h3
 | 4, _ => simpa [mtV] using h4
def apM (l : List Met) (m : Met) : List Met := mkM (l.length + 1) fun i => if i < l.length then mtl l i else m
theorem apM_len (l : List Met) (m : Met) : (apM l m).length = l.length + 1 := mkM_len _ _
theorem apM_lo {l : List Met} (m : Met) {i : Nat} (h : i < l.length) : mtl (apM l m) i = mtl l i := by
 rw [show mtl (apM l m) i = if i < l.length then mtl l i else m from mkM_at _ (by omega), if_pos h]
theorem apM_hi (l : List Met) (m : Met) : mtl (apM l m) l.length = m := by
 rw [show mtl (apM l m) l.length = if l.length < l.length then mtl l l.length else m from mkM_at _ (by omega), if_neg (Nat.lt_irrefl _)]
theorem apM_fit {l : List Met} (q : FitM l) {m : Met} (h : I64 m.p ∧ I64 m.ll ∧ I64 m.lh ∧ I64 m.cl ∧ I64 m.ch) : FitM (apM l m) := fun i => by
 rcases Nat.lt_trichotomy i l.length with g | g | g
 ·rw [apM_lo m g]; exact q i
 ·subst g; rw [apM_hi]; exact h
 ·rw [mtl_ge (by rw [apM_len]; omega)]; exact ⟨⟨by decide, by decide⟩, ⟨by decide, by decide⟩, ⟨by decide, by decide⟩, ⟨by decide, by decide⟩, ⟨by decide, by decide⟩⟩
def x0 (n : Nat) (x : List Int) : List Int := mkL (n + 1) fun i => if i < n then nth x i else 0
theorem x0_lo {n : Nat} (x : List Int) {i : Nat} (h : i < n) : nth (x0 n x) i = nth x i := by
 rw [show nth (x0 n x) i = if i < n then nth x i else 0 from mkL_nth _ (by omega), if_pos h]
theorem x0_hi (n : Nat) (x : List Int) : nth (x0 n x) n = 0 := by
 rw [show nth (x0 n x) n = if n < n then nth x n else 0 from mkL_nth _ (by omega), if_neg (Nat.lt_irrefl _)]
theorem x0_sum (n : Nat) (x : List Int) (f g : Nat → Int) (h : ∀ i, i < n → f i = g i) : sm (n + 1) (fun i => nth (x0 n x) i * f i) = sm n (fun i => nth x i * g i) := by
 show sm n (fun i => nth (x0 n x) i * f i) + nth (x0 n x) n * f n = _
 rw [x0_hi, Int.zero_mul, Int.add_zero]
 exact sm_congr fun i hi => by rw [x0_lo x hi, h i hi]
theorem x0_ps {n : Nat} {x : List Int} (hl : x.length = n) : psum (x0 n x) = psum x := by
 unfold psum
 rw [show (x0 n x).length = n + 1 from mkL_len _ _, hl]
 show sm n (nth (x0 n x)) + nth (x0 n x) n = _
 rw [x0_hi, Int.add_zero]
 exact sm_congr fun i hi => x0_lo x hi
theorem x0_cost (l : List Met) (m : Met) (x : List Int) : costN (apM l m) (x0 l.length x) (apM l m).length = costN l x l.length := by
 rw [apM_len]
 exact x0_sum _ x _ _ fun i hi => by rw [apM_lo m hi]
theorem x0_gx {l : List Met} {m : Met} {u c : Int} {s : Bool} {x : List Int} (g : Gx l u c s x) : Gx (apM l m) u c s (x0 l.length x) := by
 refine ⟨by rw [apM_len]; exact mkL_len _ _, fun i => ?_, by rw [x0_ps g.len]; exact g.ps, ?_⟩
 ·rcases Nat.lt_trichotomy i l.length with h | h | h
  ·rw [x0_lo x h]; exact g.nn i
  ·subst h; rw [x0_hi]; exact Int.le_refl _
  ·rw [show nth (x0 l.length x) i = 0 from nth_mkL_out (by omega)]; exact Int.le_refl _
 ·have e1 : ledN (apM l m) s (x0 l.length x) (apM l m).length = ledN l s x l.length := by rw [apM_len]; exact x0_sum _ x _ _ fun i hi => by rw [apM_lo m hi]
  have e2 : copN (apM l m) s (x0 l.length x) (apM l m).length = copN l s x l.length := by rw [apM_len]; exact x0_sum _ x _ _ fun i hi => by rw [apM_lo m hi]
  have := g.gd
  unfold isG at this ⊢
  rw [e1, e2, x0_ps g.len]; exact this
def xa (n j : Nat) (z : List Int) : List Int := mkL n fun i => nth z i + if i = j then nth z n else 0
theorem sm_one_at {n j : Nat} (hj : j < n) (k : Int) (f : Nat → Int) : sm n (fun i => (if i = j then k else 0) * f i) = k * f j := by
 rw [sm_split _ hj, sm_zero (f := fun i => if i = j then 0 else (if i = j then k else 0) * f i) fun i _ => by
  split
  ·rfl
  ·omega]
 rw [if_pos rfl]; omega
theorem xa_sum {n j : Nat} (hj : j < n) (z : List Int) (f : Nat → Int) : sm n (fun i => nth (xa n j z) i * f i) = sm n (fun i => nth z i * f i) + nth z n * f j := by
 rw [← sm_one_at hj (nth z n) f, ← sm_add]
 exact sm_congr fun i hi => by rw [show nth (xa n j z) i = nth z i + if i = j then nth z n else 0 from mkL_nth _ hi]; grind
theorem xa_ps {n j : Nat} (hj : j < n) {z : List Int} (hl : z.length = n + 1) : psum (xa n j z) = psum z := by
 have h := xa_sum hj z (fun _ => 1)
 unfold psum
 rw [show (xa n j z).length = n from mkL_len _ _, hl]
 show sm n (nth (xa n j z)) = sm n (nth z) + nth z n
 rw [show sm n (nth (xa n j z)) = sm n (fun i => nth (xa n j z) i * 1) from sm_congr fun i _ => by omega, h, show sm n (fun i => nth z i * 1) = sm n (nth z) from sm_congr fun i _ => by omega]
 omega
theorem ap_same {l : List Met} {m : Met} {u c : Int} {s : Bool} {j : Nat} (hB : chkB l u c = 0) (hA : chkB (apM l m) u c = 0) (hj : j < l.length) (h1 : (mtl l j).p ≤ m.p) (h2 : badL (mtl l j) s ≤ badL m s) (h3 : goodC m s ≤ goodC (mtl l j) s) :
 cheE (apM l m) u c s = cheE l u c s ∧ lstN (apM l m) u c s = lstN l u c s ∧ lstD (apM l m) u c s = lstD l u c s := by
 have key : ∀ z, Gx (apM l m) u c s z → Gx l u c s (xa l.length j z) ∧ costN l (xa l.length j z) l.length ≤ costN (apM l m) z (apM l m).length ∧ psum (xa l.length j z) = psum z := fun z gz => by
  have hl : z.length = l.length + 1 := by rw [gz.len, apM_len]
  have hp := xa_ps hj hl
  have zn := gz.nn l.length
  have split : ∀ (f : Met → Int), sm (l.length + 1) (fun i => nth z i * f (mtl (apM l m) i)) = sm l.length (fun i => nth z i * f (mtl l i)) + nth z l.length * f m := fun f => by
   show sm l.length (fun i => nth z i * f (mtl (apM l m) i)) + nth z l.length * f (mtl (apM l m) l.length) = _
   rw [apM_hi, sm_congr fun i hi => by rw [apM_lo m hi]]
  have e1 := split fun q => q.p
  have e2 := split fun q => badL q s
  have e3 := split fun q => goodC q s
  have c1 := xa_sum hj z fun i => (mtl l i).p
  have c2 := xa_sum hj z fun i => badL (mtl l i) s
  have c3 := xa_sum hj z fun i => goodC (mtl l i) s
  have k1 := Int.mul_le_mul_of_nonneg_left h1 zn
  have k2 := Int.mul_le_mul_of_nonneg_left h2 zn
  have k3 := Int.mul_le_mul_of_nonneg_left h3 zn
  refine ⟨⟨mkL_len _ _, fun i => ?_, by rw [hp]; exact gz.ps, ?_⟩, ?_, hp⟩
  ·rcases Nat.lt_or_ge i l.length with h | h
   ·rw [show nth (xa l.length j z) i = nth z i + if i = j then nth z l.length else 0 from mkL_nth _ h]
    have := gz.nn i
    split <;> omega
   ·rw [show nth (xa l.length j z) i = 0 from nth_mkL_out h]; exact Int.le_refl _
  ·have hg := gz.gd
   unfold isG at hg ⊢
   rw [Bool.and_eq_true, decide_eq_true_eq, decide_eq_true_eq] at hg ⊢
   unfold ledN copN at hg ⊢
   rw [apM_len] at hg
   rw [hp]
   omega
  ·unfold costN; rw [apM_len]; omega
 by_cases h : cheE l u c s = 0
 ·have g := (chp_gx hB h).1
  obtain ⟨r1, r2, r3⟩ := lst_of hA (x0_gx (m := m) g) fun z gz => by
   obtain ⟨gx, hc, hp⟩ := key z gz
   rw [x0_cost, x0_ps g.len]
   have := chp_le hB h gx
   rw [hp] at this
   exact Int.le_trans this (Int.mul_le_mul_of_nonneg_right hc (Int.le_of_lt g.ps))
  rw [x0_cost, x0_ps g.len] at r2 r3
  refine ⟨by rw [r1, h], ?_, ?_⟩
  ·rw [r2]; unfold lstN; rw [if_pos h]; rfl
  ·rw [r3]; unfold lstD; rw [if_pos h]; rfl
 ·have h' : ¬ cheE (apM l m) u c s = 0 := fun e => by
   obtain ⟨z, gz⟩ := (gx_che hA s).1 e
   exact h ((gx_che hB s).2 ⟨_, (key z gz).1⟩)
  have a := lst_zero l u c s h; have a' := lst_zero _ u c s h'
  have t := che_two hB s; have t' := che_two hA s
  exact ⟨by omega, by rw [a.1, a'.1], by rw [a.2, a'.2]⟩
theorem ap_less {l : List Met} {m : Met} {u c : Int} {s : Bool} (hB : chkB l u c = 0) (hA : chkB (apM l m) u c = 0) (h : cheE l u c s = 0) :
 cheE (apM l m) u c s = 0 ∧ lessB (lstN l u c s) (lstD l u c s) (lstN (apM l m) u c s) (lstD (apM l m) u c s) = false :=
 lst_mono hB hA (fun x g => ⟨_, x0_gx (m := m) g, by rw [x0_cost, x0_ps g.len]; exact Int.le_refl _⟩) h
def wsM (m : Met) (p a b : Int) : Met := ⟨if 1000 < m.p + p then 1000 else m.p + p, if 1000 < m.ll + a then 1000 else m.ll + a, if 1000 < m.lh + a then 1000 else m.lh + a, if m.cl - b < 0 then 0 else m.cl - b, if m.ch - b < 0 then 0 else m.ch - b⟩
theorem ws_ap {l : List Met} {u c : Int} (s : Bool) {j : Nat} {p a b : Int} (hB : chkB l u c = 0) (hj : j < l.length) (h5 : l.length ≤ 5) (hp : 0 ≤ p) (ha : 0 ≤ a) (hb : 0 ≤ b) :
 VldM (apM l (wsM (mtl l j) p a b)) ∧ chkB (apM l (wsM (mtl l j) p a b)) u c = 0 ∧ cheE (apM l (wsM (mtl l j) p a b)) u c s = cheE l u c s ∧ lstN (apM l (wsM (mtl l j) p a b)) u c s = lstN l u c s ∧ lstD (apM l (wsM (mtl l j) p a b)) u c s = lstD l u c s := by
 obtain ⟨v, hu, hc⟩ := chkB_ok hB
 have q1 := v.pr j; have q2 := v.le j; have q3 := v.co j
 have vA : VldM (apM l (wsM (mtl l j) p a b)) := by
  refine mk_vld (by omega) (by omega) (fun i _ => ?_) (fun i _ => ?_) (fun i _ => ?_)
  ·by_cases e : i < l.length
   ·rw [if_pos e]; exact v.pr i
   ·rw [if_neg e]; unfold wsM; dsimp only; split <;> omega
  ·by_cases e : i < l.length
   ·rw [if_pos e]; exact v.le i
   ·rw [if_neg e]; unfold wsM; dsimp only; split <;> split <;> omega
  ·by_cases e : i < l.length
   ·rw [if_pos e]; exact v.co i
   ·rw [if_neg e]; unfold wsM; dsimp only; split <;> split <;> omega
 have hA := vld_chk vA hu hc
 refine ⟨vA, hA, ap_same hB hA hj ?_ ?_ ?_⟩
 ·unfold wsM; dsimp only; split <;> omega
 ·unfold wsM badL; cases s
  ·simp only [Bool.false_eq_true, if_false]; split <;> omega
  ·simp only [if_true]; split <;> omega
 ·unfold wsM goodC; cases s
  ·simp only [Bool.false_eq_true, if_false]; split <;> omega
  ·simp only [if_true]; split <;> omega
theorem ap_end {W : World} {l : List Met} {m : Met} {n b c q : Nat} (hn : l.length = n) (h : OwnG W b 68 5 (.slice (some ⟨c, 0, none⟩) (n + 1) q) (fun i r => mtV (if i < n then mtl l i else m) r) (n + 1)) : Mts W (some ⟨c, 0, none⟩) (apM l m) := by
 subst hn
 obtain ⟨a9, c9, e9, h9⟩ := mts_own (f := fun i => if i < l.length then mtl l i else m) (l := apM l m) h (apM_len l m) (fun i hi => mkM_at _ hi)
 cases e9; exact h9
set_option maxHeartbeats 40000000 in
theorem stZ6 {yB yC yD yE yF yG yH yI yJ yK yM yN yO yP yQ yR yS yT yU yV yW yX yY yZ zA zB zC zD zE zF zG zH zI zJ zK zL zM zN zO zP zQ zR zS zT zU zV zW zX zY zZ uA uB uC uD uE uF uG uH uI uJ uK uL uM uN uO uP uQ uR uS uT uU uV uW uX uY uZ iA iB iC iD iE iF iG iH iI iJ iK iL iM iN iO iP iQ iR iS iT iU iV iW iX iY iZ oA oB oC oD oE oF oG oH oI oJ oK oL oM oN oO oP oQ oR oS oT oU oV oW oX oY oZ qA qB qC qD qE qF qG qH qI qJ qK qL qM qN qO qP qQ qR qS qT qU qV : Value} {l : List Met} {bm om n cap Bm : Nat} {mp m1 m2 m3 m4 : Int} {w : World} (hl : l.length = n) (n0 : 0 < n) (n5 : n ≤ 5) (hcl : ∀ i, i < n → ∀ r, r < 5 → w.cell? ⟨bm, om + i * 5 + r, none⟩ = some (mtV (mtl l i) r)) (c0 : w.cell? ⟨Bm, 0, none⟩ = some (.int .i64 mp)) (c1 : w.cell? ⟨Bm, 1, none⟩ = some (.int .i64 m1)) (c2 : w.cell? ⟨Bm, 2, none⟩ = some (.int .i64 m2)) (c3 : w.cell? ⟨Bm, 3, none⟩ = some (.int .i64 m3)) (c4 : w.cell? ⟨Bm, 4, none⟩ = some (.int .i64 m4)) :
 Code.wp Try.prog (rgn Try.f15 6) (fun e a' w' => e = .normal ∧ ∃ (bx : Nat) (cx : Nat) (zV' zW' zX' zY' zZ' uA' : Value), a' = { tmps := #[.slice (some ⟨bm, om, none⟩) n cap,yB,yC,yD,yE,yF,yG,yH,yI,yJ,yK,.pointer (some ⟨Bm, 0, none⟩),yM,yN,yO,yP,yQ,yR,yS,yT,.slice (some ⟨bx, 0, none⟩) (n + 1) cx,yV,yW,yX,yY,yZ,zA,zB,zC,zD,zE,zF,zG,zH,zI,zJ,zK,zL,zM,zN,zO,zP,zQ,zR,zS,zT,zU,zV',zW',zX',zY',zZ',uA',uB,uC,uD,uE,uF,uG,uH,uI,uJ,uK,uL,uM,uN,uO,uP,uQ,uR,uS,uT,uU,uV,uW,uX,uY,uZ,iA,iB,iC,iD,iE,iF,iG,iH,iI,iJ,iK,iL,iM,iN,iO,iP,iQ,iR,iS,iT,iU,iV,iW,iX,iY,iZ,oA,oB,oC,oD,oE,oF,oG,oH,oI,oJ,oK,oL,oM,oN,oO,oP,oQ,oR,oS,oT,oU,oV,oW,oX,oY,oZ,qA,qB,qC,qD,qE,qF,qG,qH,qI,qJ,qK,qL,qM,qN,qO,qP,qQ,qR,qS,qT,qU,qV], defers := [] } ∧ Ext w w' ∧ Mts w' (some ⟨bx, 0, none⟩) (apM l ⟨mp, m1, m2, m3, m4⟩)) { tmps := #[.slice (some ⟨bm, om, none⟩) n cap,yB,yC,yD,yE,yF,yG,yH,yI,yJ,yK,.pointer (some ⟨Bm, 0, none⟩),yM,yN,yO,yP,yQ,yR,yS,yT,yU,yV,yW,yX,yY,yZ,zA,zB,zC,zD,zE,zF,zG,zH,zI,zJ,zK,zL,zM,zN,zO,zP,zQ,zR,zS,zT,zU,zV,zW,zX,zY,zZ,uA,uB,uC,uD,uE,uF,uG,uH,uI,uJ,uK,uL,uM,uN,uO,uP,uQ,uR,uS,uT,uU,uV,uW,uX,uY,uZ,iA,iB,iC,iD,iE,iF,iG,iH,iI,iJ,iK,iL,iM,iN,iO,iP,iQ,iR,iS,iT,iU,iV,iW,iX,iY,iZ,oA,oB,oC,oD,oE,oF,oG,oH,oI,oJ,oK,oL,oM,oN,oO,oP,oQ,oR,oS,oT,oU,oV,oW,oX,oY,oZ,qA,qB,qC,qD,qE,qF,qG,qH,qI,qJ,qK,qL,qM,qN,qO,qP,qQ,qR,qS,qT,qU,qV], defers := [] } w := by
 conv => arg 2; whnf
 refine st_intro (fun Q2 hQ2 => ?_)
 have hpan : ∀ c a a' w w', Q2 (.panic c) a w → Q2 (.panic c) a' w' := by rw [hQ2]; rintro c a a' w w' ⟨h, _⟩; cases h
 replace hQ2 := hid hQ2
 replace hcl := hid hcl
 have hRD_ := hid (fun w' (x_ : Ext w w') => And.intro (Ext.cell x_ c0) (And.intro (Ext.cell x_ c1) (And.intro (Ext.cell x_ c2) (And.intro (Ext.cell x_ c3) (Ext.cell x_ c4)))))
 refine wp_region_held_drew (S := fun w' => Ext w w') (by kernel_rfl) exE fun hHeld => ?_
 try simp only [List.append_eq, List.cons_append, List.nil_append]
 refine name_any (fun W0 hW => ?_)
 have s0 : Ext w W0 := by rw [hW]; exact hHeld
 clear hW hHeld
 refine tkB (i := 1) (v := ?_) rfl hpan ?yl ?_
 case yl => (intro w hSw; (try dsimp only at hSw);  go_simp); with_reducible rfl
 try simp only [sxA, sxB, sxC, Act.put, sxD, sxE, sxF]
 refine tkB (i := 3) (v := ?_) rfl hpan ?yl ?_
 case yl => (intro w hSw; have k_ := hRD_.out w hSw; go_simp); with_reducible rfl
 try simp only [sxA, sxB, sxC, Act.put, sxD, sxE, sxF]
 refine wpAnyH_ready (rs := [0, 4]) (by kernel_rfl) (by simp) ?_
 refine AllReadyH.cons (o := _) rfl (fun K hK => ?_) ?_
 ·skip
  go_simp
  refine hK.out _ _ (s0.trans (Ext.alloc (Ext.refl _) _)) (fun _ => ?_)
  clear hK K
  try simp only [sxA, sxB, sxC, Act.put, sxD, sxE, sxF]
  refine name_any (fun W1 hW => ?_)
  have e1 : Ext W0 W1 := by rw [hW]; exact Ext.alloc (Ext.refl _) _
  have s1 := s0.trans e1
  clear hW
  obtain ⟨bz, hb_⟩ : ∃ z, W0.heap.size = z := ⟨_, rfl⟩
  rw [hb_] at  ⊢
  clear hb_
  refine wpAnyH_ready (rs := [2, 4]) (by kernel_rfl) (by simp) ?_
  refine AllReadyH.cons (o := _) rfl (fun K hK => ?_) ?_
  ·skip
   rw [if_pos (by rfl)]
   refine appGF_wp _ _ _ rfl 68 5 40 Try.underlying22 elemMt (by decide) (fun i r => mtV (mtl l i) r) 0 _ rfl (fun i hi => absurd hi (by omega)) bm om n cap (fun i r => mtV (mtl l i) r) rfl (fun i hi r hr => s1.cell (hcl.out i hi r hr)) n0 (by omega) (by decide) (fun i r => mtV (mtl l i) r) (fun _ _ h _ => absurd h (by omega)) (fun i r hi _ => by rw [Nat.zero_add]) ?_
   intro cp2 W2 own e2
   have s2 := s1.trans e2
   rw [Nat.zero_add] at own
   have hwb := Ext.size s1
   obtain ⟨bo, hb_⟩ : ∃ z, W1.heap.size = z := ⟨_, rfl⟩
   rw [hb_] at own hwb ⊢
   clear hb_
   replace own := hid own
   refine hK.out _ _ s2 (fun _ => ?_)
   clear hK K
   try simp only [sxA, sxB, sxC, Act.put, sxD, sxE, sxF]
   try rw [Nat.zero_add]
   refine wpAnyH_ready (rs := [4]) (by kernel_rfl) (by simp) ?_
   refine AllReadyH.cons (o := _) rfl (fun K hK => ?_) AllReadyH.nil
   go_simp
   refine hK.out _ _ (s2.trans (Ext.alloc (Ext.refl _) _)) (fun _ => ?_)
   clear hK K
   try simp only [sxA, sxB, sxC, Act.put, sxD, sxE, sxF]
   refine name_any (fun W3 hW => ?_)
   have e3 : Ext W2 W3 := by rw [hW]; exact Ext.alloc (Ext.refl _) _
   have s3 := s2.trans e3
   have lit := hid (show C5 W3 W2.heap.size mp m1 m2 m3 m4 from ⟨by rw [hW]; simp [go_sem], by rw [hW]; simp [go_sem], by rw [hW]; simp [go_sem], by rw [hW]; simp [go_sem], by rw [hW]; simp [go_sem]⟩)
   clear hW
   obtain ⟨bl, hb_⟩ : ∃ z, W2.heap.size = z := ⟨_, rfl⟩
   rw [hb_] at lit ⊢
   clear hb_
   replace own := hid (OwnG.ext own.out e3)
   refine wpAnyH_ready (rs := [5]) (by kernel_rfl) (by simp) ?_
   refine AllReadyH.cons (o := _) rfl (fun K hK => ?_) AllReadyH.nil
   rw [if_pos (by rfl)]
   refine appG_wp _ _ _ rfl 68 5 40 Try.underlying22 elemMt (by decide) bo (fun i r => mtV (mtl l i) r) n _ rfl bl 0 1 1 (fun _ r => mtV ⟨mp, m1, m2, m3, m4⟩ r) rfl own.out (el5 (m := ⟨mp, m1, m2, m3, m4⟩) lit.out.1 lit.out.2.1 lit.out.2.2.1 lit.out.2.2.2.1 lit.out.2.2.2.2) (by decide) (fun _ _ _ _ => rfl) (by omega) (by decide) (by have := (OwnG.block own.out bo rfl).2; omega) (fun i r => mtV (if i < n then mtl l i else ⟨mp, m1, m2, m3, m4⟩) r) (fun i r hi _ => by rw [if_pos hi]) (fun i r hi _ => by rw [if_neg (by omega)]) ?_
   intro bx cx W4 ownx g8 at8 hbx ext8
   have s4 : Ext w W4 := ext8 w s3 hwb
   have mts := hid (ap_end hl ownx)
   clear ownx g8 at8 hbx ext8 own lit
   refine hK.out _ _ s4 (fun _ => ?_)
   clear hK K
   try simp only [sxA, sxB, sxC, Act.put, sxD, sxE, sxF]
   refine tkB (i := 6) (v := ?_) rfl hpan ?yl ?_
   case yl => (intro w hSw; (try dsimp only at hSw);  go_simp); with_reducible rfl
   try simp only [sxA, sxB, sxC, Act.put, sxD, sxE, sxF]
   refine wpAnyH_done (by kernel_rfl) ?_ _
   (try simp only [sxA, sxB, sxC, Act.put, sxD, sxE, sxF])
   rw [hQ2.out]
   exact ⟨rfl, _, _, _, _, _, _, _, _, rfl, s4, mts.out⟩
  refine AllReadyH.cons (o := _) rfl (fun K hK => ?_) ?_
  ·skip
   go_simp
   refine hK.out _ _ (s1.trans (Ext.alloc (Ext.refl _) _)) (fun _ => ?_)
   clear hK K
   try simp only [sxA, sxB, sxC, Act.put, sxD, sxE, sxF]
   refine name_any (fun W2 hW => ?_)
   have e2 : Ext W1 W2 := by rw [hW]; exact Ext.alloc (Ext.refl _) _
   have s2 := s1.trans e2
   have lit := hid (show C5 W2 W1.heap.size mp m1 m2 m3 m4 from ⟨by rw [hW]; simp [go_sem], by rw [hW]; simp [go_sem], by rw [hW]; simp [go_sem], by rw [hW]; simp [go_sem], by rw [hW]; simp [go_sem]⟩)
   clear hW
   obtain ⟨bl, hb_⟩ : ∃ z, W1.heap.size = z := ⟨_, rfl⟩
   rw [hb_] at lit ⊢
   clear hb_
   refine wpAnyH_ready (rs := [2]) (by kernel_rfl) (by simp) ?_
   refine AllReadyH.cons (o := _) rfl (fun K hK => ?_) AllReadyH.nil
   rw [if_pos (by rfl)]
   refine appGF_wp _ _ _ rfl 68 5 40 Try.underlying22 elemMt (by decide) (fun i r => mtV (mtl l i) r) 0 _ rfl (fun i hi => absurd hi (by omega)) bm om n cap (fun i r => mtV (mtl l i) r) rfl (fun i hi r hr => s2.cell (hcl.out i hi r hr)) n0 (by omega) (by decide) (fun i r => mtV (mtl l i) r) (fun _ _ h _ => absurd h (by omega)) (fun i r hi _ => by rw [Nat.zero_add]) ?_
   intro cp2 W3 own e3
   have s3 := s2.trans e3
   rw [Nat.zero_add] at own
   have hwb := Ext.size s2
   obtain ⟨bo, hb_⟩ : ∃ z, W2.heap.size = z := ⟨_, rfl⟩
   rw [hb_] at own hwb ⊢
   clear hb_
   replace own := hid own
   refine hK.out _ _ s3 (fun _ => ?_)
   clear hK K
   try simp only [sxA, sxB, sxC, Act.put, sxD, sxE, sxF]
   try rw [Nat.zero_add]
   replace lit := hid (lit.out.ext e3)
   refine wpAnyH_ready (rs := [5]) (by kernel_rfl) (by simp) ?_
   refine AllReadyH.cons (o := _) rfl (fun K hK => ?_) AllReadyH.nil
   rw [if_pos (by rfl)]
   refine appG_wp _ _ _ rfl 68 5 40 Try.underlying22 elemMt (by decide) bo (fun i r => mtV (mtl l i) r) n _ rfl bl 0 1 1 (fun _ r => mtV ⟨mp, m1, m2, m3, m4⟩ r) rfl own.out (el5 (m := ⟨mp, m1, m2, m3, m4⟩) lit.out.1 lit.out.2.1 lit.out.2.2.1 lit.out.2.2.2.1 lit.out.2.2.2.2) (by decide) (fun _ _ _ _ => rfl) (by omega) (by decide) (by have := (OwnG.block own.out bo rfl).2; omega) (fun i r => mtV (if i < n then mtl l i else ⟨mp, m1, m2, m3, m4⟩) r) (fun i r hi _ => by rw [if_pos hi]) (fun i r hi _ => by rw [if_neg (by omega)]) ?_
   intro bx cx W4 ownx g8 at8 hbx ext8
   have s4 : Ext w W4 := ext8 w s3 hwb
   have mts := hid (ap_end hl ownx)
   clear ownx g8 at8 hbx ext8 own lit
   refine hK.out _ _ s4 (fun _ => ?_)
   clear hK K
   try simp only [sxA, sxB, sxC, Act.put, sxD, sxE, sxF]
   refine tkB (i := 6) (v := ?_) rfl hpan ?yl ?_
   case yl => (intro w hSw; (try dsimp only at hSw);  go_simp); with_reducible rfl
   try simp only [sxA, sxB, sxC, Act.put, sxD, sxE, sxF]
   refine wpAnyH_done (by kernel_rfl) ?_ _
   (try simp only [sxA, sxB, sxC, Act.put, sxD, sxE, sxF])
   rw [hQ2.out]
   exact ⟨rfl, _, _, _, _, _, _, _, _, rfl, s4, mts.out⟩
  exact AllReadyH.nil
 refine AllReadyH.cons (o := _) rfl (fun K hK => ?_) ?_
 ·skip
  go_simp
  refine hK.out _ _ (s0.trans (Ext.alloc (Ext.refl _) _)) (fun _ => ?_)
  clear hK K
  try simp only [sxA, sxB, sxC, Act.put, sxD, sxE, sxF]
  refine name_any (fun W1 hW => ?_)
  have e1 : Ext W0 W1 := by rw [hW]; exact Ext.alloc (Ext.refl _) _
  have s1 := s0.trans e1
  have lit := hid (show C5 W1 W0.heap.size mp m1 m2 m3 m4 from ⟨by rw [hW]; simp [go_sem], by rw [hW]; simp [go_sem], by rw [hW]; simp [go_sem], by rw [hW]; simp [go_sem], by rw [hW]; simp [go_sem]⟩)
  clear hW
  obtain ⟨bl, hb_⟩ : ∃ z, W0.heap.size = z := ⟨_, rfl⟩
  rw [hb_] at lit ⊢
  clear hb_
  refine wpAnyH_ready (rs := [0]) (by kernel_rfl) (by simp) ?_
  refine AllReadyH.cons (o := _) rfl (fun K hK => ?_) AllReadyH.nil
  go_simp
  refine hK.out _ _ (s1.trans (Ext.alloc (Ext.refl _) _)) (fun _ => ?_)
  clear hK K
  try simp only [sxA, sxB, sxC, Act.put, sxD, sxE, sxF]
  refine name_any (fun W2 hW => ?_)
  have e2 : Ext W1 W2 := by rw [hW]; exact Ext.alloc (Ext.refl _) _
  have s2 := s1.trans e2
  clear hW
  obtain ⟨bz, hb_⟩ : ∃ z, W1.heap.size = z := ⟨_, rfl⟩
  rw [hb_] at  ⊢
  clear hb_
  replace lit := hid (lit.out.ext e2)
  refine wpAnyH_ready (rs := [2]) (by kernel_rfl) (by simp) ?_
  refine AllReadyH.cons (o := _) rfl (fun K hK => ?_) AllReadyH.nil
  rw [if_pos (by rfl)]
  refine appGF_wp _ _ _ rfl 68 5 40 Try.underlying22 elemMt (by decide) (fun i r => mtV (mtl l i) r) 0 _ rfl (fun i hi => absurd hi (by omega)) bm om n cap (fun i r => mtV (mtl l i) r) rfl (fun i hi r hr => s2.cell (hcl.out i hi r hr)) n0 (by omega) (by decide) (fun i r => mtV (mtl l i) r) (fun _ _ h _ => absurd h (by omega)) (fun i r hi _ => by rw [Nat.zero_add]) ?_
  intro cp2 W3 own e3
  have s3 := s2.trans e3
  rw [Nat.zero_add] at own
  have hwb := Ext.size s2
  obtain ⟨bo, hb_⟩ : ∃ z, W2.heap.size = z := ⟨_, rfl⟩
  rw [hb_] at own hwb ⊢
  clear hb_
  replace own := hid own
  refine hK.out _ _ s3 (fun _ => ?_)
  clear hK K
  try simp only [sxA, sxB, sxC, Act.put, sxD, sxE, sxF]
  try rw [Nat.zero_add]
  replace lit := hid (lit.out.ext e3)
  refine wpAnyH_ready (rs := [5]) (by kernel_rfl) (by simp) ?_
  refine AllReadyH.cons (o := _) rfl (fun K hK => ?_) AllReadyH.nil
  rw [if_pos (by rfl)]
  refine appG_wp _ _ _ rfl 68 5 40 Try.underlying22 elemMt (by decide) bo (fun i r => mtV (mtl l i) r) n _ rfl bl 0 1 1 (fun _ r => mtV ⟨mp, m1, m2, m3, m4⟩ r) rfl own.out (el5 (m := ⟨mp, m1, m2, m3, m4⟩) lit.out.1 lit.out.2.1 lit.out.2.2.1 lit.out.2.2.2.1 lit.out.2.2.2.2) (by decide) (fun _ _ _ _ => rfl) (by omega) (by decide) (by have := (OwnG.block own.out bo rfl).2; omega) (fun i r => mtV (if i < n then mtl l i else ⟨mp, m1, m2, m3, m4⟩) r) (fun i r hi _ => by rw [if_pos hi]) (fun i r hi _ => by rw [if_neg (by omega)]) ?_
  intro bx cx W4 ownx g8 at8 hbx ext8
  have s4 : Ext w W4 := ext8 w s3 hwb
  have mts := hid (ap_end hl ownx)
  clear ownx g8 at8 hbx ext8 own lit
  refine hK.out _ _ s4 (fun _ => ?_)
  clear hK K
  try simp only [sxA, sxB, sxC, Act.put, sxD, sxE, sxF]
  refine tkB (i := 6) (v := ?_) rfl hpan ?yl ?_
  case yl => (intro w hSw; (try dsimp only at hSw);  go_simp); with_reducible rfl
  try simp only [sxA, sxB, sxC, Act.put, sxD, sxE, sxF]
  refine wpAnyH_done (by kernel_rfl) ?_ _
  (try simp only [sxA, sxB, sxC, Act.put, sxD, sxE, sxF])
  rw [hQ2.out]
  exact ⟨rfl, _, _, _, _, _, _, _, _, rfl, s4, mts.out⟩
 exact AllReadyH.nil
set_option maxHeartbeats 40000000 in
theorem stZ9 {yA yB yC yD yE yF yG yH yI yJ yK yL yM yN yO yP yQ yT yU yY yZ zA zB zC zD zE zF zG zH zI zJ zK zL zM zN zO zP zQ zR zS zT zU zV zW zX zY zZ uA uB uC uD uE uF uG uH uI uJ uK uL uM uN uO uP uQ uR uS uT uU uV uW uX uY uZ iA iB iC iD iE iF iG iH iI iJ iK iL iM iN iO iP iQ iR iS iT iU iV iW iX iY iZ oA oB oC oD oE oF oG oH oI oJ oK oL oM oN oO oP oQ oR oS oT oU oV oW oX oY oZ qA qB qC qD qE qF qG qH qI qJ qK qL qM qN qO qP qQ qR qS qT qU qV : Value} {B1 B2 : Nat} {N1 D1 N2 D2 : Int} {b1 b2 : Bool} {w : World} (hc : (b1 = true ∧ b2 = true ∧ (∀ W, Calls Try.prog 46 #[.agg #[.int .i64 N1, .int .i64 D1], .agg #[.int .i64 N2, .int .i64 D2]] W fun e w' => e = .returned (.bool false) ∧ Ext W w')) ∨ b1 = false) (c10 : w.cell? ⟨B1, 0, none⟩ = some (.int .i64 N1)) (c11 : w.cell? ⟨B1, 1, none⟩ = some (.int .i64 D1)) (c20 : w.cell? ⟨B2, 0, none⟩ = some (.int .i64 N2)) (c21 : w.cell? ⟨B2, 1, none⟩ = some (.int .i64 D2)) :
 Code.wp Try.prog (rgn Try.f15 9) (fun e a' w' => e = .normal ∧ ∃ (uM' uN' uO' uP' uQ' uR' uS' uT' uU' uV' uW' uX' uY' : Value), a' = { tmps := #[yA,yB,yC,yD,yE,yF,yG,yH,yI,yJ,yK,yL,yM,yN,yO,yP,yQ,.pointer (some ⟨B1, 0, none⟩),.bool b1,yT,yU,.pointer (some ⟨B2, 0, none⟩),.bool b2,.bool true,yY,yZ,zA,zB,zC,zD,zE,zF,zG,zH,zI,zJ,zK,zL,zM,zN,zO,zP,zQ,zR,zS,zT,zU,zV,zW,zX,zY,zZ,uA,uB,uC,uD,uE,uF,uG,uH,uI,uJ,uK,uL,uM',uN',uO',uP',uQ',uR',uS',uT',uU',uV',uW',uX',uY',.bool false,iA,iB,iC,iD,iE,iF,iG,iH,iI,iJ,iK,iL,iM,iN,iO,iP,iQ,iR,iS,iT,iU,iV,iW,iX,iY,iZ,oA,oB,oC,oD,oE,oF,oG,oH,oI,oJ,oK,oL,oM,oN,oO,oP,oQ,oR,oS,oT,oU,oV,oW,oX,oY,oZ,qA,qB,qC,qD,qE,qF,qG,qH,qI,qJ,qK,qL,qM,qN,qO,qP,qQ,qR,qS,qT,qU,qV], defers := [] } ∧ Ext w w') { tmps := #[yA,yB,yC,yD,yE,yF,yG,yH,yI,yJ,yK,yL,yM,yN,yO,yP,yQ,.pointer (some ⟨B1, 0, none⟩),.bool b1,yT,yU,.pointer (some ⟨B2, 0, none⟩),.bool b2,.bool true,yY,yZ,zA,zB,zC,zD,zE,zF,zG,zH,zI,zJ,zK,zL,zM,zN,zO,zP,zQ,zR,zS,zT,zU,zV,zW,zX,zY,zZ,uA,uB,uC,uD,uE,uF,uG,uH,uI,uJ,uK,uL,uM,uN,uO,uP,uQ,uR,uS,uT,uU,uV,uW,uX,uY,uZ,iA,iB,iC,iD,iE,iF,iG,iH,iI,iJ,iK,iL,iM,iN,iO,iP,iQ,iR,iS,iT,iU,iV,iW,iX,iY,iZ,oA,oB,oC,oD,oE,oF,oG,oH,oI,oJ,oK,oL,oM,oN,oO,oP,oQ,oR,oS,oT,oU,oV,oW,oX,oY,oZ,qA,qB,qC,qD,qE,qF,qG,qH,qI,qJ,qK,qL,qM,qN,qO,qP,qQ,qR,qS,qT,qU,qV], defers := [] } w := by
 conv => arg 2; whnf
 refine st_intro (fun Q2 hQ2 => ?_)
 replace hQ2 := hid hQ2
 have lB1 := cell_lt c10; have lB2 := cell_lt c20
 dsimp only at lB1 lB2
 rcases hc with ⟨rfl, rfl, h⟩ | rfl
 ·skip
  replace h := hid h
  go_wp2_with fail
  refine (h.out _).mono ?_; rintro e u1 ⟨rfl, hE⟩
  have x : Ext w u1 := exE
  clear hE
  go_wp2_with fail
  rw [hQ2.out]
  exact ⟨rfl, _, _, _, _, _, _, _, _, _, _, _, _, _, rfl, exE⟩
 ·skip
  go_wp2_with fail
  rw [hQ2.out]
  exact ⟨rfl, _, _, _, _, _, _, _, _, _, _, _, _, _, rfl, exE⟩
set_option maxHeartbeats 40000000 in
theorem stZ12 {yA yB yC yD yE yG yH yI yJ yK yL yM yN yO yP yQ yR yS yT yU yV yW yX yZ zA zB zC zD zE zF zG zH zI zJ zK zL zM zN zO zP zQ zR zS zT zU zV zW zX zY zZ uA uB uC uD uE uF uG uH uI uJ uK uL uM uN uO uP uQ uR uS uT uU uV uW uX uY uZ iA iB iC iD iE iF iG iH iI iJ iK iL iM iN iO iP iQ iR iS iT iU iV iW iX iY iZ oA oB oC oD oE oF oG oH oI oJ oK oL oM oN oO oP oQ oR oS oT oU oV oW oX oY oZ qA qB qC qD qE qF qG qH qI qJ qK qL qM qN qO qP qQ qR qS qT qU qV : Value} {B : Nat} {p ll lh cl ch : Int} {k r A : Int} {w0 w : World} (k0 : Ext w0 w) (kb : w0.heap.size ≤ B) (c0 : w.cell? ⟨B, 0, none⟩ = some (.int .i64 p)) (c1 : w.cell? ⟨B, 1, none⟩ = some (.int .i64 ll)) (c2 : w.cell? ⟨B, 2, none⟩ = some (.int .i64 lh)) (c3 : w.cell? ⟨B, 3, none⟩ = some (.int .i64 cl)) (c4 : w.cell? ⟨B, 4, none⟩ = some (.int .i64 ch)) (f0 : w.frozen? ⟨B, 0, none⟩ = false) (f1 : w.frozen? ⟨B, 1, none⟩ = false) (f2 : w.frozen? ⟨B, 2, none⟩ = false) (f3 : w.frozen? ⟨B, 3, none⟩ = false) (f4 : w.frozen? ⟨B, 4, none⟩ = false) (rk : 0 ≤ k ∧ k ≤ 65535) (rp : 0 ≤ p ∧ p ≤ 1000) (hA : p + k = A) (h1 : (1000 < A ∧ r = 1000) ∨ (A < 1000 ∧ r = A) ∨ (A = 1000 ∧ r = 1000)) :
 Code.wp Try.prog (rgn Try.f15 12) (fun e a' w' => e = .normal ∧ ∃ (iI' iJ' iK' iL' iM' iN' iO' : Value), a' = { tmps := #[yA,yB,yC,yD,yE,.int .u16 k,yG,yH,yI,yJ,yK,yL,yM,yN,yO,yP,yQ,yR,yS,yT,yU,yV,yW,yX,.pointer (some ⟨B, 0, none⟩),yZ,zA,zB,zC,zD,zE,zF,zG,zH,zI,zJ,zK,zL,zM,zN,zO,zP,zQ,zR,zS,zT,zU,zV,zW,zX,zY,zZ,uA,uB,uC,uD,uE,uF,uG,uH,uI,uJ,uK,uL,uM,uN,uO,uP,uQ,uR,uS,uT,uU,uV,uW,uX,uY,uZ,iA,iB,iC,iD,iE,iF,iG,iH,iI',iJ',iK',iL',iM',iN',iO',iP,iQ,iR,iS,iT,iU,iV,iW,iX,iY,iZ,oA,oB,oC,oD,oE,oF,oG,oH,oI,oJ,oK,oL,oM,oN,oO,oP,oQ,oR,oS,oT,oU,oV,oW,oX,oY,oZ,qA,qB,qC,qD,qE,qF,qG,qH,qI,qJ,qK,qL,qM,qN,qO,qP,qQ,qR,qS,qT,qU,qV], defers := [] } ∧ Ext w0 w' ∧ C5 w' B r ll lh cl ch ∧ ∀ r, r < 5 → w'.frozen? ⟨B, r, none⟩ = false) { tmps := #[yA,yB,yC,yD,yE,.int .u16 k,yG,yH,yI,yJ,yK,yL,yM,yN,yO,yP,yQ,yR,yS,yT,yU,yV,yW,yX,.pointer (some ⟨B, 0, none⟩),yZ,zA,zB,zC,zD,zE,zF,zG,zH,zI,zJ,zK,zL,zM,zN,zO,zP,zQ,zR,zS,zT,zU,zV,zW,zX,zY,zZ,uA,uB,uC,uD,uE,uF,uG,uH,uI,uJ,uK,uL,uM,uN,uO,uP,uQ,uR,uS,uT,uU,uV,uW,uX,uY,uZ,iA,iB,iC,iD,iE,iF,iG,iH,iI,iJ,iK,iL,iM,iN,iO,iP,iQ,iR,iS,iT,iU,iV,iW,iX,iY,iZ,oA,oB,oC,oD,oE,oF,oG,oH,oI,oJ,oK,oL,oM,oN,oO,oP,oQ,oR,oS,oT,oU,oV,oW,oX,oY,oZ,qA,qB,qC,qD,qE,qF,qG,qH,qI,qJ,qK,qL,qM,qN,qO,qP,qQ,qR,qS,qT,qU,qV], defers := [] } w := by
 conv => arg 2; whnf
 refine st_intro (fun Q2 hQ2 => ?_)
 replace hQ2 := hid hQ2
 have lB := cell_lt c0
 dsimp only at lB
 obtain ⟨rk0, rk1⟩ := rk; obtain ⟨rp0, rp1⟩ := rp
 have w1 := Go.IntWalk.i64_in k (by omega); have w2 : IntKind.i64.wrap (p + k) = A := by rw [hA]; exact Go.IntWalk.i64_in A (by omega)
 rcases h1 with ⟨g, e1⟩ | ⟨g, e1⟩ | ⟨g, e1⟩ <;> subst e1
 ·have g1 : ¬ A < 1000 := by omega
  go_wp2_with fail
  rw [hQ2.out]
  refine ⟨rfl, _, _, _, _, _, _, _, rfl, exE, ⟨by simp [go_sem, *], by simp [go_sem, *], by simp [go_sem, *], by simp [go_sem, *], by simp [go_sem, *]⟩, fun r hr => ?_⟩
  have hr5 : r = 0 ∨ r = 1 ∨ r = 2 ∨ r = 3 ∨ r = 4 := by omega
  rcases hr5 with rfl | rfl | rfl | rfl | rfl <;> simp [go_sem, World.frozen?_setCell, *]
 ·have g1 : ¬ 1000 < r := by omega
  go_wp2_with fail
  rw [hQ2.out]
  refine ⟨rfl, _, _, _, _, _, _, _, rfl, exE, ⟨by simp [go_sem, *], by simp [go_sem, *], by simp [go_sem, *], by simp [go_sem, *], by simp [go_sem, *]⟩, fun r hr => ?_⟩
  have hr5 : r = 0 ∨ r = 1 ∨ r = 2 ∨ r = 3 ∨ r = 4 := by omega
  rcases hr5 with rfl | rfl | rfl | rfl | rfl <;> simp [go_sem, World.frozen?_setCell, *]
 ·subst g
  go_wp2_with fail
  rw [hQ2.out]
  refine ⟨rfl, _, _, _, _, _, _, _, rfl, exE, ⟨by simp [go_sem, *], by simp [go_sem, *], by simp [go_sem, *], by simp [go_sem, *], by simp [go_sem, *]⟩, fun r hr => ?_⟩
  have hr5 : r = 0 ∨ r = 1 ∨ r = 2 ∨ r = 3 ∨ r = 4 := by omega
  rcases hr5 with rfl | rfl | rfl | rfl | rfl <;> simp [go_sem, World.frozen?_setCell, *]
set_option maxHeartbeats 40000000 in
theorem stZ13 {yA yB yC yD yE yF yH yI yJ yK yL yM yN yO yP yQ yR yS yT yU yV yW yX yZ zA zB zC zD zE zF zG zH zI zJ zK zL zM zN zO zP zQ zR zS zT zU zV zW zX zY zZ uA uB uC uD uE uF uG uH uI uJ uK uL uM uN uO uP uQ uR uS uT uU uV uW uX uY uZ iA iB iC iD iE iF iG iH iI iJ iK iL iM iN iO iP iQ iR iS iT iU iV iW iX iY iZ oA oB oC oD oE oF oG oH oI oJ oK oL oM oN oO oP oQ oR oS oT oU oV oW oX oY oZ qA qB qC qD qE qF qG qH qI qJ qK qL qM qN qO qP qQ qR qS qT qU qV : Value} {B : Nat} {p ll lh cl ch : Int} {k r r2 A A2 : Int} {w0 w : World} (k0 : Ext w0 w) (kb : w0.heap.size ≤ B) (c0 : w.cell? ⟨B, 0, none⟩ = some (.int .i64 p)) (c1 : w.cell? ⟨B, 1, none⟩ = some (.int .i64 ll)) (c2 : w.cell? ⟨B, 2, none⟩ = some (.int .i64 lh)) (c3 : w.cell? ⟨B, 3, none⟩ = some (.int .i64 cl)) (c4 : w.cell? ⟨B, 4, none⟩ = some (.int .i64 ch)) (f0 : w.frozen? ⟨B, 0, none⟩ = false) (f1 : w.frozen? ⟨B, 1, none⟩ = false) (f2 : w.frozen? ⟨B, 2, none⟩ = false) (f3 : w.frozen? ⟨B, 3, none⟩ = false) (f4 : w.frozen? ⟨B, 4, none⟩ = false) (rk : 0 ≤ k ∧ k ≤ 65535) (rp : 0 ≤ ll ∧ ll ≤ 1000) (rq : 0 ≤ lh ∧ lh ≤ 1000) (hA : ll + k = A) (hA2 : lh + k = A2) (h1 : (1000 < A ∧ r = 1000) ∨ (A < 1000 ∧ r = A) ∨ (A = 1000 ∧ r = 1000)) (h2 : (1000 < A2 ∧ r2 = 1000) ∨ (A2 < 1000 ∧ r2 = A2) ∨ (A2 = 1000 ∧ r2 = 1000)) :
 Code.wp Try.prog (rgn Try.f15 13) (fun e a' w' => e = .normal ∧ ∃ (iP' iQ' iR' iS' iT' iU' iV' iW' iX' iY' iZ' oA' oB' oC' oD' oE' : Value), a' = { tmps := #[yA,yB,yC,yD,yE,yF,.int .u16 k,yH,yI,yJ,yK,yL,yM,yN,yO,yP,yQ,yR,yS,yT,yU,yV,yW,yX,.pointer (some ⟨B, 0, none⟩),yZ,zA,zB,zC,zD,zE,zF,zG,zH,zI,zJ,zK,zL,zM,zN,zO,zP,zQ,zR,zS,zT,zU,zV,zW,zX,zY,zZ,uA,uB,uC,uD,uE,uF,uG,uH,uI,uJ,uK,uL,uM,uN,uO,uP,uQ,uR,uS,uT,uU,uV,uW,uX,uY,uZ,iA,iB,iC,iD,iE,iF,iG,iH,iI,iJ,iK,iL,iM,iN,iO,iP',iQ',iR',iS',iT',iU',iV',iW',iX',iY',iZ',oA',oB',oC',oD',oE',oF,oG,oH,oI,oJ,oK,oL,oM,oN,oO,oP,oQ,oR,oS,oT,oU,oV,oW,oX,oY,oZ,qA,qB,qC,qD,qE,qF,qG,qH,qI,qJ,qK,qL,qM,qN,qO,qP,qQ,qR,qS,qT,qU,qV], defers := [] } ∧ Ext w0 w' ∧ C5 w' B p r r2 cl ch ∧ ∀ r, r < 5 → w'.frozen? ⟨B, r, none⟩ = false) { tmps := #[yA,yB,yC,yD,yE,yF,.int .u16 k,yH,yI,yJ,yK,yL,yM,yN,yO,yP,yQ,yR,yS,yT,yU,yV,yW,yX,.pointer (some ⟨B, 0, none⟩),yZ,zA,zB,zC,zD,zE,zF,zG,zH,zI,zJ,zK,zL,zM,zN,zO,zP,zQ,zR,zS,zT,zU,zV,zW,zX,zY,zZ,uA,uB,uC,uD,uE,uF,uG,uH,uI,uJ,uK,uL,uM,uN,uO,uP,uQ,uR,uS,uT,uU,uV,uW,uX,uY,uZ,iA,iB,iC,iD,iE,iF,iG,iH,iI,iJ,iK,iL,iM,iN,iO,iP,iQ,iR,iS,iT,iU,iV,iW,iX,iY,iZ,oA,oB,oC,oD,oE,oF,oG,oH,oI,oJ,oK,oL,oM,oN,oO,oP,oQ,oR,oS,oT,oU,oV,oW,oX,oY,oZ,qA,qB,qC,qD,qE,qF,qG,qH,qI,qJ,qK,qL,qM,qN,qO,qP,qQ,qR,qS,qT,qU,qV], defers := [] } w := by
 conv => arg 2; whnf
 refine st_intro (fun Q2 hQ2 => ?_)
 replace hQ2 := hid hQ2
 have lB := cell_lt c0
 dsimp only at lB
 obtain ⟨rk0, rk1⟩ := rk; obtain ⟨rp0, rp1⟩ := rp; obtain ⟨rq0, rq1⟩ := rq
 have w1 := Go.IntWalk.i64_in k (by omega); have w2 : IntKind.i64.wrap (ll + k) = A := by rw [hA]; exact Go.IntWalk.i64_in A (by omega)
 have w3 : IntKind.i64.wrap (lh + k) = A2 := by rw [hA2]; exact Go.IntWalk.i64_in A2 (by omega)
 rcases h1 with ⟨g, e1⟩ | ⟨g, e1⟩ | ⟨g, e1⟩ <;> rcases h2 with ⟨g2, e2⟩ | ⟨g2, e2⟩ | ⟨g2, e2⟩ <;> subst e1 e2
 ·have g1 : ¬ A < 1000 := by omega
  have g3 : ¬ A2 < 1000 := by omega
  go_wp2_with fail
  rw [hQ2.out]
  refine ⟨rfl, _, _, _, _, _, _, _, _, _, _, _, _, _, _, _, _, rfl, exE, ⟨by simp [go_sem, *], by simp [go_sem, *], by simp [go_sem, *], by simp [go_sem, *], by simp [go_sem, *]⟩, fun r hr => ?_⟩
  have hr5 : r = 0 ∨ r = 1 ∨ r = 2 ∨ r = 3 ∨ r = 4 := by omega
  rcases hr5 with rfl | rfl | rfl | rfl | rfl <;> simp [go_sem, World.frozen?_setCell, *]
 ·have g1 : ¬ A < 1000 := by omega
  have g3 : ¬ 1000 < r2 := by omega
  go_wp2_with fail
  rw [hQ2.out]
  refine ⟨rfl, _, _, _, _, _, _, _, _, _, _, _, _, _, _, _, _, rfl, exE, ⟨by simp [go_sem, *], by simp [go_sem, *], by simp [go_sem, *], by simp [go_sem, *], by simp [go_sem, *]⟩, fun r hr => ?_⟩
  have hr5 : r = 0 ∨ r = 1 ∨ r = 2 ∨ r = 3 ∨ r = 4 := by omega
  rcases hr5 with rfl | rfl | rfl | rfl | rfl <;> simp [go_sem, World.frozen?_setCell, *]
 ·have g1 : ¬ A < 1000 := by omega
  subst g2
  go_wp2_with fail
  rw [hQ2.out]
  refine ⟨rfl, _, _, _, _, _, _, _, _, _, _, _, _, _, _, _, _, rfl, exE, ⟨by simp [go_sem, *], by simp [go_sem, *], by simp [go_sem, *], by simp [go_sem, *], by simp [go_sem, *]⟩, fun r hr => ?_⟩
  have hr5 : r = 0 ∨ r = 1 ∨ r = 2 ∨ r = 3 ∨ r = 4 := by omega
  rcases hr5 with rfl | rfl | rfl | rfl | rfl <;> simp [go_sem, World.frozen?_setCell, *]
 ·have g1 : ¬ 1000 < r := by omega
  have g3 : ¬ A2 < 1000 := by omega
  go_wp2_with fail
  rw [hQ2.out]
  refine ⟨rfl, _, _, _, _, _, _, _, _, _, _, _, _, _, _, _, _, rfl, exE, ⟨by simp [go_sem, *], by simp [go_sem, *], by simp [go_sem, *], by simp [go_sem, *], by simp [go_sem, *]⟩, fun r hr => ?_⟩
  have hr5 : r = 0 ∨ r = 1 ∨ r = 2 ∨ r = 3 ∨ r = 4 := by omega
  rcases hr5 with rfl | rfl | rfl | rfl | rfl <;> simp [go_sem, World.frozen?_setCell, *]
 ·have g1 : ¬ 1000 < r := by omega
  have g3 : ¬ 1000 < r2 := by omega
  go_wp2_with fail
  rw [hQ2.out]
  refine ⟨rfl, _, _, _, _, _, _, _, _, _, _, _, _, _, _, _, _, rfl, exE, ⟨by simp [go_sem, *], by simp [go_sem, *], by simp [go_sem, *], by simp [go_sem, *], by simp [go_sem, *]⟩, fun r hr => ?_⟩
  have hr5 : r = 0 ∨ r = 1 ∨ r = 2 ∨ r = 3 ∨ r = 4 := by omega
  rcases hr5 with rfl | rfl | rfl | rfl | rfl <;> simp [go_sem, World.frozen?_setCell, *]
 ·have g1 : ¬ 1000 < r := by omega
  subst g2
  go_wp2_with fail
  rw [hQ2.out]
  refine ⟨rfl, _, _, _, _, _, _, _, _, _, _, _, _, _, _, _, _, rfl, exE, ⟨by simp [go_sem, *], by simp [go_sem, *], by simp [go_sem, *], by simp [go_sem, *], by simp [go_sem, *]⟩, fun r hr => ?_⟩
  have hr5 : r = 0 ∨ r = 1 ∨ r = 2 ∨ r = 3 ∨ r = 4 := by omega
  rcases hr5 with rfl | rfl | rfl | rfl | rfl <;> simp [go_sem, World.frozen?_setCell, *]
 ·subst g
  have g3 : ¬ A2 < 1000 := by omega
  go_wp2_with fail
  rw [hQ2.out]
  refine ⟨rfl, _, _, _, _, _, _, _, _, _, _, _, _, _, _, _, _, rfl, exE, ⟨by simp [go_sem, *], by simp [go_sem, *], by simp [go_sem, *], by simp [go_sem, *], by simp [go_sem, *]⟩, fun r hr => ?_⟩
  have hr5 : r = 0 ∨ r = 1 ∨ r = 2 ∨ r = 3 ∨ r = 4 := by omega
  rcases hr5 with rfl | rfl | rfl | rfl | rfl <;> simp [go_sem, World.frozen?_setCell, *]
 ·subst g
  have g3 : ¬ 1000 < r2 := by omega
  go_wp2_with fail
  rw [hQ2.out]
  refine ⟨rfl, _, _, _, _, _, _, _, _, _, _, _, _, _, _, _, _, rfl, exE, ⟨by simp [go_sem, *], by simp [go_sem, *], by simp [go_sem, *], by simp [go_sem, *], by simp [go_sem, *]⟩, fun r hr => ?_⟩
  have hr5 : r = 0 ∨ r = 1 ∨ r = 2 ∨ r = 3 ∨ r = 4 := by omega
  rcases hr5 with rfl | rfl | rfl | rfl | rfl <;> simp [go_sem, World.frozen?_setCell, *]
 ·subst g
  subst g2
  go_wp2_with fail
  rw [hQ2.out]
  refine ⟨rfl, _, _, _, _, _, _, _, _, _, _, _, _, _, _, _, _, rfl, exE, ⟨by simp [go_sem, *], by simp [go_sem, *], by simp [go_sem, *], by simp [go_sem, *], by simp [go_sem, *]⟩, fun r hr => ?_⟩
  have hr5 : r = 0 ∨ r = 1 ∨ r = 2 ∨ r = 3 ∨ r = 4 := by omega
  rcases hr5 with rfl | rfl | rfl | rfl | rfl <;> simp [go_sem, World.frozen?_setCell, *]
set_option maxHeartbeats 40000000 in
theorem stZ14 {yA yB yC yD yE yF yG yI yJ yK yL yM yN yO yP yQ yR yS yT yU yV yW yX yZ zA zB zC zD zE zF zG zH zI zJ zK zL zM zN zO zP zQ zR zS zT zU zV zW zX zY zZ uA uB uC uD uE uF uG uH uI uJ uK uL uM uN uO uP uQ uR uS uT uU uV uW uX uY uZ iA iB iC iD iE iF iG iH iI iJ iK iL iM iN iO iP iQ iR iS iT iU iV iW iX iY iZ oA oB oC oD oE oF oG oH oI oJ oK oL oM oN oO oP oQ oR oS oT oU oV oW oX oY oZ qA qB qC qD qE qF qG qH qI qJ qK qL qM qN qO qP qQ qR qS qT qU qV : Value} {B : Nat} {p ll lh cl ch : Int} {k r r2 A A2 : Int} {w0 w : World} (k0 : Ext w0 w) (kb : w0.heap.size ≤ B) (c0 : w.cell? ⟨B, 0, none⟩ = some (.int .i64 p)) (c1 : w.cell? ⟨B, 1, none⟩ = some (.int .i64 ll)) (c2 : w.cell? ⟨B, 2, none⟩ = some (.int .i64 lh)) (c3 : w.cell? ⟨B, 3, none⟩ = some (.int .i64 cl)) (c4 : w.cell? ⟨B, 4, none⟩ = some (.int .i64 ch)) (f0 : w.frozen? ⟨B, 0, none⟩ = false) (f1 : w.frozen? ⟨B, 1, none⟩ = false) (f2 : w.frozen? ⟨B, 2, none⟩ = false) (f3 : w.frozen? ⟨B, 3, none⟩ = false) (f4 : w.frozen? ⟨B, 4, none⟩ = false) (rk : 0 ≤ k ∧ k ≤ 65535) (rp : 0 ≤ cl ∧ cl ≤ 1000) (rq : 0 ≤ ch ∧ ch ≤ 1000) (hA : cl - k = A) (hA2 : ch - k = A2) (h1 : (A < 0 ∧ r = 0) ∨ (0 < A ∧ r = A) ∨ (A = 0 ∧ r = 0)) (h2 : (A2 < 0 ∧ r2 = 0) ∨ (0 < A2 ∧ r2 = A2) ∨ (A2 = 0 ∧ r2 = 0)) :
 Code.wp Try.prog (rgn Try.f15 14) (fun e a' w' => e = .normal ∧ ∃ (oF' oG' oH' oI' oJ' oK' oL' oM' oN' oO' oP' oQ' oR' oS' oT' oU' : Value), a' = { tmps := #[yA,yB,yC,yD,yE,yF,yG,.int .u16 k,yI,yJ,yK,yL,yM,yN,yO,yP,yQ,yR,yS,yT,yU,yV,yW,yX,.pointer (some ⟨B, 0, none⟩),yZ,zA,zB,zC,zD,zE,zF,zG,zH,zI,zJ,zK,zL,zM,zN,zO,zP,zQ,zR,zS,zT,zU,zV,zW,zX,zY,zZ,uA,uB,uC,uD,uE,uF,uG,uH,uI,uJ,uK,uL,uM,uN,uO,uP,uQ,uR,uS,uT,uU,uV,uW,uX,uY,uZ,iA,iB,iC,iD,iE,iF,iG,iH,iI,iJ,iK,iL,iM,iN,iO,iP,iQ,iR,iS,iT,iU,iV,iW,iX,iY,iZ,oA,oB,oC,oD,oE,oF',oG',oH',oI',oJ',oK',oL',oM',oN',oO',oP',oQ',oR',oS',oT',oU',oV,oW,oX,oY,oZ,qA,qB,qC,qD,qE,qF,qG,qH,qI,qJ,qK,qL,qM,qN,qO,qP,qQ,qR,qS,qT,qU,qV], defers := [] } ∧ Ext w0 w' ∧ C5 w' B p ll lh r r2 ∧ ∀ r, r < 5 → w'.frozen? ⟨B, r, none⟩ = false) { tmps := #[yA,yB,yC,yD,yE,yF,yG,.int .u16 k,yI,yJ,yK,yL,yM,yN,yO,yP,yQ,yR,yS,yT,yU,yV,yW,yX,.pointer (some ⟨B, 0, none⟩),yZ,zA,zB,zC,zD,zE,zF,zG,zH,zI,zJ,zK,zL,zM,zN,zO,zP,zQ,zR,zS,zT,zU,zV,zW,zX,zY,zZ,uA,uB,uC,uD,uE,uF,uG,uH,uI,uJ,uK,uL,uM,uN,uO,uP,uQ,uR,uS,uT,uU,uV,uW,uX,uY,uZ,iA,iB,iC,iD,iE,iF,iG,iH,iI,iJ,iK,iL,iM,iN,iO,iP,iQ,iR,iS,iT,iU,iV,iW,iX,iY,iZ,oA,oB,oC,oD,oE,oF,oG,oH,oI,oJ,oK,oL,oM,oN,oO,oP,oQ,oR,oS,oT,oU,oV,oW,oX,oY,oZ,qA,qB,qC,qD,qE,qF,qG,qH,qI,qJ,qK,qL,qM,qN,qO,qP,qQ,qR,qS,qT,qU,qV], defers := [] } w := by
 conv => arg 2; whnf
 refine st_intro (fun Q2 hQ2 => ?_)
 replace hQ2 := hid hQ2
 have lB := cell_lt c0
 dsimp only at lB
 obtain ⟨rk0, rk1⟩ := rk; obtain ⟨rp0, rp1⟩ := rp; obtain ⟨rq0, rq1⟩ := rq
 have w1 := Go.IntWalk.i64_in k (by omega); have w2 : IntKind.i64.wrap (cl - k) = A := by rw [hA]; exact Go.IntWalk.i64_in A (by omega)
 have w3 : IntKind.i64.wrap (ch - k) = A2 := by rw [hA2]; exact Go.IntWalk.i64_in A2 (by omega)
 rcases h1 with ⟨g, e1⟩ | ⟨g, e1⟩ | ⟨g, e1⟩ <;> rcases h2 with ⟨g2, e2⟩ | ⟨g2, e2⟩ | ⟨g2, e2⟩ <;> subst e1 e2
 ·have g1 : ¬ 0 < A := by omega
  have g3 : ¬ 0 < A2 := by omega
  go_wp2_with fail
  rw [hQ2.out]
  refine ⟨rfl, _, _, _, _, _, _, _, _, _, _, _, _, _, _, _, _, rfl, exE, ⟨by simp [go_sem, *], by simp [go_sem, *], by simp [go_sem, *], by simp [go_sem, *], by simp [go_sem, *]⟩, fun r hr => ?_⟩
  have hr5 : r = 0 ∨ r = 1 ∨ r = 2 ∨ r = 3 ∨ r = 4 := by omega
  rcases hr5 with rfl | rfl | rfl | rfl | rfl <;> simp [go_sem, World.frozen?_setCell, *]
 ·have g1 : ¬ 0 < A := by omega
  have g3 : ¬ r2 < 0 := by omega
  go_wp2_with fail
  rw [hQ2.out]
  refine ⟨rfl, _, _, _, _, _, _, _, _, _, _, _, _, _, _, _, _, rfl, exE, ⟨by simp [go_sem, *], by simp [go_sem, *], by simp [go_sem, *], by simp [go_sem, *], by simp [go_sem, *]⟩, fun r hr => ?_⟩
  have hr5 : r = 0 ∨ r = 1 ∨ r = 2 ∨ r = 3 ∨ r = 4 := by omega
  rcases hr5 with rfl | rfl | rfl | rfl | rfl <;> simp [go_sem, World.frozen?_setCell, *]
 ·have g1 : ¬ 0 < A := by omega
  subst g2
  go_wp2_with fail
  rw [hQ2.out]
  refine ⟨rfl, _, _, _, _, _, _, _, _, _, _, _, _, _, _, _, _, rfl, exE, ⟨by simp [go_sem, *], by simp [go_sem, *], by simp [go_sem, *], by simp [go_sem, *], by simp [go_sem, *]⟩, fun r hr => ?_⟩
  have hr5 : r = 0 ∨ r = 1 ∨ r = 2 ∨ r = 3 ∨ r = 4 := by omega
  rcases hr5 with rfl | rfl | rfl | rfl | rfl <;> simp [go_sem, World.frozen?_setCell, *]
 ·have g1 : ¬ r < 0 := by omega
  have g3 : ¬ 0 < A2 := by omega
  go_wp2_with fail
  rw [hQ2.out]
  refine ⟨rfl, _, _, _, _, _, _, _, _, _, _, _, _, _, _, _, _, rfl, exE, ⟨by simp [go_sem, *], by simp [go_sem, *], by simp [go_sem, *], by simp [go_sem, *], by simp [go_sem, *]⟩, fun r hr => ?_⟩
  have hr5 : r = 0 ∨ r = 1 ∨ r = 2 ∨ r = 3 ∨ r = 4 := by omega
  rcases hr5 with rfl | rfl | rfl | rfl | rfl <;> simp [go_sem, World.frozen?_setCell, *]
 ·have g1 : ¬ r < 0 := by omega
  have g3 : ¬ r2 < 0 := by omega
  go_wp2_with fail
  rw [hQ2.out]
  refine ⟨rfl, _, _, _, _, _, _, _, _, _, _, _, _, _, _, _, _, rfl, exE, ⟨by simp [go_sem, *], by simp [go_sem, *], by simp [go_sem, *], by simp [go_sem, *], by simp [go_sem, *]⟩, fun r hr => ?_⟩
  have hr5 : r = 0 ∨ r = 1 ∨ r = 2 ∨ r = 3 ∨ r = 4 := by omega
  rcases hr5 with rfl | rfl | rfl | rfl | rfl <;> simp [go_sem, World.frozen?_setCell, *]
 ·have g1 : ¬ r < 0 := by omega
  subst g2
  go_wp2_with fail
  rw [hQ2.out]
  refine ⟨rfl, _, _, _, _, _, _, _, _, _, _, _, _, _, _, _, _, rfl, exE, ⟨by simp [go_sem, *], by simp [go_sem, *], by simp [go_sem, *], by simp [go_sem, *], by simp [go_sem, *]⟩, fun r hr => ?_⟩
  have hr5 : r = 0 ∨ r = 1 ∨ r = 2 ∨ r = 3 ∨ r = 4 := by omega
  rcases hr5 with rfl | rfl | rfl | rfl | rfl <;> simp [go_sem, World.frozen?_setCell, *]
 ·subst g
  have g3 : ¬ 0 < A2 := by omega
  go_wp2_with fail
  rw [hQ2.out]
  refine ⟨rfl, _, _, _, _, _, _, _, _, _, _, _, _, _, _, _, _, rfl, exE, ⟨by simp [go_sem, *], by simp [go_sem, *], by simp [go_sem, *], by simp [go_sem, *], by simp [go_sem, *]⟩, fun r hr => ?_⟩
  have hr5 : r = 0 ∨ r = 1 ∨ r = 2 ∨ r = 3 ∨ r = 4 := by omega
  rcases hr5 with rfl | rfl | rfl | rfl | rfl <;> simp [go_sem, World.frozen?_setCell, *]
 ·subst g
  have g3 : ¬ r2 < 0 := by omega
  go_wp2_with fail
  rw [hQ2.out]
  refine ⟨rfl, _, _, _, _, _, _, _, _, _, _, _, _, _, _, _, _, rfl, exE, ⟨by simp [go_sem, *], by simp [go_sem, *], by simp [go_sem, *], by simp [go_sem, *], by simp [go_sem, *]⟩, fun r hr => ?_⟩
  have hr5 : r = 0 ∨ r = 1 ∨ r = 2 ∨ r = 3 ∨ r = 4 := by omega
  rcases hr5 with rfl | rfl | rfl | rfl | rfl <;> simp [go_sem, World.frozen?_setCell, *]
 ·subst g
  subst g2
  go_wp2_with fail
  rw [hQ2.out]
  refine ⟨rfl, _, _, _, _, _, _, _, _, _, _, _, _, _, _, _, _, rfl, exE, ⟨by simp [go_sem, *], by simp [go_sem, *], by simp [go_sem, *], by simp [go_sem, *], by simp [go_sem, *]⟩, fun r hr => ?_⟩
  have hr5 : r = 0 ∨ r = 1 ∨ r = 2 ∨ r = 3 ∨ r = 4 := by omega
  rcases hr5 with rfl | rfl | rfl | rfl | rfl <;> simp [go_sem, World.frozen?_setCell, *]
set_option maxHeartbeats 40000000 in
theorem stZ16 {yA yB yC yD yE yF yG yH yI yJ yK yL yM yN yO yP yQ yU yV yW yX yY zB zC zD zE zF zG zH zI zJ zK zL zM zN zO zP zQ zR zS zT zU zV zW zX zY zZ uA uB uC uD uE uF uG uH uI uJ uK uL uM uN uO uP uQ uR uS uT uU uV uW uX uY uZ iA iB iC iD iE iF iG iH iI iJ iK iL iM iN iO iP iQ iR iS iT iU iV iW iX iY iZ oA oB oC oD oE oF oG oH oI oJ oK oL oM oN oO oP oQ oR oS oT oU oV oW oX oY oZ qA qB qC qD qE qF qG qH qI qJ qK qL qM qN qO qP qQ qR qS qT qU qV : Value} {B1 B2 : Nat} {N D : Int} {b : Bool} {w : World} (c10 : w.cell? ⟨B1, 0, none⟩ = some (.int .i64 N)) (c11 : w.cell? ⟨B1, 1, none⟩ = some (.int .i64 D)) (c20 : w.cell? ⟨B2, 0, none⟩ = some (.int .i64 N)) (c21 : w.cell? ⟨B2, 1, none⟩ = some (.int .i64 D)) :
 Code.wp Try.prog (rgn Try.f15 16) (fun e a' w' => e = .normal ∧ ∃ (qI' qJ' qK' qL' qM' qN' qO' qP' qQ' qR' qS' qT' qU' qV' : Value), a' = { tmps := #[yA,yB,yC,yD,yE,yF,yG,yH,yI,yJ,yK,yL,yM,yN,yO,yP,.bool true,.pointer (some ⟨B1, 0, none⟩),.bool b,.bool true,yU,yV,yW,yX,yY,.pointer (some ⟨B2, 0, none⟩),.bool b,zB,zC,zD,zE,zF,zG,zH,zI,zJ,zK,zL,zM,zN,zO,zP,zQ,zR,zS,zT,zU,zV,zW,zX,zY,zZ,uA,uB,uC,uD,uE,uF,uG,uH,uI,uJ,uK,uL,uM,uN,uO,uP,uQ,uR,uS,uT,uU,uV,uW,uX,uY,uZ,iA,iB,iC,iD,iE,iF,iG,iH,iI,iJ,iK,iL,iM,iN,iO,iP,iQ,iR,iS,iT,iU,iV,iW,iX,iY,iZ,oA,oB,oC,oD,oE,oF,oG,oH,oI,oJ,oK,oL,oM,oN,oO,oP,oQ,oR,oS,oT,oU,oV,oW,oX,oY,oZ,qA,qB,qC,qD,qE,qF,qG,qH,qI',qJ',qK',qL',qM',qN',qO',qP',qQ',qR',qS',qT',qU',qV'], defers := [] } ∧ Ext w w') { tmps := #[yA,yB,yC,yD,yE,yF,yG,yH,yI,yJ,yK,yL,yM,yN,yO,yP,yQ,.pointer (some ⟨B1, 0, none⟩),.bool b,.bool true,yU,yV,yW,yX,yY,.pointer (some ⟨B2, 0, none⟩),.bool b,zB,zC,zD,zE,zF,zG,zH,zI,zJ,zK,zL,zM,zN,zO,zP,zQ,zR,zS,zT,zU,zV,zW,zX,zY,zZ,uA,uB,uC,uD,uE,uF,uG,uH,uI,uJ,uK,uL,uM,uN,uO,uP,uQ,uR,uS,uT,uU,uV,uW,uX,uY,uZ,iA,iB,iC,iD,iE,iF,iG,iH,iI,iJ,iK,iL,iM,iN,iO,iP,iQ,iR,iS,iT,iU,iV,iW,iX,iY,iZ,oA,oB,oC,oD,oE,oF,oG,oH,oI,oJ,oK,oL,oM,oN,oO,oP,oQ,oR,oS,oT,oU,oV,oW,oX,oY,oZ,qA,qB,qC,qD,qE,qF,qG,qH,qI,qJ,qK,qL,qM,qN,qO,qP,qQ,qR,qS,qT,qU,qV], defers := [] } w := by
 conv => arg 2; whnf
 refine st_intro (fun Q2 hQ2 => ?_)
 replace hQ2 := hid hQ2
 have heq : ∀ (p q : Int) w, (Op.equalIn 10000 29 (.agg #[.int .i64 p, .int .i64 q]) (.agg #[.int .i64 p, .int .i64 q])).run Try.prog w = .ok true w := fun p q w => by rw [run_eqRatio]; simp
 have lB1 := cell_lt c10; have lB2 := cell_lt c20
 dsimp only at lB1 lB2
 have hbb : (b == b) = true := by simp
 go_wp2_with fail
 refine (works_any _).mono ?_; rintro e u1 ⟨rfl, hE⟩
 have x : Ext w u1 := exE
 clear hE
 go_wp2_with fail
 rw [hQ2.out]
 exact ⟨rfl, _, _, _, _, _, _, _, _, _, _, _, _, _, _, rfl, exE⟩
end Go.Proofs.Ytpnfhcnnodolbaa
