/- Texts of one proof, laid together: Tms, Prd. -/
import Derived.Test.YtpnfhcnnodolbaaQf
import Derived.Test.YtpnfhcnnodolbaaZB17
import Derived.Test.YtpnfhcnnodolbaaLaS
namespace Go.Proofs.Ytpnfhcnnodolbaa
set_option linter.unusedVariables false
set_option linter.unusedSimpArgs false
set_option linter.unusedSectionVars false
set_option linter.unnecessarySimpa false
open Go Go.RowKit Game
theorem rat_scale {a b k : Int} (hk : 0 < k) (hb : 0 < b) : ratN (k * a) (k * b) = ratN a b ∧ ratD (k * a) (k * b) = ratD a b :=
 rat_eq (Int.mul_pos hk hb) hb (by grind)
def tmL (k : Int) (x : List Int) : List Int := mkL x.length fun i => k * nth x i
theorem tmL_len (k : Int) (x : List Int) : (tmL k x).length = x.length := mkL_len _ _
theorem tmL_nth (k : Int) (x : List Int) (i : Nat) : nth (tmL k x) i = k * nth x i := by
 by_cases h : i < x.length
 ·exact mkL_nth _ h
 ·rw [nth_ge (by rw [tmL_len]; omega), nth_ge (by omega)]; simp
theorem tmS (k : Int) (x : List Int) (f : Nat → Int) (n : Nat) : sm n (fun i => nth (tmL k x) i * f i) = k * sm n fun i => nth x i * f i := by
 rw [← sm_mul]
 exact sm_congr fun i _ => by rw [tmL_nth]; grind
theorem tm_sum (k : Int) (x : List Int) : psum (tmL k x) = k * psum x := by
 unfold psum
 rw [tmL_len, ← sm_mul]
 exact sm_congr fun i _ => tmL_nth k x i
theorem tm_vld {k : Int} {m : Nat} {x : List Int} (hk : 1 ≤ k ∧ k ≤ 9) (v : VldX x m) (h : ∀ i, nth x i ≤ 65535) : VldX (tmL k x) m := by
 refine ⟨by rw [tmL_len]; exact v.len, fun i => ?_, fun i => ?_, ?_⟩
 ·rw [tmL_nth]; exact Int.mul_nonneg (by omega) (v.nn i)
 ·rw [tmL_nth]
  have h1 := v.nn i
  have h2 := h i
  have h3 := Int.mul_le_mul_of_nonneg_left h2 (show 0 ≤ k by omega)
  omega
 ·rw [tm_sum]; exact Int.mul_pos (by omega) v.ps
theorem tm_cost {l : List Met} {k : Int} {x : List Int} (hk : 1 ≤ k ∧ k ≤ 9) (hm : chkM l = 0) (v : VldX x l.length) (h : ∀ i, nth x i ≤ 65535) :
 costE l x = 0 ∧ costE l (tmL k x) = 0 ∧ costNE l (tmL k x) = costNE l x ∧ costDE l (tmL k x) = costDE l x := by
 have e1 := cost_3 hm (mixE_ok.2 v)
 have e2 := cost_3 hm (mixE_ok.2 (tm_vld hk v h))
 have e3 : costN l (tmL k x) l.length = k * costN l x l.length := tmS k x (fun i => (mtl l i).p) _
 have r := rat_scale (a := costN l x l.length) (show 0 < k by omega) v.ps
 refine ⟨e1.1, e2.1, ?_, ?_⟩
 ·rw [e2.2.1, e1.2.1, e3, tm_sum]; exact r.1
 ·rw [e2.2.2, e1.2.2, e3, tm_sum]; exact r.2
theorem tm_ends {l : List Met} {k : Int} {x : List Int} (cp : Bool) (hk : 1 ≤ k ∧ k ≤ 9) (hm : chkM l = 0) (v : VldX x l.length) (h : ∀ i, nth x i ≤ 65535) :
 endX l cp (tmL k x) = endX l cp x := by
 have e := tm_cost hk hm v h
 unfold endX
 rw [if_pos e.1, if_pos e.2.1]
 have e1 : loS l cp (tmL k x) l.length = k * loS l cp x l.length := tmS k x (fun i => rgL (mtl l i) cp) _
 have e2 : hiS l cp (tmL k x) l.length = k * hiS l cp x l.length := tmS k x (fun i => rgH (mtl l i) cp) _
 have r1 := rat_scale (a := loS l cp x l.length) (show 0 < k by omega) v.ps
 have r2 := rat_scale (a := hiS l cp x l.length) (show 0 < k by omega) v.ps
 rw [e1, e2, tm_sum, r1.1, r1.2, r2.1, r2.2]
theorem mul_le_iff {k a b : Int} (hk : 0 < k) : k * a ≤ k * b ↔ a ≤ b := ⟨fun h => Int.le_of_mul_le_mul_left h hk, fun h => Int.mul_le_mul_of_nonneg_left h (by omega)⟩
theorem tm_good {l : List Met} {k : Int} {x : List Int} (u c : Int) (s : Bool) (hk : 1 ≤ k ∧ k ≤ 9) : isG l u c s (tmL k x) = isG l u c s x := by
 unfold isG
 have e1 : ledN l s (tmL k x) l.length = k * ledN l s x l.length := tmS k x (fun i => badL (mtl l i) s) _
 have e2 : copN l s (tmL k x) l.length = k * copN l s x l.length := tmS k x (fun i => goodC (mtl l i) s) _
 rw [e1, e2, tm_sum, show u * (k * psum x) = k * (u * psum x) by grind, show c * (k * psum x) = k * (c * psum x) by grind]
 rw [Bool.eq_iff_iff]
 simp only [Bool.and_eq_true, decide_eq_true_eq]
 rw [mul_le_iff (by omega), mul_le_iff (by omega)]
theorem tm_des {l : List Met} {k : Int} {x : List Int} (u c : Int) (s : Bool) (hk : 1 ≤ k ∧ k ≤ 9) (v : VldX x l.length) (h : ∀ i, nth x i ≤ 65535) : desE l u c s (tmL k x) = desE l u c s x := by
 unfold desE
 rw [mixE_ok.2 v, mixE_ok.2 (tm_vld hk v h), tm_good u c s hk]
theorem pln_le {m : Nat} {l : List Int} (h : ∀ i, 0 ≤ nth l i ∧ nth l i ≤ 65535) (i : Nat) : nth (pln m l) i ≤ 65535 := by
 have hp := fun i => (plN_bd h i).2
 unfold pln
 split
 ·by_cases g : i < m
  ·rw [mkL_nth _ g]; split
   ·omega
   ·exact hp i
  ·rw [nth_mkL_out (by omega)]; omega
 ·by_cases g : i < m
  ·rw [mkL_nth _ g]; exact hp i
  ·rw [nth_mkL_out (by omega)]; omega

end Go.Proofs.Ytpnfhcnnodolbaa
namespace Go.Proofs.Ytpnfhcnnodolbaa
set_option linter.unusedVariables false
set_option linter.unusedSimpArgs false
set_option linter.unusedSectionVars false
set_option linter.unnecessarySimpa false
open Go Go.RowKit Game
theorem rat_lt {p q r s : Int} (hq : 0 < q) (hs : 0 < s) : lessB (ratN p q) (ratD p q) (ratN r s) (ratD r s) = decide (p * s < r * q) := by
 obtain ⟨e1, e2, g1⟩ := rat_spec p hq
 obtain ⟨e3, e4, g2⟩ := rat_spec r hs
 have k1 := gcd_pos (a := p) hq
 have k2 := gcd_pos (a := r) hs
 generalize ratN p q = N at *
 generalize ratD p q = D at *
 generalize ratN r s = N' at *
 generalize ratD r s = D' at *
 generalize (Int.gcd p q : Int) = g at *
 generalize (Int.gcd r s : Int) = h at *
 subst e1 e2 e3 e4
 unfold lessB
 rw [show N * g * (D' * h) = (g * h) * (N * D') by grind, show N' * h * (D * g) = (g * h) * (N' * D) by grind]
 have hgh := Int.mul_pos k1 k2
 rw [Bool.eq_iff_iff]
 simp only [decide_eq_true_eq]
 exact ⟨fun hh => Int.mul_lt_mul_of_pos_left hh hgh, fun hh => Int.lt_of_mul_lt_mul_left hh (by omega)⟩
def adL (n : Nat) (x y : List Int) : List Int := mkL n fun i => nth x i + nth y i
theorem adL_len (n : Nat) (x y : List Int) : (adL n x y).length = n := mkL_len _ _
theorem adS {n : Nat} (x y : List Int) (f : Nat → Int) : sm n (fun i => nth (adL n x y) i * f i) = sm n (fun i => nth x i * f i) + sm n fun i => nth y i * f i := by
 rw [← sm_add]
 exact sm_congr fun i hi => by rw [show nth (adL n x y) i = nth x i + nth y i from mkL_nth _ hi]; grind
theorem ad_sum {n : Nat} {x y : List Int} (hx : x.length = n) (hy : y.length = n) : psum (adL n x y) = psum x + psum y := by
 unfold psum
 rw [adL_len, hx, hy, ← sm_add]
 exact sm_congr fun i hi => mkL_nth _ hi
theorem ad_vld {n : Nat} {x y : List Int} (vx : VldX x n) (vy : VldX y n) (hx : ∀ i, nth x i ≤ 65535) (hy : ∀ i, nth y i ≤ 65535) : VldX (adL n x y) n := by
 have e : ∀ i, nth (adL n x y) i = 0 ∨ nth (adL n x y) i = nth x i + nth y i := fun i => by
  by_cases h : i < n
  ·exact .inr (mkL_nth _ h)
  ·exact .inl (nth_ge (by rw [adL_len]; omega))
 refine ⟨adL_len _ _ _, fun i => ?_, fun i => ?_, ?_⟩
 ·have := vx.nn i; have := vy.nn i; rcases e i with h | h <;> rw [h] <;> omega
 ·have := hx i; have := hy i; rcases e i with h | h <;> rw [h] <;> omega
 ·rw [ad_sum vx.len vy.len]; have := vx.ps; have := vy.ps; omega
theorem cost_small {l : List Met} (v : VldM l) {x : List Int} (vx : VldX x l.length) (hs : psum x ≤ 6000000) : OkS (ratN (costN l x l.length) (psum x)) (ratD (costN l x l.length) (psum x)) := by
 have hb : costN l x l.length ≤ 1000 * psum x ∧ 0 ≤ costN l x l.length := by
  constructor
  ·unfold costN psum
   rw [vx.len, ← sm_mul]
   exact sm_le fun i _ => by
    have h1 := vx.nn i
    have h2 := (v.pr i).2
    have := Int.mul_le_mul_of_nonneg_left h2 h1
    grind
  ·exact sm_nonneg fun i _ => Int.mul_nonneg (vx.nn i) (v.pr i).1
 obtain ⟨e1, e2, g1⟩ := rat_spec (costN l x l.length) vx.ps
 have k1 := gcd_pos (a := costN l x l.length) vx.ps
 have hd := ratD_bd (a := costN l x l.length) vx.ps
 have hps := vx.ps
 have rc : Int.gcd (ratN (costN l x l.length) (psum x)) (ratD (costN l x l.length) (psum x)) = 1 := Int.gcd_ediv_gcd_ediv_gcd (by omega)
 generalize costN l x l.length = C at *
 generalize psum x = P at *
 refine ⟨?_, ?_, hd.1, by omega, rc⟩
 ·unfold ratN; exact Int.ediv_nonneg hb.2 (by omega)
 ·generalize ratN C P = N at *
  generalize ratD C P = D at *
  generalize (Int.gcd C P : Int) = g at *
  rw [e1, e2, show 1000 * (D * g) = (1000 * D) * g by grind] at hb
  exact Int.le_of_mul_le_mul_right hb.1 k1
theorem med_lt {p q r s : Int} (hq : 0 < q) (hs : 0 < s) : ¬ ((p + r) * q < p * (q + s) ∧ (p + r) * s < r * (q + s)) ∧ ¬ (p * (q + s) < (p + r) * q ∧ r * (q + s) < (p + r) * s) := by
 rw [show (p + r) * q = p * q + r * q by grind, show p * (q + s) = p * q + p * s by grind, show (p + r) * s = p * s + r * s by grind, show r * (q + s) = r * q + r * s by grind]
 omega
theorem ad_good {l : List Met} {u c : Int} {s : Bool} {x y : List Int} (hx : x.length = l.length) (hy : y.length = l.length) (h1 : isG l u c s x = true) (h2 : isG l u c s y = true) : isG l u c s (adL l.length x y) = true := by
 unfold isG at *
 have e1 : ledN l s (adL l.length x y) l.length = ledN l s x l.length + ledN l s y l.length := adS x y (fun i => badL (mtl l i) s)
 have e2 : copN l s (adL l.length x y) l.length = copN l s x l.length + copN l s y l.length := adS x y (fun i => goodC (mtl l i) s)
 rw [e1, e2, ad_sum hx hy]
 simp only [Bool.and_eq_true, decide_eq_true_eq] at *
 rw [show u * (psum x + psum y) = u * psum x + u * psum y by grind, show c * (psum x + psum y) = c * psum x + c * psum y by grind]
 omega
theorem psum_le {n : Nat} (n6 : n ≤ 6) {x : List Int} (hl : x.length = n) (h : ∀ i, nth x i ≤ 1000000) (h0 : ∀ i, 0 ≤ nth x i) : psum x ≤ 6000000 := by
 have := (sm_bd (n := x.length) (f := nth x) (B := 1000000) fun i _ => ⟨h0 i, h i⟩).2
 unfold psum
 omega

theorem OkS.mul {a b c d : Int} (h : OkS a b) (k : OkS c d) : I64 (a * d) := mul_i64 (A := 6000000000) (B := 6000000) h.n0 (by have := h.n1; have := h.d1; omega) (by have := k.d0; omega) k.d1 (by decide) (by decide)

end Go.Proofs.Ytpnfhcnnodolbaa
