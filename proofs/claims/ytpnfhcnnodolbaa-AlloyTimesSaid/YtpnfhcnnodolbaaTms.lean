/- All parts of a mixture as many times as great: plain. -/
import Derived.Test.YtpnfhcnnodolbaaQf
import Derived.Test.YtpnfhcnnodolbaaZB17
namespace Go.Proofs.Ytpnfhcnnodolbaa
set_option linter.unusedVariables false
set_option linter.unusedSimpArgs false
set_option linter.unusedSectionVars false
set_option linter.unnecessarySimpa false
open Go Go.RowKit Game
theorem rat_scale {a b k : Int} (hk : 0 < k) (hb : 0 < b) : ratN (k * a) (k * b) = ratN a b ∧ ratD (k * a) (k * b) = ratD a b :=
 rat_eq (Int.mul_pos hk hb) hb (by grind)
def tmL (k : Int) (x : List Int) : List Int := mkL x.length fun i => k * nth x i
theorem tmL_len (k : Int) (x : List Int) : (tmL k x).length = x.length := mkL_len _ _
theorem tmL_nth (k : Int) (x : List Int) (i : Nat) : nth (tmL k x) i = k * nth x i := by
 by_cases h : i < x.length
 ·exact mkL_nth _ h
 ·rw [nth_ge (by rw [tmL_len]; omega), nth_ge (by omega)]; simp
theorem tmS (k : Int) (x : List Int) (f : Nat → Int) (n : Nat) : sm n (fun i => nth (tmL k x) i * f i) = k * sm n fun i => nth x i * f i := by
 rw [← sm_mul]
 exact sm_congr fun i _ => by rw [tmL_nth]; grind
theorem tm_sum (k : Int) (x : List Int) : psum (tmL k x) = k * psum x := by
 unfold psum
 rw [tmL_len, ← sm_mul]
 exact sm_congr fun i _ => tmL_nth k x i
theorem tm_vld {k : Int} {m : Nat} {x : List Int} (hk : 1 ≤ k ∧ k ≤ 9) (v : VldX x m) (h : ∀ i, nth x i ≤ 65535) : VldX (tmL k x) m := by
 refine ⟨by rw [tmL_len]; exact v.len, fun i => ?_, fun i => ?_, ?_⟩
 ·rw [tmL_nth]; exact Int.mul_nonneg (by omega) (v.nn i)
 ·rw [tmL_nth]
  have h1 := v.nn i
  have h2 := h i
  have h3 := Int.mul_le_mul_of_nonneg_left h2 (show 0 ≤ k by omega)
  omega
 ·rw [tm_sum]; exact Int.mul_pos (by omega) v.ps
theorem tm_cost {l : List Met} {k : Int} {x : List Int} (hk : 1 ≤ k ∧ k ≤ 9) (hm : chkM l = 0) (v : VldX x l.length) (h : ∀ i, nth x i ≤ 65535) :
 costE l x = 0 ∧ costE l (tmL k x) = 0 ∧ costNE l (tmL k x) = costNE l x ∧ costDE l (tmL k x) = costDE l x := by
 have e1 := cost_3 hm (mixE_ok.2 v)
 have e2 := cost_3 hm (mixE_ok.2 (tm_vld hk v h))
 have e3 : costN l (tmL k x) l.length = k * costN l x l.length := tmS k x (fun i => (mtl l i).p) _
 have r := rat_scale (a := costN l x l.length) (show 0 < k by omega) v.ps
 refine ⟨e1.1, e2.1, ?_, ?_⟩
 ·rw [e2.2.1, e1.2.1, e3, tm_sum]; exact r.1
 ·rw [e2.2.2, e1.2.2, e3, tm_sum]; exact r.2
theorem tm_ends {l : List Met} {k : Int} {x : List Int} (cp : Bool) (hk : 1 ≤ k ∧ k ≤ 9) (hm : chkM l = 0) (v : VldX x l.length) (h : ∀ i, nth x i ≤ 65535) :
 endX l cp (tmL k x) = endX l cp x := by
 have e := tm_cost hk hm v h
 unfold endX
 rw [if_pos e.1, if_pos e.2.1]
 have e1 : loS l cp (tmL k x) l.length = k * loS l cp x l.length := tmS k x (fun i => rgL (mtl l i) cp) _
 have e2 : hiS l cp (tmL k x) l.length = k * hiS l cp x l.length := tmS k x (fun i => rgH (mtl l i) cp) _
 have r1 := rat_scale (a := loS l cp x l.length) (show 0 < k by omega) v.ps
 have r2 := rat_scale (a := hiS l cp x l.length) (show 0 < k by omega) v.ps
 rw [e1, e2, tm_sum, r1.1, r1.2, r2.1, r2.2]
theorem mul_le_iff {k a b : Int} (hk : 0 < k) : k * a ≤ k * b ↔ a ≤ b := ⟨fun h => Int.le_of_mul_le_mul_left h hk, fun h => Int.mul_le_mul_of_nonneg_left h (by omega)⟩
theorem tm_good {l : List Met} {k : Int} {x : List Int} (u c : Int) (s : Bool) (hk : 1 ≤ k ∧ k ≤ 9) : isG l u c s (tmL k x) = isG l u c s x := by
 unfold isG
 have e1 : ledN l s (tmL k x) l.length = k * ledN l s x l.length := tmS k x (fun i => badL (mtl l i) s) _
 have e2 : copN l s (tmL k x) l.length = k * copN l s x l.length := tmS k x (fun i => goodC (mtl l i) s) _
 rw [e1, e2, tm_sum, show u * (k * psum x) = k * (u * psum x) by grind, show c * (k * psum x) = k * (c * psum x) by grind]
 rw [Bool.eq_iff_iff]
 simp only [Bool.and_eq_true, decide_eq_true_eq]
 rw [mul_le_iff (by omega), mul_le_iff (by omega)]
theorem tm_des {l : List Met} {k : Int} {x : List Int} (u c : Int) (s : Bool) (hk : 1 ≤ k ∧ k ≤ 9) (v : VldX x l.length) (h : ∀ i, nth x i ≤ 65535) : desE l u c s (tmL k x) = desE l u c s x := by
 unfold desE
 rw [mixE_ok.2 v, mixE_ok.2 (tm_vld hk v h), tm_good u c s hk]
theorem pln_le {m : Nat} {l : List Int} (h : ∀ i, 0 ≤ nth l i ∧ nth l i ≤ 65535) (i : Nat) : nth (pln m l) i ≤ 65535 := by
 have hp := fun i => (plN_bd h i).2
 unfold pln
 split
 ·by_cases g : i < m
  ·rw [mkL_nth _ g]; split
   ·omega
   ·exact hp i
  ·rw [nth_mkL_out (by omega)]; omega
 ·by_cases g : i < m
  ·rw [mkL_nth _ g]; exact hp i
  ·rw [nth_mkL_out (by omega)]; omega

end Go.Proofs.Ytpnfhcnnodolbaa
