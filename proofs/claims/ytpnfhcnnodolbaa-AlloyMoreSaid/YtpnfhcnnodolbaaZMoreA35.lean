/- Texts of one proof, laid together: Tab. -/
import Derived.Test.YtpnfhcnnodolbaaZY8
import Derived.Test.YtpnfhcnnodolbaaZY2
import Derived.Test.YtpnfhcnnodolbaaZMoreA34
import Derived.Test.YtpnfhcnnodolbaaZY3
set_option linter.unusedVariables false
set_option linter.unusedSimpArgs false
set_option linter.unusedSectionVars false
set_option linter.unnecessarySimpa false
namespace Go.Proofs.Ytpnfhcnnodolbaa
open Game
theorem mnTo_at (f : Nat → Int) {n : Nat} (h : 0 < n) : ∃ i, i < n ∧ f i = mnTo f n := by
 induction n with
 | zero => omega
 | succ k ih =>
  simp only [mnTo]
  rcases Nat.eq_zero_or_pos k with rfl | hk
  ·exact ⟨0, by omega, by simp [mnTo]⟩
  ·obtain ⟨i, hi, e⟩ := ih hk
   rcases Int.le_total (mnTo f k) (f k) with g | g
   ·exact ⟨i, by omega, by omega⟩
   ·exact ⟨k, by omega, by omega⟩
theorem mxTo_ge {f : Nat → Int} {n i : Nat} (h : i < n) : f i ≤ mxTo f n := by
 induction n with
 | zero => omega
 | succ k ih =>
  simp only [mxTo]
  rcases Nat.lt_or_ge i k with g | g
  ·have := ih g; omega
  ·obtain rfl : i = k := by omega
   omega
theorem mxTo_at (f : Nat → Int) {n : Nat} (h : 0 < n) : ∃ i, i < n ∧ f i = mxTo f n := by
 induction n with
 | zero => omega
 | succ k ih =>
  simp only [mxTo]
  rcases Nat.eq_zero_or_pos k with rfl | hk
  ·exact ⟨0, by omega, by simp [mxTo]⟩
  ·obtain ⟨i, hi, e⟩ := ih hk
   rcases Int.le_total (f k) (mxTo f k) with g | g
   ·exact ⟨i, by omega, by omega⟩
   ·exact ⟨k, by omega, by omega⟩
end Go.Proofs.Ytpnfhcnnodolbaa
