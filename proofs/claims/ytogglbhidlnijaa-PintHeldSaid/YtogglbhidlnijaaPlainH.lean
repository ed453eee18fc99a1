/- Plain laws for PintHeld and PintSealed: a truth by numbers, and narrower ranges. No program. -/
import Derived.Test.YtogglbhidlnijaaDent
namespace Go.Proofs.Ytogglbhidlnijaa
set_option linter.unusedVariables false
set_option linter.unusedSimpArgs false
set_option linter.unusedSectionVars false
set_option linter.unnecessarySimpa false

/-- The number by which a place's height is chosen. -/
def byN (l : List Int) (i : Nat) : Int := if l.length = 0 then 0 else nth l (i % l.length)
theorem byN_bd {l : List Int} (h : ∀ i, 0 ≤ nth l i ∧ nth l i ≤ 255) (i : Nat) : 0 ≤ byN l i ∧ byN l i ≤ 255 := by
  unfold byN; split
  · omega
  · exact h _
/-- The height of a place in a truth by numbers. -/
def btm (rs : List (Int × Int)) (l : List Int) (i : Nat) : Int := pa rs i + byN l i % (pb rs i - pa rs i + 1)
def btms (rs : List (Int × Int)) (l : List Int) : Nat → List Int
  | 0 => []
  | k + 1 => btms rs l k ++ [btm rs l k]
theorem btms_len (rs : List (Int × Int)) (l : List Int) (k : Nat) : (btms rs l k).length = k := by induction k <;> simp [btms, *]
theorem btms_nth (rs : List (Int × Int)) (l : List Int) : ∀ k j, j < k → nth (btms rs l k) j = btm rs l j
  | k + 1, j, h => by
    simp only [btms]
    rcases Nat.lt_or_ge j k with g | g
    · rw [nth_append_left (by rw [btms_len]; exact g)]; exact btms_nth rs l k j g
    · obtain rfl : j = k := by omega
      rw [nth_append_right (by rw [btms_len]; omega), btms_len]; simp [nth]
theorem btm_bd {d : Dent} (v : VldD d) (l : List Int) (i : Nat) (hi : i < d.rs.length) : pa d.rs i ≤ btm d.rs l i ∧ btm d.rs l i ≤ pb d.rs i := by
  have := v.ok i hi
  unfold okR at this
  have h0 := Int.emod_nonneg (byN l i) (b := pb d.rs i - pa d.rs i + 1) (by omega)
  have h1 := Int.emod_lt_of_pos (byN l i) (b := pb d.rs i - pa d.rs i + 1) (by omega)
  unfold btm; omega
theorem btms_isT {d : Dent} (v : VldD d) (l : List Int) : IsT d.rs (btms d.rs l d.rs.length) :=
  isT_iff.2 ⟨btms_len _ _ _, fun i hi => by rw [btms_nth _ _ _ _ hi]; exact btm_bd v l i hi⟩

end Go.Proofs.Ytogglbhidlnijaa
