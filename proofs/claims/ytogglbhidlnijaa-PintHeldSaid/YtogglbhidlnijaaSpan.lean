/- Span, Seal and the errors in plain numbers. No program. -/
import Derived.Test.YtogglbhidlnijaaRefI
namespace Go.Proofs.Ytogglbhidlnijaa
set_option linter.unusedVariables false
set_option linter.unusedSimpArgs false
set_option linter.unusedSectionVars false
set_option linter.unnecessarySimpa false

def minTo (l : List Int) : Nat → Int
  | 0 => nth l 0
  | k + 1 => min (minTo l k) (nth l k)
def maxTo (l : List Int) : Nat → Int
  | 0 => nth l 0
  | k + 1 => max (maxTo l k) (nth l k)
theorem minTo_bd {l : List Int} {a b : Int} (h : ∀ i, i < l.length → a ≤ nth l i ∧ nth l i ≤ b) (h0 : 0 < l.length) (k : Nat) (hk : k ≤ l.length) : a ≤ minTo l k ∧ minTo l k ≤ b := by
  induction k with
  | zero => exact h 0 h0
  | succ k ih => have := ih (by omega); have := h k (by omega); simp only [minTo]; omega
theorem maxTo_bd {l : List Int} {a b : Int} (h : ∀ i, i < l.length → a ≤ nth l i ∧ nth l i ≤ b) (h0 : 0 < l.length) (k : Nat) (hk : k ≤ l.length) : a ≤ maxTo l k ∧ maxTo l k ≤ b := by
  induction k with
  | zero => exact h 0 h0
  | succ k ih => have := ih (by omega); have := h k (by omega); simp only [maxTo]; omega
theorem minTo_le {l : List Int} {k i : Nat} (h : i < k) : minTo l k ≤ nth l i := by
  induction k with
  | zero => omega
  | succ k ih =>
    simp only [minTo]
    rcases Nat.lt_or_ge i k with g | g
    · have := ih g; omega
    · obtain rfl : i = k := by omega
      omega
theorem maxTo_ge {l : List Int} {k i : Nat} (h : i < k) : nth l i ≤ maxTo l k := by
  induction k with
  | zero => omega
  | succ k ih =>
    simp only [maxTo]
    rcases Nat.lt_or_ge i k with g | g
    · have := ih g; omega
    · obtain rfl : i = k := by omega
      omega
theorem minTo_at {l : List Int} (h0 : 0 < l.length) {k : Nat} (hk : k ≤ l.length) : ∃ i, i < l.length ∧ minTo l k = nth l i := by
  induction k with
  | zero => exact ⟨0, h0, rfl⟩
  | succ k ih =>
    obtain ⟨i, hi, e⟩ := ih (by omega)
    rcases Int.le_total (minTo l k) (nth l k) with g | g
    · exact ⟨i, hi, by simp only [minTo]; omega⟩
    · exact ⟨k, by omega, by simp only [minTo]; omega⟩
theorem maxTo_at {l : List Int} (h0 : 0 < l.length) {k : Nat} (hk : k ≤ l.length) : ∃ i, i < l.length ∧ maxTo l k = nth l i := by
  induction k with
  | zero => exact ⟨0, h0, rfl⟩
  | succ k ih =>
    obtain ⟨i, hi, e⟩ := ih (by omega)
    rcases Int.le_total (nth l k) (maxTo l k) with g | g
    · exact ⟨i, hi, by simp only [maxTo]; omega⟩
    · exact ⟨k, by omega, by simp only [maxTo]; omega⟩

theorem nth_mem {l : List Int} {i : Nat} (h : i < l.length) : nth l i ∈ l := by rw [nth_lt h]; exact List.getElem_mem h
theorem mem_nth {l : List Int} {x : Int} (h : x ∈ l) : ∃ i, i < l.length ∧ nth l i = x := by
  obtain ⟨i, hi, e⟩ := List.getElem_of_mem h
  exact ⟨i, hi, by rw [nth_lt hi, e]⟩

theorem held_ok {d : Dent} {t : Int} (k : Dl d t) : 0 < (held d t).length ∧ (held d t).length ≤ 14641 ∧ ∀ i, i < (held d t).length → 0 ≤ nth (held d t) i ∧ nth (held d t) i ≤ 3360 := by
  have hl := heldFrom_len k.v t []
  have e : heldFrom d t [] = held d t := by simp [heldFrom, held]
  rw [e] at hl
  refine ⟨hl.1, hl.2, fun i hi => ?_⟩
  have hm := nth_mem hi
  obtain ⟨x, hx, e⟩ := List.mem_map.1 (show nth (held d t) i ∈ (trs d.rs).map _ from hm)
  rw [← e]
  exact holds_bd (meas_vld k.v (mem_trs.1 hx)) k.t0 k.t1
def spanLo (d : Dent) (t : Int) : Int := minTo (held d t) (held d t).length
def spanHi (d : Dent) (t : Int) : Int := maxTo (held d t) (held d t).length
def spanLoOf (d : Dent) (t : Int) : Int := if dtd d t = 0 then spanLo d t else 0
def spanHiOf (d : Dent) (t : Int) : Int := if dtd d t = 0 then spanHi d t else 0

/-- How many of the first so many are in a range. -/
def cntTo (l : List Int) (x y : Int) : Nat → Nat
  | 0 => 0
  | k + 1 => cntTo l x y k + (if x ≤ nth l k ∧ nth l k ≤ y then 1 else 0)
theorem cntTo_le (l : List Int) (x y : Int) (k : Nat) : cntTo l x y k ≤ k := by
  induction k with
  | zero => exact Nat.le_refl _
  | succ k ih => simp only [cntTo]; split <;> omega
def cnt (d : Dent) (t x y : Int) : Nat := cntTo (held d t) x y (held d t).length
def sealN (d : Dent) (t x y : Int) : Int := if cnt d t x y = (held d t).length then 2 else if cnt d t x y = 0 then 0 else 1
def sealOf (d : Dent) (t x y : Int) : Int := if ask d t x y = 0 then sealN d t x y else 0
theorem ask_ok {d : Dent} {t x y : Int} : ask d t x y = 0 ↔ Dl d t ∧ x ≤ y := by
  unfold ask
  constructor
  · intro h
    split at h
    · rename_i h1; exact absurd h h1
    · split at h
      · cases h
      · rename_i h1 h2; exact ⟨dtd_ok.1 (by omega), by omega⟩
  · rintro ⟨h1, h2⟩
    rw [if_neg (by simp [dtd_ok.2 h1]), if_neg (by omega)]
theorem ask_cases (d : Dent) (t x y : Int) : ask d t x y = 0 ∨ ask d t x y = 3 ∨ ask d t x y = 6 := by
  have := dtd_cases d t
  unfold ask; split <;> (try split) <;> omega
theorem seal_cases (d : Dent) (t x y : Int) : sealOf d t x y = 0 ∨ sealOf d t x y = 1 ∨ sealOf d t x y = 2 := by
  unfold sealOf sealN; split <;> (try split) <;> (try split) <;> omega
/-- The errors of Right and Wrong. -/
def rightE (d : Dent) (t x y : Int) : Int := if ask d t x y = 0 ∧ sealOf d t x y = 0 then 20 else ask d t x y
def wrongE (d : Dent) (t x y : Int) : Int := if ask d t x y = 0 ∧ sealOf d t x y = 2 then 5 else ask d t x y

theorem cntTo_all {l : List Int} {x y : Int} : ∀ {k : Nat}, cntTo l x y k = k ↔ ∀ i, i < k → x ≤ nth l i ∧ nth l i ≤ y
  | 0 => by simp [cntTo]
  | k + 1 => by
    have := cntTo_le l x y k
    have ih := cntTo_all (l := l) (x := x) (y := y) (k := k)
    simp only [cntTo]
    constructor
    · intro h i hi
      split at h
      · rename_i c
        rcases Nat.lt_or_ge i k with g | g
        · exact ih.1 (by omega) i g
        · obtain rfl : i = k := by omega
          exact c
      · omega
    · intro h
      rw [ih.2 fun i hi => h i (by omega), if_pos (h k (by omega))]
theorem cntTo_none {l : List Int} {x y : Int} : ∀ {k : Nat}, cntTo l x y k = 0 ↔ ∀ i, i < k → ¬ (x ≤ nth l i ∧ nth l i ≤ y)
  | 0 => by simp [cntTo]
  | k + 1 => by
    have ih := cntTo_none (l := l) (x := x) (y := y) (k := k)
    simp only [cntTo]
    constructor
    · intro h i hi
      split at h
      · omega
      · rename_i c
        rcases Nat.lt_or_ge i k with g | g
        · exact ih.1 (by omega) i g
        · obtain rfl : i = k := by omega
          exact c
    · intro h
      rw [ih.2 fun i hi => h i (by omega), if_neg (h k (by omega))]

end Go.Proofs.Ytogglbhidlnijaa
