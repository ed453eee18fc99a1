/- Plain laws of the best dent and of pools. No program. -/
import Derived.Test.YtogglbhidlnijaaPlainB
namespace Go.Proofs.Ytogglbhidlnijaa
set_option linter.unusedVariables false
set_option linter.unusedSimpArgs false
set_option linter.unusedSectionVars false
set_option linter.unnecessarySimpa false

theorem bst_top (m : Meas) (t : Int) : ∀ (k i : Nat), i < k → out0 m t i ≤ out0 m t (bst m t k)
  | 0, i, h => by omega
  | k + 1, i, h => by
    unfold bst; split
    · rename_i c
      by_cases g : i < k
      · have := bst_top m t k i g; omega
      · have : i = k := by omega
        subst this; exact Int.le_refl _
    · rename_i c
      by_cases g : i < k
      · exact bst_top m t k i g
      · have : i = k := by omega
        subst this; omega
theorem bst_first (m : Meas) (t : Int) : ∀ (k i : Nat), i < bst m t k → out0 m t i < out0 m t (bst m t k)
  | 0, i, h => by simp [bst] at h
  | k + 1, i, h => by
    unfold bst at h ⊢; split
    · rename_i c
      rw [if_pos c] at h
      by_cases g : i < k
      · have := bst_top m t k i g; omega
      · omega
    · rename_i c
      rw [if_neg c] at h
      exact bst_first m t k i h

/-- Neighbours that are not dry have the same tops. -/
theorem wet_next {m : Meas} {t i : Int} (h0 : 0 ≤ i) (h1 : i + 1 < m.hs.length) (w0 : depth m t i ≠ 0) (w1 : depth m t (i + 1) ≠ 0) : topL m t (i + 1) = topL m t i ∧ topR m t (i + 1) = topR m t i := by
  have a0 := topL_ge m t i; have a1 := topR_ge m t i; have b0 := topL_ge m t (i + 1); have b1 := topR_ge m t (i + 1)
  have c0 : hAt m t i < topR m t i := by unfold depth at w0; omega
  have c1 : hAt m t (i + 1) < topL m t (i + 1) := by unfold depth at w1; omega
  constructor
  · refine Int.le_antisymm ?_ (topL_lub h0 fun j h2 h3 => topL_max (by omega) h2 (by omega))
    obtain ⟨j, h2, h3, e⟩ := topL_in m t (f := i + 1) (by omega)
    rw [e]
    rcases (show j < (i + 1) ∨ (i + 1) ≤ j by omega) with g | g
    · exact topL_max h0 h2 (by omega)
    · have : j = i + 1 := by omega
      rw [this] at e; omega
  · refine Int.le_antisymm (topR_lub (by omega) fun j h2 h3 => topR_max (by omega) h3) ?_
    obtain ⟨j, h2, h3, e⟩ := topR_in m t (f := i) (by omega)
    rw [e]
    rcases (show i < j ∨ j ≤ i by omega) with g | g
    · exact topR_max (by omega) h3
    · have : j = i := by omega
      rw [this] at e; omega
theorem lev_next {m : Meas} {t i : Int} (h0 : 0 ≤ i) (h1 : i + 1 < m.hs.length) (w0 : depth m t i ≠ 0) (w1 : depth m t (i + 1) ≠ 0) : lev m t (i + 1) = lev m t i := by
  obtain ⟨e, f⟩ := wet_next h0 h1 w0 w1
  unfold lev depth; rw [e, f]; omega

/-- Pools of the first k places. -/
structure PoolsIn (m : Meas) (t : Int) (k : Nat) (l : List (Int × Int)) : Prop where
  lo : ∀ e, e < l.length → 0 ≤ pa l e
  le : ∀ e, e < l.length → pa l e ≤ pb l e
  hi : ∀ e, e < l.length → pb l e < k
  gap : ∀ e, e + 1 < l.length → pb l e + 2 ≤ pa l (e + 1)
  wet : ∀ e, e < l.length → ∀ j : Int, pa l e ≤ j → j ≤ pb l e → depth m t j ≠ 0 ∧ topL m t j = topL m t (pa l e) ∧ topR m t j = topR m t (pa l e)
  d0 : 0 < l.length → ∀ j : Int, 0 ≤ j → j < pa l 0 → depth m t j = 0
  d1 : ∀ e, e + 1 < l.length → ∀ j : Int, pb l e < j → j < pa l (e + 1) → depth m t j = 0
  d2 : 0 < l.length → ∀ j : Int, pb l (l.length - 1) < j → j < k → depth m t j = 0
  d3 : l.length = 0 → ∀ j : Int, 0 ≤ j → j < k → depth m t j = 0
theorem PoolsIn.srt {m : Meas} {t : Int} {k : Nat} {l : List (Int × Int)} (h : PoolsIn m t k l) (e : Nat) : ∀ f, e < f → f < l.length → pb l e < pa l f
  | 0, h1, _ => by omega
  | f + 1, h1, h2 => by
    have := h.gap f h2
    by_cases g : e < f
    · have := h.srt e f g (by omega); have := h.le f (by omega); omega
    · have : e = f := by omega
      subst this; omega

theorem pools_in (m : Meas) (t : Int) : ∀ k, k ≤ m.hs.length → PoolsIn m t k (pls m t k)
  | 0, _ => by
    constructor <;> simp [pls] <;> omega
  | k + 1, hk => by
    have ih := pools_in m t k (by omega)
    simp only [pls, pstep]
    generalize pls m t k = l at ih
    split
    · rename_i c
      have d0' : ∀ j : Int, j = k → depth m t j = 0 := fun j e => by rw [e]; exact c
      refine ⟨ih.lo, ih.le, fun e h => by have := ih.hi e h; omega, ih.gap, ih.wet, ih.d0, ih.d1, fun h j h1 h2 => ?_, fun h j h1 h2 => ?_⟩
      · rcases (show j < k ∨ k ≤ j by omega) with g | g
        · exact ih.d2 h j h1 g
        · exact d0' j (by omega)
      · rcases (show j < k ∨ k ≤ j by omega) with g | g
        · exact ih.d3 h j h1 g
        · exact d0' j (by omega)
    · rename_i c
      split
      · rename_i cc
        obtain ⟨c1, c2, c3⟩ := cc
        obtain ⟨n, hn⟩ : ∃ n, l.length = n + 1 := ⟨l.length - 1, by omega⟩
        have hn1 : l.length - 1 = n := by omega
        rw [hn1] at c2 ⊢
        have A : ∀ e, pa (l.set n (pa l n, (k : Int))) e = pa l e := fun e => by
          rw [pa_set (by omega)]; split
          · rename_i g; rw [g]
          · rfl
        have B : ∀ e, e ≠ n → pb (l.set n (pa l n, (k : Int))) e = pb l e := fun e g => by rw [pb_set (by omega), if_neg g]
        have B' : pb (l.set n (pa l n, (k : Int))) n = k := by rw [pb_set (by omega), if_pos rfl]
        have L : (l.set n (pa l n, (k : Int))).length = l.length := by simp
        have hle := ih.le n (by omega)
        have hlo := ih.lo n (by omega)
        refine ⟨fun e h => ?_, fun e h => ?_, fun e h => ?_, fun e h => ?_, fun e h j h1 h2 => ?_, fun h j h1 h2 => ?_, fun e h j h1 h2 => ?_, fun h j h1 h2 => ?_, fun h j h1 h2 => ?_⟩
        all_goals rw [L] at h
        · rw [A]; exact ih.lo e h
        · rw [A]
          by_cases g : e = n
          · subst g; rw [B']; omega
          · rw [B e g]; exact ih.le e h
        · by_cases g : e = n
          · subst g; rw [B']; omega
          · rw [B e g]; have := ih.hi e h; omega
        · rw [A, B e (by omega)]; exact ih.gap e h
        · rw [A] at h1 ⊢
          by_cases g : e = n
          · subst g
            rw [B'] at h2
            rcases (show j < k ∨ k ≤ j by omega) with g2 | g2
            · exact ih.wet e h j h1 (by omega)
            · have ej : j = ((k : Int) - 1) + 1 := by omega
              have w0 := ih.wet e h ((k : Int) - 1) (by omega) (by omega)
              have w1 : depth m t ((k : Int) - 1 + 1) ≠ 0 := by rw [← ej]; have : j = k := by omega
                                                                rw [this]; exact c
              obtain ⟨e1, e2⟩ := wet_next (m := m) (t := t) (i := (k : Int) - 1) (by omega) (by omega) w0.1 w1
              rw [ej, e1, e2]
              exact ⟨w1, w0.2⟩
          · rw [B e g] at h2; exact ih.wet e h j h1 h2
        · rw [A] at h2; exact ih.d0 h j h1 h2
        · rw [A] at h2; rw [B e (by omega)] at h1; exact ih.d1 e h j h1 h2
        · rw [L, hn1, B'] at h1; omega
        · omega
      · rename_i cc
        have wk : depth m t k ≠ 0 := c
        have A : ∀ e, e < l.length → pa (l ++ [((k : Int), (k : Int))]) e = pa l e := fun e g => by rw [pa_append, if_pos g]
        have B : ∀ e, e < l.length → pb (l ++ [((k : Int), (k : Int))]) e = pb l e := fun e g => by rw [pb_append, if_pos g]
        have A' : pa (l ++ [((k : Int), (k : Int))]) l.length = k := by rw [pa_append, if_neg (by omega), if_pos rfl]
        have B' : pb (l ++ [((k : Int), (k : Int))]) l.length = k := by rw [pb_append, if_neg (by omega), if_pos rfl]
        have L : (l ++ [((k : Int), (k : Int))]).length = l.length + 1 := by simp
        have far : 0 < l.length → pb l (l.length - 1) + 2 ≤ k := by
          intro h
          have h3 := ih.hi (l.length - 1) (by omega)
          have h4 := ih.lo (l.length - 1) (by omega)
          have h5 := ih.le (l.length - 1) (by omega)
          rcases (show (pb l (l.length - 1)) < ((k : Int) - 1) ∨ ((k : Int) - 1) ≤ (pb l (l.length - 1)) by omega) with g | g
          · omega
          · have e : pb l (l.length - 1) = (k : Int) - 1 := by omega
            have w0 := (ih.wet (l.length - 1) (by omega) ((k : Int) - 1) (by omega) (by omega)).1
            have e2 : ((k : Int) - 1) + 1 = k := by omega
            have := lev_next (m := m) (t := t) (i := (k : Int) - 1) (by omega) (by omega) w0 (by rw [e2]; exact wk)
            rw [e2] at this
            exact absurd ⟨h, e, this⟩ cc
        refine ⟨fun e h => ?_, fun e h => ?_, fun e h => ?_, fun e h => ?_, fun e h j h1 h2 => ?_, fun h j h1 h2 => ?_, fun e h j h1 h2 => ?_, fun h j h1 h2 => ?_, fun h j h1 h2 => ?_⟩
        all_goals rw [L] at h
        · by_cases g : e < l.length
          · rw [A e g]; exact ih.lo e g
          · obtain rfl : e = l.length := by omega
            rw [A']; omega
        · by_cases g : e < l.length
          · rw [A e g, B e g]; exact ih.le e g
          · obtain rfl : e = l.length := by omega
            rw [A', B']; omega
        · by_cases g : e < l.length
          · rw [B e g]; have := ih.hi e g; omega
          · obtain rfl : e = l.length := by omega
            rw [B']; omega
        · rw [B e (by omega)]
          by_cases g : e + 1 < l.length
          · rw [A _ g]; exact ih.gap e g
          · obtain g2 : e + 1 = l.length := by omega
            rw [g2, A']
            have := far (by omega)
            have e3 : l.length - 1 = e := by omega
            rw [e3] at this; exact this
        · by_cases g : e < l.length
          · rw [A e g] at h1 ⊢; rw [B e g] at h2; exact ih.wet e g j h1 h2
          · obtain rfl : e = l.length := by omega
            rw [A'] at h1 ⊢; rw [B'] at h2
            have : j = k := by omega
            rw [this]; exact ⟨wk, rfl, rfl⟩
        · by_cases g : 0 < l.length
          · rw [A 0 g] at h2; exact ih.d0 g j h1 h2
          · have g2 : l.length = 0 := by omega
            have := A'
            rw [g2] at this
            rw [this] at h2
            exact ih.d3 g2 j h1 h2
        · rw [B e (by omega)] at h1
          by_cases g : e + 1 < l.length
          · rw [A _ g] at h2; exact ih.d1 e g j h1 h2
          · obtain g2 : e + 1 = l.length := by omega
            rw [g2, A'] at h2
            have e3 : l.length - 1 = e := by omega
            exact ih.d2 (by omega) j (by rw [e3]; exact h1) h2
        · have e3 : (l ++ [((k : Int), (k : Int))]).length - 1 = l.length := by rw [L]; omega
          rw [e3, B'] at h1
          omega
        · omega

end Go.Proofs.Ytogglbhidlnijaa
